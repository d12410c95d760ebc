import Derived.Test.YtbnkckjdgpiggaaGreatDoorRd
namespace Go.Proofs.YtbnkckjdgpiggaaGreatDoor
set_option linter.unusedVariables false
set_option linter.unusedSimpArgs false
def zdn (m : zo) : zd := ⟨[65], zbq, [], false, [], [m]⟩
theorem z3m (m : zo) : zbi (wl [zdn m]) [65] = some (zdn m) := by
 simp [zbi, wl, List.find?, zhy, zoc, zdn, zbq, ztl]
theorem zmk (m : zo) : zbi (wl [zdn m]) zbq = some zhy := by
 simp [zbi, wl, List.find?, zhy]
theorem z0u (m : zo) : zhv (wl [zdn m]) [65] = false := by
 unfold zhv
 have h1 : zcr (wl [zdn m]) [65] = [zbq] := by unfold zcr; rw [z3m]; simp [zdy, zdn, zbq]
 rw [h1]
 have h2 : zkf (wl [zdn m]) zbq = [zbq] := by
   have h3 : zcr (wl [zdn m]) zbq = [] := by unfold zcr; rw [zmk]; simp [zdy, zhy]
   unfold zkf
   rw [show (100 : Nat) = 98 + 1 + 1 from rfl]
   unfold bfs
   simp only [List.getElem?_cons_zero, h3, zdx]
   unfold bfs
   simp
 simp only [List.any_cons, List.any_nil, Bool.or_false]
 rw [List.contains_eq_mem, decide_eq_false_iff_not, zqj, h2]
 simp [zbq]
theorem zuk {m : zo} (h : zbx m [] = 0) : zdf [zdn m] := by
 refine ⟨by simp, fun c hc => ?_, fun j c hj => ?_, fun c hc => ?_, fun c hc => ?_⟩
 . rw [List.mem_singleton.1 hc]
   unfold za3
   rw [if_neg, if_neg, if_neg, if_neg, if_neg, if_neg]
   . simp [zdn]
   . rw [Decidable.not_not]
     refine (zx _ _).2 fun j hj => ?_
     have : j = 0 := by simp [zdn] at hj; omega
     subst this
     simp [zbu, zdn, h]
   . simp [zdn, zw]
   . simp [zdn]
   . simp [zdn, zw]
   . rintro (e | ⟨_, e⟩) <;> exact absurd e (by simp only [zdn]; decide)
 . match j with
   | 0 =>
     simp at hj; subst hj
     simp [zbt, wl, zhy, zoc, zdn, zbq, ztl]
   | j + 1 => simp at hj
 . rw [List.mem_singleton.1 hc]
   unfold zb4
   rw [if_neg, if_neg, if_neg, if_neg, if_neg, if_neg]
   . simp [zdn]
   . simp [zdn, zw]
   . show ¬ zcd _ zbq false ≠ 0
     unfold zcd; rw [zmk]; simp [zhy]
   . simp [zdn, zw]
   . show ¬ (zbi _ zbq).isNone = true
     rw [zmk]; simp
   . simp [zdn, zbq]
 . rw [List.mem_singleton.1 hc]
   exact z0u m
theorem zse {L : List zd} {cF : zdd -> FrR -> Option FrR} {z : Nat} {f : FrR} : ∀ {hs : List zdd} {s : zcj}, (∀ h ∈ hs, (z : Int) < h.lo \/ h.hi <= (z : Int)) -> hsF L cF z f hs s = some s
 | [], _, _ => rfl
 | h :: r, s, hh => by
   unfold hsF
   rw [if_pos (hh h (by simp))]
   exact zse fun x hx => hh x (by simp [hx])
theorem zr8 {L : List zd} {c : Nm} {m : zo} {z : Nat} {fr : Int -> Option FrR} {r : List Nat} {f out : FrR} {x : zal} (hf : fr (z : Int) = some f) (hh : ∀ h ∈ m.hs, (z : Int) < h.lo \/ h.hi <= (z : Int)) (hx : m.code[z]? = some x)
   (ha : zb0 L c (zdw m) x f = some out) (hn : aft m.code z = [z + 1]) (h0 : fr ((z + 1 : Nat) : Int) = none) : zm1 L c m z ⟨fr, r⟩ = some ⟨zhw fr ((z + 1 : Nat) : Int) out, r ++ [z + 1]⟩ := by
 unfold zm1 zly
 rw [show (zcj.mk fr r).fr (z : Int) = some f from hf]
 simp only [Option.elim_some]
 rw [zse hh]
 simp only [Option.elim_some, hx, ha, hn, nxF]
 rw [zet (s := ⟨fr, r⟩) (z := z + 1) h0]
 rfl
theorem z68 {L : List zd} {c : Nm} {m : zo} {z : Nat} {fr : Int -> Option FrR} {r : List Nat} {f out : FrR} {x : zal} (hf : fr (z : Int) = some f) (hh : ∀ h ∈ m.hs, (z : Int) < h.lo \/ h.hi <= (z : Int)) (hx : m.code[z]? = some x)
   (ha : zb0 L c (zdw m) x f = some out) (hn : aft m.code z = []) : zm1 L c m z ⟨fr, r⟩ = some ⟨fr, r⟩ := by
 unfold zm1 zly
 rw [show (zcj.mk fr r).fr (z : Int) = some f from hf]
 simp only [Option.elim_some]
 rw [zse hh]
 simp only [Option.elim_some, hx, ha, hn, nxF]
theorem z5x {m : zo} {A : List Nm} {g : Nm} (h : zk m.ty A g) : zgl m = A /\ zdw m = g := zap (zfq ⟨A, g, h⟩) h
theorem z1t {L : List zd} {t : Nm} (h : zjf t = true) : zlp L t t = true := by
 unfold zjf at h
 rw [Bool.or_eq_true, beq_iff_eq, beq_iff_eq] at h
 unfold zlp
 rcases h with rfl | rfl
 . rw [show ([73] : Nm) = (Kd.ty 0 .int).text from rfl, ztk (show (Kd.ty 0 .int).Ok L from ⟨by omega, trivial⟩)]
   simp [zu8, zd3]
 . rw [show ([74] : Nm) = (Kd.ty 0 .long).text from rfl, ztk (show (Kd.ty 0 .long).Ok L from ⟨by omega, trivial⟩)]
   simp [zu8, zd3]
theorem zog {L : List zd} {t : Nm} {f : FrR} {A : List Nm} (h : zjf t = true) (hs : f.st = A ++ [t]) : zbk L [t] f = some ⟨f.loc, A⟩ := by
 rw [ztr (zeo L h).1 (zis hs) (z1t h)]
 rfl
def idM (t : Nm) : zo := ⟨[105, 100], 40 :: (t ++ 41 :: t), true, false, false, 1, [⟨4, 0, 0, [], [], []⟩, ⟨27, 0, 0, [], [], []⟩], []⟩
theorem zu6 {t : Nm} (h : zjf t = true) : zi t := by
 unfold zjf at h
 rw [Bool.or_eq_true, beq_iff_eq, beq_iff_eq] at h
 rcases h with rfl | rfl
 . exact ⟨[], [73], rfl, by simp, by simp, Or.inl rfl⟩
 . exact ⟨[], [74], rfl, by simp, by simp, Or.inr (Or.inl rfl)⟩
open Go.RowKit Go.Shelf Go.Lib Go.Sort
theorem zck {W : World} {g size cap : Nat} {T : TypeId} {L : List (List Value)} (h : Blk W g T L.flatten.toArray) (hl : L.length <= cap) (hs : ∀ c ∈ L, c.length = size) : za6 W size (some ⟨g, 0, none⟩) cap L :=
 ⟨hl, Or.inr ⟨g, 0, rfl, h.lt, fun k cs hk j u hu => by
   rw [Nat.zero_add, h.cell, List.getElem?_toArray]
   exact zox L size k j cs u hs hk hu⟩⟩
def zpu (gm : Nat) (q : zaf) : zbf := ⟨none, 0, none, 0, some ⟨gm, 0, none⟩, 1, [q]⟩
theorem z7i {W : World} {gk gm : Nat} {m : zo} {q : zaf} (hk : Blk W gk 50 (zb7 (zdn m) (zpu gm q)).toArray) (hm : Blk W gm 45 (zj4 m q)) (hc : zer W m q) : za7 W (some ⟨gk, 0, none⟩) 1 [zdn m] [zpu gm q] := by
 refine ⟨rfl, zck (L := [zb7 (zdn m) (zpu gm q)]) (by simpa using hk) (by simp) (by intro c hc; rw [List.mem_singleton.1 hc]; rfl), fun k c p hkc hp => ?_⟩
 match k with
 | 0 =>
   simp at hkc hp
   subst hkc hp
   refine ⟨⟨Nat.le_refl _, Or.inl rfl⟩, ⟨Nat.le_refl _, Or.inl rfl⟩, rfl, zck (L := [zfj m q]) (by rw [List.flatten_singleton]; exact hm) (Nat.le_refl _) (by intro c hc; rw [List.mem_singleton.1 hc]; rfl), fun k m' p' hm' hp' => ?_⟩
   match k with
   | 0 =>
     simp [zdn] at hm'
     simp [zpu] at hp'
     subst hm' hp'
     exact hc
   | k + 1 => simp [zdn] at hm'
 | k + 1 => simp at hkc
theorem z3w (m : zo) (p : zbf) : zbj (wcp [zdn m] [p]) [65] = some (zdn m, p) := by
 simp [zbj, wcp, zg4, zhy, zoc, zbq, ztl, zdn]
theorem z67 {m : zo} (hg : zdf [zdn m]) (h : zfb (wl [zdn m]) [65] m ≠ none) : zej [zdn m] = 0 := by
 unfold zej
 rw [if_neg (by rw [zq0 hg]; simp), if_neg]
 intro hb
 cases hl : zfb (wl [zdn m]) [65] m with
 | none => exact h hl
 | some r =>
   have hc : z5f (wl [zdn m]) (zdn m) = false := by
     unfold z5f
     rw [List.any_eq_false]
     intro x hx
     have : x = m := by simpa [zdn] using hx
     subst this
     have := zqb (c := [65]) hl
     show ¬ z1u (wl [zdn x]) [65] x = true
     rw [this]; simp
   simp [hc] at hb
end Go.Proofs.YtbnkckjdgpiggaaGreatDoor
