import Derived.Test.YtfimajijegohmaaGreatDoorRd
namespace Go.Proofs.YtfimajijegohmaaGreatDoor
set_option linter.unusedVariables false
set_option linter.unusedSimpArgs false
def oneC (m : MethR) : ClassR := ⟨[65], objN, [], false, [], [m]⟩
theorem one_look (m : MethR) : look (wl [oneC m]) [65] = some (oneC m) := by
 simp [look, wl, List.find?, objC, fltC, oneC, objN, fltN]
theorem one_lookO (m : MethR) : look (wl [oneC m]) objN = some objC := by
 simp [look, wl, List.find?, objC]
theorem one_round (m : MethR) : roundB (wl [oneC m]) [65] = false := by
 unfold roundB
 have h1 : above (wl [oneC m]) [65] = [objN] := by unfold above; rw [one_look]; simp [aboveC, oneC, objN]
 rw [h1]
 have h2 : everyU (wl [oneC m]) objN = [objN] := by
   have h3 : above (wl [oneC m]) objN = [] := by unfold above; rw [one_lookO]; simp [aboveC, objC]
   unfold everyU
   rw [show (100 : Nat) = 98 + 1 + 1 from rfl]
   unfold bfs
   simp only [List.getElem?_cons_zero, h3, addNew]
   unfold bfs
   simp
 simp only [List.any_cons, List.any_nil, Bool.or_false]
 rw [List.contains_eq_mem, decide_eq_false_iff_not, every_mem, h2]
 simp [objN]
theorem one_good {m : MethR} (h : methErr m [] = 0) : Good [oneC m] := by
 refine ⟨by simp, fun c hc => ?_, fun j c hj => ?_, fun c hc => ?_, fun c hc => ?_⟩
 · rw [List.mem_singleton.1 hc]
   unfold classErr
   rw [if_neg, if_neg, if_neg, if_neg, if_neg, if_neg]
   · simp [oneC]
   · rw [Decidable.not_not]
     refine (firstNZ_zero _ _).2 fun j hj => ?_
     have : j = 0 := by simp [oneC] at hj; omega
     subst this
     simp [methsErr, oneC, h]
   · simp [oneC, firstNZ]
   · simp [oneC]
   · simp [oneC, firstNZ]
   · rintro (e | ⟨_, e⟩) <;> exact absurd e (by simp only [oneC]; decide)
 · match j with
   | 0 =>
     simp at hj; subst hj
     simp [names, wl, objC, fltC, oneC, objN, fltN]
   | j + 1 => simp at hj
 · rw [List.mem_singleton.1 hc]
   unfold joinErr
   rw [if_neg, if_neg, if_neg, if_neg, if_neg, if_neg]
   · simp [oneC]
   · simp [oneC, firstNZ]
   · show ¬ hasErr _ objN false ≠ 0
     unfold hasErr; rw [one_lookO]; simp [objC]
   · simp [oneC, firstNZ]
   · show ¬ (look _ objN).isNone = true
     rw [one_lookO]; simp
   · simp [oneC, objN]
 · rw [List.mem_singleton.1 hc]
   exact one_round m
theorem hs_skip {L : List ClassR} {cF : HandR → FrR → Option FrR} {z : Nat} {f : FrR} : ∀ {hs : List HandR} {s : LkSt}, (∀ h ∈ hs, (z : Int) < h.lo ∨ h.hi ≤ (z : Int)) → hsF L cF z f hs s = some s
 | [], _, _ => rfl
 | h :: r, s, hh => by
   unfold hsF
   rw [if_pos (hh h (by simp))]
   exact hs_skip fun x hx => hh x (by simp [hx])
theorem lk_next {L : List ClassR} {c : Nm} {m : MethR} {z : Nat} {fr : Int → Option FrR} {r : List Nat} {f out : FrR} {x : InsR} (hf : fr (z : Int) = some f) (hh : ∀ h ∈ m.hs, (z : Int) < h.lo ∨ h.hi ≤ (z : Int)) (hx : m.code[z]? = some x)
   (ha : afterF L c (givesL m) x f = some out) (hn : aft m.code z = [z + 1]) (h0 : fr ((z + 1 : Nat) : Int) = none) : lkFn L c m z ⟨fr, r⟩ = some ⟨updF fr ((z + 1 : Nat) : Int) out, r ++ [z + 1]⟩ := by
 unfold lkFn lookF
 rw [show (LkSt.mk fr r).fr (z : Int) = some f from hf]
 simp only [Option.elim_some]
 rw [hs_skip hh]
 simp only [Option.elim_some, hx, ha, hn, nxF]
 rw [meetF_new (s := ⟨fr, r⟩) (z := z + 1) h0]
 rfl
theorem lk_end {L : List ClassR} {c : Nm} {m : MethR} {z : Nat} {fr : Int → Option FrR} {r : List Nat} {f out : FrR} {x : InsR} (hf : fr (z : Int) = some f) (hh : ∀ h ∈ m.hs, (z : Int) < h.lo ∨ h.hi ≤ (z : Int)) (hx : m.code[z]? = some x)
   (ha : afterF L c (givesL m) x f = some out) (hn : aft m.code z = []) : lkFn L c m z ⟨fr, r⟩ = some ⟨fr, r⟩ := by
 unfold lkFn lookF
 rw [show (LkSt.mk fr r).fr (z : Int) = some f from hf]
 simp only [Option.elim_some]
 rw [hs_skip hh]
 simp only [Option.elim_some, hx, ha, hn, nxF]
theorem args_of {m : MethR} {A : List Nm} {g : Nm} (h : MethodOk m.ty A g) : argsL m = A ∧ givesL m = g := method_uniq (args_gives ⟨A, g, h⟩) h
theorem does_num {L : List ClassR} {t : Nm} (h : numB t = true) : doesX L t t = true := by
 unfold numB at h
 rw [Bool.or_eq_true, beq_iff_eq, beq_iff_eq] at h
 unfold doesX
 rcases h with rfl | rfl
 · rw [show ([73] : Nm) = (Kd.ty 0 .int).text from rfl, kd_text (show (Kd.ty 0 .int).Ok L from ⟨by omega, trivial⟩)]
   simp [doesK, doesT]
 · rw [show ([74] : Nm) = (Kd.ty 0 .long).text from rfl, kd_text (show (Kd.ty 0 .long).Ok L from ⟨by omega, trivial⟩)]
   simp [doesK, doesT]
theorem take_num {L : List ClassR} {t : Nm} {f : FrR} {A : List Nm} (h : numB t = true) (hs : f.st = A ++ [t]) : takeF L [t] f = some ⟨f.loc, A⟩ := by
 rw [take_one (kd_num2 L h).1 (popF_snoc hs) (does_num h)]
 rfl
def idM (t : Nm) : MethR := ⟨[105, 100], 40 :: (t ++ 41 :: t), true, false, false, 1, [⟨4, 0, 0, [], [], []⟩, ⟨27, 0, 0, [], [], []⟩], []⟩
theorem num_type {t : Nm} (h : numB t = true) : TypeOk t := by
 unfold numB at h
 rw [Bool.or_eq_true, beq_iff_eq, beq_iff_eq] at h
 rcases h with rfl | rfl
 · exact ⟨[], [73], rfl, by simp, by simp, Or.inl rfl⟩
 · exact ⟨[], [74], rfl, by simp, by simp, Or.inr (Or.inl rfl)⟩
open Go.RowKit Go.Shelf Go.Lib Go.Sort
theorem rows_of_blk {W : World} {g size cap : Nat} {T : TypeId} {L : List (List Value)} (h : Blk W g T L.flatten.toArray) (hl : L.length ≤ cap) (hs : ∀ c ∈ L, c.length = size) : RowsAt W size (some ⟨g, 0, none⟩) cap L :=
 ⟨hl, Or.inr ⟨g, 0, rfl, h.lt, fun k cs hk j u hu => by
   rw [Nat.zero_add, h.cell, List.getElem?_toArray]
   exact flat_get L size k j cs u hs hk hu⟩⟩
def oneA (gm : Nat) (q : MAddr) : CAddr := ⟨none, 0, none, 0, some ⟨gm, 0, none⟩, 1, [q]⟩
theorem one_at {W : World} {gk gm : Nat} {m : MethR} {q : MAddr} (hk : Blk W gk 31 (classCells (oneC m) (oneA gm q)).toArray) (hm : Blk W gm 39 (mArr m q)) (hc : MethAt W m q) : ClassesAt W (some ⟨gk, 0, none⟩) 1 [oneC m] [oneA gm q] := by
 refine ⟨rfl, rows_of_blk (L := [classCells (oneC m) (oneA gm q)]) (by simpa using hk) (by simp) (by intro c hc; rw [List.mem_singleton.1 hc]; rfl), fun k c p hkc hp => ?_⟩
 match k with
 | 0 =>
   simp at hkc hp
   subst hkc hp
   refine ⟨⟨Nat.le_refl _, Or.inl rfl⟩, ⟨Nat.le_refl _, Or.inl rfl⟩, rfl, rows_of_blk (L := [methCells m q]) (by rw [List.flatten_singleton]; exact hm) (Nat.le_refl _) (by intro c hc; rw [List.mem_singleton.1 hc]; rfl), fun k m' p' hm' hp' => ?_⟩
   match k with
   | 0 =>
     simp [oneC] at hm'
     simp [oneA] at hp'
     subst hm' hp'
     exact hc
   | k + 1 => simp [oneC] at hm'
 | k + 1 => simp at hkc
theorem one_find (m : MethR) (p : CAddr) : cpFind (wcp [oneC m] [p]) [65] = some (oneC m, p) := by
 simp [cpFind, wcp, first2, objC, fltC, objN, fltN, oneC]
theorem one_ck {m : MethR} (hg : Good [oneC m]) (h : lookedF (wl [oneC m]) [65] m ≠ none) : ckErr [oneC m] = 0 := by
 unfold ckErr
 rw [if_neg (by rw [good_read hg]; simp), if_neg]
 intro hb
 cases hl : lookedF (wl [oneC m]) [65] m with
 | none => exact h hl
 | some r =>
   have hc : cBad (wl [oneC m]) (oneC m) = false := by
     unfold cBad
     rw [List.any_eq_false]
     intro x hx
     have : x = m := by simpa [oneC] using hx
     subst this
     have := mBad_some (c := [65]) hl
     show ¬ mBad (wl [oneC x]) [65] x = true
     rw [this]; simp
   simp [hc] at hb
end Go.Proofs.YtfimajijegohmaaGreatDoor
