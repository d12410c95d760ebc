import Derived.Test.YtbnkckjdgpiggaaGreatDoorPlain
namespace Go.Proofs.YtbnkckjdgpiggaaGreatDoor
set_option linter.unusedVariables false
set_option linter.unusedSimpArgs false
open Go.Lib
inductive Bse where
 | int
 | long
 | cls (n : Nm)
inductive Kd where
 | nul
 | top
 | ty (d : Nat) (b : Bse)
def Bse.text : Bse -> Nm
 | .int => [73]
 | .long => [74]
 | .cls n => 76 :: (n ++ [59])
def Bse.isRef : Bse -> Bool
 | .cls _ => true
 | _ => false
def Bse.cl : Bse -> Nm
 | .cls n => n
 | _ => []
def Kd.text : Kd -> Nm
 | .nul => [78]
 | .top => [84]
 | .ty d b => List.replicate d 91 ++ b.text
def Kd.refs : Kd -> Bool
 | .ty 0 b => b.isRef
 | .ty (_ + 1) _ => true
 | _ => false
def Bse.Ok (L : List zd) : Bse -> Prop
 | .cls n => zr n = true /\ (zbi L n).isSome = true
 | _ => True
def Kd.Ok (L : List zd) : Kd -> Prop
 | .ty d b => d <= 3 /\ b.Ok L
 | _ => True
theorem zh4 (d : Nat) (b : Bse) : (Kd.ty (d + 1) b).text = 91 :: (Kd.ty d b).text := rfl
theorem ziv (b : Bse) : ∃ c r, b.text = c :: r /\ c ≠ 91 /\ c ≠ 78 /\ c ≠ 84 := by
 cases b with
 | int => exact ⟨73, [], rfl, by decide, by decide, by decide⟩
 | long => exact ⟨74, [], rfl, by decide, by decide, by decide⟩
 | cls n => exact ⟨76, n ++ [59], rfl, by decide, by decide, by decide⟩
theorem z10 {a b : Bse} (h : a.text = b.text) : a = b := by
 cases a <;> cases b <;> simp [Bse.text] at h <;> first | rfl | (rw [h])
theorem zgn : ∀ {d e : Nat} {a b : Bse}, (Kd.ty d a).text = (Kd.ty e b).text -> d = e /\ a = b
 | 0, 0, a, b, h => ⟨rfl, z10 h⟩
 | 0, e + 1, a, b, h => by
   obtain ⟨c, r, hc, h1, _⟩ := ziv a
   rw [zh4] at h
   simp only [Kd.text, List.replicate, List.nil_append, hc, List.cons.injEq] at h
   exact absurd h.1 h1
 | d + 1, 0, a, b, h => by
   obtain ⟨c, r, hc, h1, _⟩ := ziv b
   rw [zh4] at h
   simp only [Kd.text, List.replicate, List.nil_append, hc, List.cons.injEq] at h
   exact absurd h.1.symm h1
 | d + 1, e + 1, a, b, h => by
   rw [zh4, zh4] at h
   simp only [List.cons.injEq, true_and] at h
   obtain ⟨h1, h2⟩ := zgn h
   exact ⟨by rw [h1], h2⟩
theorem zmv (d : Nat) (b : Bse) : ∃ c r, (Kd.ty d b).text = c :: r /\ c ≠ 78 /\ c ≠ 84 := by
 cases d with
 | zero => obtain ⟨c, r, h, _, h2⟩ := ziv b; exact ⟨c, r, h, h2⟩
 | succ d => exact ⟨91, _, zh4 d b, by decide, by decide⟩
theorem zt9 {a b : Kd} (h : a.text = b.text) : a = b := by
 cases a with
 | nul =>
   cases b with
   | nul => rfl
   | top => simp [Kd.text] at h
   | ty d b =>
     obtain ⟨c, r, hc, h1, _⟩ := zmv d b
     rw [hc] at h
     simp only [Kd.text, List.cons.injEq] at h
     exact absurd h.1.symm h1
 | top =>
   cases b with
   | nul => simp [Kd.text] at h
   | top => rfl
   | ty d b =>
     obtain ⟨c, r, hc, _, h1⟩ := zmv d b
     rw [hc] at h
     simp only [Kd.text, List.cons.injEq] at h
     exact absurd h.1.symm h1
 | ty d a =>
   cases b with
   | nul =>
     obtain ⟨c, r, hc, h1, _⟩ := zmv d a
     rw [hc] at h
     simp only [Kd.text, List.cons.injEq] at h
     exact absurd h.1 h1
   | top =>
     obtain ⟨c, r, hc, _, h1⟩ := zmv d a
     rw [hc] at h
     simp only [Kd.text, List.cons.injEq] at h
     exact absurd h.1 h1
   | ty e b =>
     obtain ⟨h1, h2⟩ := zgn h
     rw [h1, h2]
theorem zjg {t : Nm} : zi t ↔ ∃ d b, t = (Kd.ty d b).text /\ d <= 3 /\ ∀ n, b = .cls n -> zr n = true := by
 constructor
 . rintro ⟨P, X, rfl, hP, hl, hX⟩
   have hr : P = List.replicate P.length 91 := List.eq_replicate_iff.2 ⟨rfl, hP⟩
   rcases hX with rfl | rfl | ⟨n, hn, rfl⟩
   . exact ⟨P.length, .int, by rw [hr]; simp [Kd.text, Bse.text], hl, fun n e => by cases e⟩
   . exact ⟨P.length, .long, by rw [hr]; simp [Kd.text, Bse.text], hl, fun n e => by cases e⟩
   . exact ⟨P.length, .cls n, by rw [hr]; simp [Kd.text, Bse.text], hl, fun m e => by cases e; exact hn⟩
 . rintro ⟨d, b, rfl, hd, hn⟩
   refine ⟨List.replicate d 91, b.text, rfl, fun b hb => (List.mem_replicate.1 hb).2, by simpa using hd, ?_⟩
   cases b with
   | int => exact Or.inl rfl
   | long => exact Or.inr (Or.inl rfl)
   | cls n => exact Or.inr (Or.inr ⟨n, hn n rfl, rfl⟩)
open Classical in
noncomputable def zh (L : List zd) (t : Nm) : Int :=
 if t = [78] \/ t = [84] then 0 else if ¬ zi t then 1 else if ∃ d n, t = (Kd.ty d (.cls n)).text /\ zbi L n = none then 3 else 0
theorem zlo {L : List zd} {t : Nm} (h : t = [78] \/ t = [84]) : zh L t = 0 := by unfold zh; rw [if_pos h]
theorem zui {L : List zd} {t : Nm} (h1 : ¬ (t = [78] \/ t = [84])) (h : ¬ zi t) : zh L t = 1 := by unfold zh; rw [if_neg h1, if_pos h]
theorem z23 (d : Nat) (b : Bse) : ¬ ((Kd.ty d b).text = [78] \/ (Kd.ty d b).text = [84]) := by
 obtain ⟨c, r, hc, h1, h2⟩ := zmv d b
 rw [hc]
 rintro (e | e) <;> simp only [List.cons.injEq] at e
 . exact h1 e.1
 . exact h2 e.1
theorem zp3 {L : List zd} {d : Nat} {n : Nm} (hd : d <= 3) (hn : zr n = true) (hl : zbi L n = none) : zh L (Kd.ty d (.cls n)).text = 3 := by
 unfold zh
 rw [if_neg (z23 _ _), if_neg (fun h => h (zjg.2 ⟨d, _, rfl, hd, fun m e => by cases e; exact hn⟩)), if_pos ⟨d, n, rfl, hl⟩]
theorem zgy {L : List zd} {k : Kd} (h : k.Ok L) : zh L k.text = 0 := by
 cases k with
 | nul => exact zlo (Or.inl rfl)
 | top => exact zlo (Or.inr rfl)
 | ty d b =>
   unfold zh
   rw [if_neg (z23 _ _), if_neg, if_neg]
   . rintro ⟨e, n, h1, h2⟩
     obtain ⟨rfl, rfl⟩ := zgn h1
     have := h.2.2
     rw [h2] at this
     cases this
   . intro hn
     refine hn (zjg.2 ⟨d, b, rfl, h.1, fun n e => ?_⟩)
     subst e
     exact h.2.1
theorem zih {L : List zd} {t : Nm} : zh L t = 0 ↔ ∃ k : Kd, k.Ok L /\ t = k.text := by
 constructor
 . intro h
   by_cases h1 : t = [78]
   . exact ⟨.nul, trivial, h1⟩
   by_cases h2 : t = [84]
   . exact ⟨.top, trivial, h2⟩
   by_cases h3 : zi t
   . obtain ⟨d, b, rfl, hd, hn⟩ := zjg.1 h3
     refine ⟨.ty d b, ⟨hd, ?_⟩, rfl⟩
     cases b with
     | int => trivial
     | long => trivial
     | cls n =>
       refine ⟨hn n rfl, ?_⟩
       cases hl : zbi L n with
       | some c => rfl
       | none => rw [zp3 hd (hn n rfl) hl] at h; omega
   . rw [zui (by rintro (e | e) <;> contradiction) h3] at h; omega
 . rintro ⟨k, hk, rfl⟩
   exact zgy hk
theorem ztd {l : List zd} (hg : zdf l) {n : Nm} (h : n ∈ zbt l) : zr n = true := by
 unfold zbt wl at h
 simp only [List.map_cons, List.mem_cons] at h
 rcases h with rfl | rfl | h
 . decide
 . decide
 . obtain ⟨c, hc, rfl⟩ := List.mem_map.1 h
   exact (zf6 (hg.ok c hc)).1.1
open Classical in
noncomputable def zd3 (L : List zd) : Nat -> Bse -> Nat -> Bse -> Bool
 | 0, b, 0, b' => decide (b = b') || (b.isRef && b'.isRef && (every L b.cl).contains b'.cl)
 | _ + 1, _, 0, b' => decide (b' = .cls zbq)
 | 0, _, _ + 1, _ => false
 | d + 1, b, d' + 1, b' => decide (d = d' /\ b = b') || ((Kd.ty d b).refs && (Kd.ty d' b').refs && zd3 L d b d' b')
noncomputable def zu8 (L : List zd) : Kd -> Kd -> Bool
 | _, .top => true
 | .nul, .nul => true
 | .nul, k => k.refs
 | .top, _ => false
 | .ty _ _, .nul => false
 | .ty d b, .ty d' b' => zd3 L d b d' b'
open Classical in
noncomputable def zez (L : List zd) (a b : Nm) : Nm :=
 if ((zbi L a).elim false (·.face) || (zbi L b).elim false (·.face)) = true then zbq else ((zcx L a).find? (fun c => (zcx L b).contains c)).getD zbq
def Kd.up : Kd -> Kd
 | .ty d b => .ty (d + 1) b
 | k => k
open Classical in
noncomputable def zcu (L : List zd) : Nat -> Bse -> Nat -> Bse -> Kd
 | 0, b, 0, b' => if b = b' then .ty 0 b else if (b.isRef && b'.isRef) = true then .ty 0 (.cls (zez L b.cl b'.cl)) else .top
 | _ + 1, _, 0, b' => if b'.isRef = true then .ty 0 (.cls zbq) else .top
 | 0, b, _ + 1, _ => if b.isRef = true then .ty 0 (.cls zbq) else .top
 | d + 1, b, d' + 1, b' => if d = d' /\ b = b' then .ty (d + 1) b else if ((Kd.ty d b).refs && (Kd.ty d' b').refs) = true then (zcu L d b d' b').up else .ty 0 (.cls zbq)
noncomputable def zkm (L : List zd) : Kd -> Kd -> Kd
 | .nul, .nul => .nul
 | .top, _ => .top
 | _, .top => .top
 | .nul, k => if k.refs = true then k else .top
 | k, .nul => if k.refs = true then k else .top
 | .ty d b, .ty d' b' => zcu L d b d' b'
def z7 (x : Nm) : Nm := 76 :: (x ++ [59])
theorem zim {L : List zd} : ∀ (f : Nat) (n : Nm), (zcp L f n).length < f -> zcp L (f + 1) n = zcp L f n
 | 0, n, h => by omega
 | f + 1, n, h => by
   unfold zcp at h |-
   cases hl : zbi L n with
   | none => rfl
   | some c =>
     rw [hl] at h
     simp only at h |-
     by_cases hs : c.sup = []
     . rw [if_pos hs, if_pos hs]
     . rw [if_neg hs] at h |-
       rw [if_neg hs]
       rw [zim f c.sup (by simp only [List.length_cons] at h; omega)]
theorem zhl {l : List zd} (hg : zdf l) (n : Nm) : (zcx (wl l) n).length <= 13 := by
 obtain ⟨cur, h, _⟩ := zky hg n
 exact h.len hg
theorem zns {L : List zd} : ∀ (f : Nat) (n : Nm), ∃ r, zcp L (f + 1) n = zcp L f n ++ r
 | 0, n => ⟨zcp L 1 n, rfl⟩
 | f + 1, n => by
   cases hl : zbi L n with
   | none => exact ⟨[], by unfold zcp; rw [hl]; rfl⟩
   | some c =>
     by_cases hs : c.sup = []
     . exact ⟨[], by unfold zcp; rw [hl]; simp [hs]⟩
     . obtain ⟨r, hr⟩ := zns f c.sup
       refine ⟨r, ?_⟩
       conv => lhs; unfold zcp
       conv => rhs; unfold zcp
       rw [hl]
       simp only [hs, if_false]
       rw [hr]; rfl
theorem zx5 {l : List zd} (hg : zdf l) {n : Nm} {c : zd} (hc : zbi (wl l) n = some c) (hs : c.sup ≠ []) : zcx (wl l) n = n :: zcx (wl l) c.sup := by
 have h1 := zhl hg c.sup
 unfold zcx at h1 |-
 simp only [List.length_cons] at h1
 have e : zcp (wl l) 100 n = c.sup :: zcp (wl l) 99 c.sup := by
   rw [zcp, hc]
   simp [hs]
 obtain ⟨r, hr⟩ := zns (L := wl l) 99 c.sup
 have h2 : (zcp (wl l) 99 c.sup).length < 99 := by
   have : (zcp (wl l) 100 c.sup).length = _ := congrArg List.length hr
   rw [List.length_append] at this
   omega
 rw [e, zim 99 c.sup h2]
theorem zmn {l : List zd} (hg : zdf l) {d c : Nm} (h : c ∈ zcx (wl l) d) : ∃ pre, zcx (wl l) d = pre ++ zcx (wl l) c := by
 rw [zjk hg] at h
 induction h with
 | refl => exact ⟨[], rfl⟩
 | @step x c hx h1 h2 ih =>
   obtain ⟨pre, hp⟩ := ih
   rw [zx5 hg h1 h2] at hp
   exact ⟨pre ++ [x], by rw [hp]; simp⟩
theorem zvl {l : List zd} (hg : zdf l) (n : Nm) : (zcx (wl l) n).Nodup := by
 obtain ⟨cur, h, _⟩ := zky hg n
 exact h.nd
theorem z14 {l : List zd} (hg : zdf l) {n x : Nm} (hn : n ∈ zbt l) (h : Rs (wl l) n x) : x ∈ zbt l := by
 rcases zto hg.join h.rc with e | e
 . rw [e]; exact hn
 . exact e
theorem z07 {l : List zd} (hg : zdf l) {x : Nm} {c : zd} (h1 : zbi (wl l) x = some c) (h2 : c.sup ≠ []) : ∃ d, zbi (wl l) c.sup = some d /\ d.face = false := by
 obtain ⟨_, hm⟩ := zfr h1
 unfold wl at hm
 simp only [List.mem_cons] at hm
 rcases hm with rfl | rfl | hm
 . exact absurd rfl h2
 . exact ⟨zhy, rfl, rfl⟩
 . obtain ⟨_, _, _, h4, _⟩ := zjw (hg.join c hm)
   unfold zcd at h4
   cases hl : zbi (wl l) c.sup with
   | none => rw [hl] at h4; simp at h4
   | some d =>
     rw [hl] at h4
     simp only [Option.elim] at h4
     refine ⟨d, rfl, ?_⟩
     split at h4
     . assumption
     . omega
theorem zx6 {l : List zd} (hg : zdf l) {a x : Nm} (ha : (zbi (wl l) a).elim false (·.face) = false) (h : Rs (wl l) a x) : (zbi (wl l) x).elim false (·.face) = false := by
 induction h with
 | refl => exact ha
 | step _ h1 h2 _ =>
   obtain ⟨d, hd, hf⟩ := z07 hg h1 h2
   rw [hd]; exact hf
def zit (A B : List Nm) : Nm := (A.find? (fun c => B.contains c)).getD zbq
theorem zh7 {l : List zd} (hg : zdf l) {a b : Nm} (ha : a ∈ zbt l) (hb : b ∈ zbt l) : zit (zcx (wl l) a) (zcx (wl l) b) ∈ zcx (wl l) a /\ zit (zcx (wl l) a) (zcx (wl l) b) ∈ zcx (wl l) b /\
   ∀ x ∈ zcx (wl l) a, x ∈ zcx (wl l) b -> x ∈ zcx (wl l) (zit (zcx (wl l) a) (zcx (wl l) b)) := by
 unfold zit
 cases hf : (zcx (wl l) a).find? (fun c => (zcx (wl l) b).contains c) with
 | none =>
   have h1 := List.find?_eq_none.1 hf zbq ((zjk hg _ _).2 (ztn hg ha))
   have h2 : zbq ∈ zcx (wl l) b := (zjk hg _ _).2 (ztn hg hb)
   simp [h2] at h1
 | some c =>
   rw [List.find?_eq_some_iff_append] at hf
   obtain ⟨h1, as, bs, h2, h3⟩ := hf
   simp only [Option.getD_some]
   have hca : c ∈ zcx (wl l) a := by rw [h2]; simp
   have hcb : c ∈ zcx (wl l) b := by simpa using h1
   refine ⟨hca, hcb, ?_⟩
   intro x hx hxb
   obtain ⟨pre, hp⟩ := zmn hg hca
   have hnd := zvl hg a
   -- the part ahead of c is the same
   have e : pre = as := by
     have hc : zcx (wl l) c = c :: (zcx (wl l) c).tail := rfl
     rw [hc] at hp
     rw [h2] at hp hnd
     have gen : ∀ (as pre bs q : List Nm), (as ++ c :: bs).Nodup -> as ++ c :: bs = pre ++ c :: q -> pre = as := by
       intro as
       induction as with
       | nil =>
         intro pre bs q hn h
         cases pre with
         | nil => rfl
         | cons p pre =>
           simp only [List.nil_append, List.cons_append, List.cons.injEq] at h hn
           obtain ⟨rfl, h⟩ := h
           rw [List.nodup_cons] at hn
           exact absurd (by rw [h]; simp) hn.1
       | cons y as ih =>
         intro pre bs q hn h
         cases pre with
         | nil =>
           simp only [List.nil_append, List.cons_append, List.cons.injEq] at h
           obtain ⟨rfl, h⟩ := h
           simp only [List.cons_append, List.nodup_cons] at hn
           exact absurd (by simp) hn.1
         | cons p pre =>
           simp only [List.cons_append, List.cons.injEq] at h hn
           rw [List.nodup_cons] at hn
           rw [h.1, ih pre bs q hn.2 h.2]
     exact gen _ _ _ _ hnd hp
   subst e
   rw [hp] at hx
   rcases List.mem_append.1 hx with h4 | h4
   . have := h3 x h4
     simp [hxb] at this
   . exact h4
theorem zht {L : List zd} {a b : Nm} (h : ((zbi L a).elim false (·.face) || (zbi L b).elim false (·.face)) = true) : zez L a b = zbq := by unfold zez; rw [if_pos h]
theorem zhp {L : List zd} {a b : Nm} (h : ((zbi L a).elim false (·.face) || (zbi L b).elim false (·.face)) = false) : zez L a b = zit (zcx L a) (zcx L b) := by unfold zez zit; rw [if_neg (by rw [h]; simp)]
theorem zlc (l : List zd) : zbq ∈ zbt l := by simp [zbt, wl, zhy]
theorem zlz {l : List zd} (hg : zdf l) {a b : Nm} (ha : a ∈ zbt l) (hb : b ∈ zbt l) : zez (wl l) a b ∈ zbt l := by
 cases hf : ((zbi (wl l) a).elim false (·.face) || (zbi (wl l) b).elim false (·.face)) with
 | true => rw [zht hf]; exact zlc l
 | false =>
   rw [zhp hf]
   exact z14 hg ha ((zjk hg _ _).1 (zh7 hg ha hb).1)
theorem z2p {l : List zd} (hg : zdf l) {x : Nm} (h : x ∈ zcx (wl l) zbq) : x = zbq := z36 ((zjk hg _ _).1 h).rc
theorem zys (L : List zd) (x : Nm) : x ∈ zcx L x := by unfold zcx; simp
theorem zxp (l : List zd) : (Bse.cls zbq).Ok (wl l) := ⟨by decide, look_some.2 (zlc l)⟩
theorem zi8 {l : List zd} (hg : zdf l) {b b' : Bse} (hb : b.Ok (wl l)) (hb' : b'.Ok (wl l)) : ∀ (d d' : Nat), (Kd.ty d b).refs = true -> (Kd.ty d' b').refs = true -> ∃ e c, zcu (wl l) d b d' b' = .ty e c /\ e <= d /\ c.Ok (wl l) /\ (Kd.ty e c).refs = true
 | 0, 0, h, h' => by
   simp only [Kd.refs] at h h'
   unfold zcu
   by_cases e : b = b'
   . rw [if_pos e]; exact ⟨0, b, rfl, Nat.le_refl _, hb, h⟩
   . rw [if_neg e, if_pos (by rw [h, h']; rfl)]
     refine ⟨0, _, rfl, Nat.le_refl _, ?_, rfl⟩
     cases b with
     | int => cases h
     | long => cases h
     | cls x =>
       cases b' with
       | int => cases h'
       | long => cases h'
       | cls y =>
         have hj := zlz hg (look_some.1 hb.2) (look_some.1 hb'.2)
         exact ⟨ztd hg hj, look_some.2 hj⟩
 | d + 1, 0, h, h' => by
   simp only [Kd.refs] at h'
   unfold zcu
   rw [if_pos h']
   exact ⟨0, _, rfl, by omega, zxp l, rfl⟩
 | 0, d + 1, h, h' => by
   simp only [Kd.refs] at h
   unfold zcu
   rw [if_pos h]
   exact ⟨0, _, rfl, by omega, zxp l, rfl⟩
 | d + 1, d' + 1, h, h' => by
   have ih := zi8 hg hb hb' d d'
   unfold zcu
   by_cases e : d = d' /\ b = b'
   . rw [if_pos e]; exact ⟨d + 1, b, rfl, Nat.le_refl _, hb, rfl⟩
   . rw [if_neg e]
     cases hr : ((Kd.ty d b).refs && (Kd.ty d' b').refs) with
     | true =>
       rw [if_pos rfl]
       simp only [Bool.and_eq_true] at hr
       obtain ⟨e', c, h1, h2, h3, h4⟩ := ih hr.1 hr.2
       rw [h1]
       exact ⟨e' + 1, c, rfl, by omega, h3, rfl⟩
     | false =>
       rw [if_neg (by simp)]
       exact ⟨0, _, rfl, by omega, zxp l, rfl⟩
theorem zq6 {L : List zd} {b b' : Bse} : ∀ (d d' : Nat), ((Kd.ty d b).refs && (Kd.ty d' b').refs) = false -> zcu L d b d' b' = .top \/ (d = d' /\ b = b' /\ zcu L d b d' b' = .ty d b)
 | 0, 0, h => by
   simp only [Kd.refs] at h
   unfold zcu
   by_cases e : b = b'
   . rw [if_pos e]; exact Or.inr ⟨rfl, e, rfl⟩
   . rw [if_neg e, if_neg (by rw [h]; simp)]; exact Or.inl rfl
 | d + 1, 0, h => by
   simp only [Kd.refs, Bool.true_and] at h
   unfold zcu
   rw [if_neg (by rw [h]; simp)]; exact Or.inl rfl
 | 0, d + 1, h => by
   simp only [Kd.refs, Bool.and_true] at h
   unfold zcu
   rw [if_neg (by rw [h]; simp)]; exact Or.inl rfl
 | d + 1, d' + 1, h => by simp [Kd.refs] at h
theorem z1x {l : List zd} (hg : zdf l) {b b' : Bse} {d d' : Nat} (h : (Kd.ty d b).Ok (wl l)) (h' : (Kd.ty d' b').Ok (wl l)) : (zcu (wl l) d b d' b').Ok (wl l) := by
 cases hr : ((Kd.ty d b).refs && (Kd.ty d' b').refs) with
 | true =>
   simp only [Bool.and_eq_true] at hr
   obtain ⟨e, c, h1, h2, h3, _⟩ := zi8 hg h.2 h'.2 d d' hr.1 hr.2
   rw [h1]
   exact ⟨Nat.le_trans h2 h.1, h3⟩
 | false =>
   rcases zq6 (L := wl l) d d' hr with h1 | ⟨_, _, h1⟩
   . rw [h1]; trivial
   . rw [h1]; exact h
theorem ztp {l : List zd} (hg : zdf l) {a b : Kd} (ha : a.Ok (wl l)) (hb : b.Ok (wl l)) : (zkm (wl l) a b).Ok (wl l) := by
 cases a <;> cases b <;> simp only [zkm]
 all_goals first | trivial | exact z1x hg ha hb | (split <;> first | trivial | assumption)
theorem zwp (L : List zd) : ∀ (d : Nat) (b : Bse), zcu L d b d b = .ty d b
 | 0, b => by unfold zcu; rw [if_pos rfl]
 | d + 1, b => by unfold zcu; rw [if_pos ⟨rfl, rfl⟩]
structure FrR where
 loc : List Nm
 st : List Nm
noncomputable def zcc (L : List zd) : List Nm -> Int
 | [] => 0
 | x :: r => if zh L x = 0 then zcc L r else zh L x
theorem zdc {L : List zd} : ∀ {l : List Nm}, zcc L l = 0 ↔ ∀ x ∈ l, zh L x = 0
 | [] => by simp [zcc]
 | x :: r => by
   have ih := zdc (L := L) (l := r)
   simp only [zcc]
   by_cases h : zh L x = 0
   . rw [if_pos h]; simp [h, ih]
   . rw [if_neg h]; simp [h]
theorem zln {L : List zd} : ∀ {l : List Nm} {k : Nat} {x : Nm}, (∀ y ∈ l.take k, zh L y = 0) -> l[k]? = some x -> zh L x ≠ 0 -> zcc L l = zh L x
 | [], k, x, _, h, _ => by simp at h
 | y :: r, 0, x, _, h, h2 => by
   simp only [List.getElem?_cons_zero, Option.some.injEq] at h
   subst h
   simp only [zcc]; rw [if_neg h2]
 | y :: r, k + 1, x, h0, h, h2 => by
   simp only [zcc]
   rw [if_pos (h0 y (by simp)), zln (k := k) (x := x) (fun z hz => h0 z (by simp [hz])) (by simpa using h) h2]
noncomputable def zja (L : List zd) (f : FrR) : Int := if 8 < f.loc.length \/ 8 < f.st.length then 4 else zcc L (f.loc ++ f.st)
theorem zod {L : List zd} {f : FrR} : zja L f = 0 ↔ (f.loc.length <= 8 /\ f.st.length <= 8) /\ ∀ x ∈ f.loc ++ f.st, zh L x = 0 := by
 unfold zja
 by_cases h : 8 < f.loc.length \/ 8 < f.st.length
 . rw [if_pos h]
   constructor
   . intro h'; omega
   . rintro ⟨h', _⟩; omega
 . rw [if_neg h, zdc]
   constructor
   . intro h'; exact ⟨by omega, h'⟩
   . exact fun h' => h'.2
open Classical in
noncomputable def kd (L : List zd) (t : Nm) : Kd := if h : ∃ k : Kd, k.Ok L /\ t = k.text then Classical.choose h else .top
theorem zch {L : List zd} {t : Nm} (h : zh L t = 0) : (kd L t).Ok L /\ t = (kd L t).text := by
 have h' := zih.1 h
 unfold kd
 rw [dif_pos h']
 exact Classical.choose_spec h'
theorem ztk {L : List zd} {k : Kd} (h : k.Ok L) : kd L k.text = k := (zt9 (zch (zih.2 ⟨k, h, rfl⟩)).2).symm
noncomputable def zm4 (L : List zd) (s t : Nm) : Nm := (zkm L (kd L s) (kd L t)).text
theorem ztw {l : List zd} (hg : zdf l) {s t : Nm} (hs : zh (wl l) s = 0) (ht : zh (wl l) t = 0) : zh (wl l) (zm4 (wl l) s t) = 0 :=
 zih.2 ⟨_, ztp hg (zch hs).1 (zch ht).1, rfl⟩
theorem ztm {f : Nm -> Nm -> Nm} {P : Nm -> Prop} : ∀ {a b : List Nm}, (∀ x ∈ a, ∀ y ∈ b, P (f x y)) -> ∀ z ∈ List.zipWith f a b, P z
 | [], b, _, z, h => by simp at h
 | x :: a, [], _, z, h => by simp at h
 | x :: a, y :: b, h, z, hz => by
   simp only [List.zipWith_cons_cons, List.mem_cons] at hz
   rcases hz with rfl | hz
   . exact h x (by simp) y (by simp)
   . exact ztm (fun u hu v hv => h u (by simp [hu]) v (by simp [hv])) z hz
theorem zpr {f : Nm -> Nm -> Nm} {a b : List Nm} (h : a.length = b.length) : (List.zipWith f a b).length = a.length := by simp [h]
noncomputable def zdz (L : List zd) (a b : FrR) : FrR := ⟨List.zipWith (zm4 L) a.loc b.loc, List.zipWith (zm4 L) a.st b.st⟩
def zey (a b : FrR) : Prop := a.loc.length = b.loc.length /\ a.st.length = b.st.length
open Classical in
noncomputable def fjErr (l : List zd) (a b : FrR) : Int :=
 if zaq l ≠ 0 then zaq l else if zja (wl l) a ≠ 0 then zja (wl l) a else if zja (wl l) b ≠ 0 then zja (wl l) b else if zey a b then 0 else 8
structure KOk (L : List zd) (f : FrR) : Prop where
 loc : f.loc.length <= 8
 st : f.st.length <= 8
 kn : ∀ t ∈ f.loc ++ f.st, zh L t = 0
noncomputable def rkB (L : List zd) : Bse -> Nat
 | .cls n => if (zbi L n).elim false (·.face) = true then 20 else 1 + (zcx L n).length
 | _ => 1
noncomputable def rkT (L : List zd) (d : Nat) (b : Bse) : Nat := 20 * d + rkB L b
noncomputable def rkK (L : List zd) : Kd -> Nat
 | .top => 0
 | .nul => 200
 | .ty d b => rkT L d b
theorem zoh (L : List zd) (n : Nm) : rkB L (.cls n) = if (zbi L n).elim false (·.face) = true then 20 else 1 + (zcx L n).length := rfl
theorem z65 (L : List zd) (d : Nat) (b : Bse) : rkK L (.ty d b) = 20 * d + rkB L b := rfl
theorem z0t (l : List zd) : (zcx (wl l) zbq).length = 1 := by
 simp [zcx, zcp, zbi, wl, zhy]
theorem z11 (l : List zd) : (zbi (wl l) zbq).elim false (·.face) = false := by simp [zbi, wl, zhy]
theorem zoe (l : List zd) : rkB (wl l) (.cls zbq) = 2 := by
 have h := z11 l
 simp only [rkB]
 rw [h, z0t]
 rfl
theorem zqy {l : List zd} (hg : zdf l) (b : Bse) : 1 <= rkB (wl l) b /\ rkB (wl l) b <= 20 := by
 cases b with
 | int => simp [rkB]
 | long => simp [rkB]
 | cls n =>
   have := zhl hg n
   rw [zoh]
   split <;> omega
theorem z7g {l : List zd} (hg : zdf l) {k : Kd} (h : k.Ok (wl l)) : rkK (wl l) k <= 200 := by
 cases k with
 | nul => simp [rkK]
 | top => simp [rkK]
 | ty d b =>
   have := zqy hg b
   have := h.1
   rw [z65]
   omega
theorem zsk {l : List zd} (hg : zdf l) {x : Nm} (hx : x ∈ zbt l) : zbq ∈ zcx (wl l) x := by
 obtain ⟨h1, h2, _⟩ := zh7 hg hx (zlc l)
 rw [z2p hg h2] at h1
 exact h1
theorem z34 {l : List zd} (hg : zdf l) {x : Nm} (hx : x ∈ zbt l) (hne : x ≠ zbq) : 2 < rkB (wl l) (.cls x) := by
 rw [zoh]
 split
 . omega
 . have h1 := zys (wl l) x
   have h2 := zsk hg hx
   have : 2 <= (zcx (wl l) x).length := by
     generalize zcx (wl l) x = A at *
     match A, h1, h2 with
     | [], h1, _ => simp at h1
     | [a], h1, h2 =>
       simp only [List.mem_singleton] at h1 h2
       exact absurd (h1.trans h2.symm) hne
     | a :: b :: r, _, _ => simp
   omega
theorem z2i {l : List zd} (hg : zdf l) {a b : Nm} (ha : a ∈ zbt l) (hb : b ∈ zbt l) (hne : zez (wl l) a b ≠ a) : rkB (wl l) (.cls (zez (wl l) a b)) < rkB (wl l) (.cls a) := by
 cases hf : ((zbi (wl l) a).elim false (·.face) || (zbi (wl l) b).elim false (·.face)) with
 | true =>
   rw [zht hf] at hne |-
   rw [zoe]
   exact z34 hg ha (fun e => hne e.symm)
 | false =>
   rw [zhp hf] at hne |-
   have hfa : (zbi (wl l) a).elim false (·.face) = false := by
     simp only [Bool.or_eq_false_iff] at hf; exact hf.1
   obtain ⟨h1, _, _⟩ := zh7 hg ha hb
   generalize zit (zcx (wl l) a) (zcx (wl l) b) = c at *
   have hfc := zx6 hg hfa ((zjk hg _ _).1 h1)
   rw [zoh, zoh]
   rw [if_neg (by rw [hfc]; simp), if_neg (by rw [hfa]; simp)]
   obtain ⟨pre, hp⟩ := zmn hg h1
   rw [hp, List.length_append]
   cases pre with
   | nil =>
     simp only [List.nil_append] at hp
     unfold zcx at hp
     simp only [List.cons.injEq] at hp
     exact absurd hp.1.symm hne
   | cons x r => simp
theorem zt7 {l : List zd} (hg : zdf l) {b b' : Bse} (hb : b.Ok (wl l)) (hb' : b'.Ok (wl l)) : ∀ (d d' : Nat), (Kd.ty d b).refs = true -> (Kd.ty d' b').refs = true -> zcu (wl l) d b d' b' ≠ .ty d b -> rkK (wl l) (zcu (wl l) d b d' b') < rkT (wl l) d b
 | 0, 0, h, h', hne => by
   simp only [Kd.refs] at h h'
   unfold zcu at hne |-
   by_cases e : b = b'
   . rw [if_pos e] at hne; exact absurd rfl hne
   . rw [if_neg e, if_pos (by rw [h, h']; rfl)] at hne |-
     cases b with
     | int => cases h
     | long => cases h
     | cls x =>
       cases b' with
       | int => cases h'
       | long => cases h'
       | cls y =>
         have := z2i hg (look_some.1 hb.2) (look_some.1 hb'.2) (fun e => hne (by show Kd.ty 0 (.cls (zez (wl l) x y)) = _; rw [e]))
         show 20 * 0 + rkB (wl l) (.cls (zez (wl l) x y)) < _
         unfold rkT
         omega
 | d + 1, 0, h, h', hne => by
   simp only [Kd.refs] at h'
   unfold zcu
   rw [if_pos h']
   have := zqy hg b
   show 20 * 0 + rkB (wl l) (.cls zbq) < rkT (wl l) (d + 1) b
   rw [zoe]; unfold rkT; omega
 | 0, d + 1, h, h', hne => by
   simp only [Kd.refs] at h
   unfold zcu at hne |-
   rw [if_pos h] at hne |-
   cases b with
   | int => cases h
   | long => cases h
   | cls x =>
     have := z34 hg (look_some.1 hb.2) (fun e => hne (by rw [e]))
     show 20 * 0 + rkB (wl l) (.cls zbq) < rkT (wl l) 0 (.cls x)
     rw [zoe]; unfold rkT; omega
 | d + 1, d' + 1, h, h', hne => by
   have ih := zt7 hg hb hb' d d'
   unfold zcu at hne |-
   by_cases e : d = d' /\ b = b'
   . rw [if_pos e] at hne; exact absurd rfl hne
   . rw [if_neg e] at hne |-
     cases hr : ((Kd.ty d b).refs && (Kd.ty d' b').refs) with
     | true =>
       rw [hr, if_pos rfl] at hne
       rw [if_pos rfl]
       simp only [Bool.and_eq_true] at hr
       obtain ⟨e', c, h1, h2, h3, h4⟩ := zi8 hg hb hb' d d' hr.1 hr.2
       have h5 := ih hr.1 hr.2 (fun e2 => hne (by rw [e2]; rfl))
       rw [h1] at h5 |-
       show rkT (wl l) (e' + 1) c < rkT (wl l) (d + 1) b
       change rkT (wl l) e' c < _ at h5
       unfold rkT at h5 |-
       omega
     | false =>
       rw [if_neg (by simp)]
       have := zqy hg b
       show 20 * 0 + rkB (wl l) (.cls zbq) < rkT (wl l) (d + 1) b
       rw [zoe]; unfold rkT; omega
theorem z13 {l : List zd} (hg : zdf l) {a b : Kd} (ha : a.Ok (wl l)) (hb : b.Ok (wl l)) (hne : zkm (wl l) a b ≠ a) : rkK (wl l) (zkm (wl l) a b) < rkK (wl l) a := by
 have hp : ∀ d c, 0 < rkK (wl l) (.ty d c) := fun d c => by
   have := zqy hg c
   show 0 < rkT _ d c
   unfold rkT; omega
 have h2 : ∀ d c, (Kd.ty d c).Ok (wl l) -> rkK (wl l) (.ty d c) < 200 := fun d c h => by
   have := zqy hg c
   have := h.1
   show rkT _ d c < 200
   unfold rkT; omega
 cases a with
 | nul =>
   cases b with
   | nul => exact absurd rfl hne
   | top => show (0 : Nat) < 200; omega
   | ty d c =>
     simp only [zkm]
     split
     . exact h2 d c hb
     . show (0 : Nat) < 200; omega
 | top => exact absurd (by cases b <;> rfl) hne
 | ty d c =>
   cases b with
   | nul =>
     simp only [zkm] at hne |-
     split at hne
     . exact absurd rfl hne
     . rename_i h; rw [if_neg h]; exact hp d c
   | top => exact hp d c
   | ty d' c' =>
     simp only [zkm] at hne |-
     cases hr : ((Kd.ty d c).refs && (Kd.ty d' c').refs) with
     | true =>
       simp only [Bool.and_eq_true] at hr
       exact zt7 hg ha.2 hb.2 d d' hr.1 hr.2 hne
     | false =>
       rcases zq6 (L := wl l) d d' hr with h1 | ⟨_, _, h1⟩
       . rw [h1]; exact hp d c
       . exact absurd h1 hne
noncomputable def rkN (L : List zd) (t : Nm) : Nat := rkK L (kd L t)
theorem z79 {l : List zd} (hg : zdf l) {t : Nm} (h : zh (wl l) t = 0) : rkN (wl l) t <= 200 := z7g hg (zch h).1
theorem z2v {l : List zd} (hg : zdf l) {s t : Nm} (hs : zh (wl l) s = 0) (ht : zh (wl l) t = 0) : zm4 (wl l) s t = s \/ rkN (wl l) (zm4 (wl l) s t) < rkN (wl l) s := by
 have hj := ztp hg (zch hs).1 (zch ht).1
 unfold zm4 rkN
 rw [ztk hj]
 by_cases e : zkm (wl l) (kd (wl l) s) (kd (wl l) t) = kd (wl l) s
 . left; rw [e]; exact (zch hs).2.symm
 . exact Or.inr (z13 hg (zch hs).1 (zch ht).1 e)
noncomputable def rkL (L : List zd) : List Nm -> Nat
 | [] => 0
 | x :: r => rkN L x + rkL L r
theorem zyk {l : List zd} (hg : zdf l) : ∀ {A : List Nm}, (∀ t ∈ A, zh (wl l) t = 0) -> rkL (wl l) A <= 200 * A.length
 | [], _ => by simp [rkL]
 | x :: r, h => by
   have h1 := z79 hg (h x (by simp))
   have h2 := zyk hg (A := r) (fun t ht => h t (by simp [ht]))
   simp only [rkL, List.length_cons]
   omega
theorem zyd {l : List zd} (hg : zdf l) : ∀ {A B : List Nm}, A.length = B.length -> (∀ t ∈ A, zh (wl l) t = 0) -> (∀ t ∈ B, zh (wl l) t = 0) -> List.zipWith (zm4 (wl l)) A B = A \/ rkL (wl l) (List.zipWith (zm4 (wl l)) A B) < rkL (wl l) A
 | [], [], _, _, _ => Or.inl rfl
 | [], _ :: _, h, _, _ => by simp at h
 | _ :: _, [], h, _, _ => by simp at h
 | x :: A, y :: B, hl, ha, hb => by
   have ih := zyd hg (A := A) (B := B) (by simpa using hl) (fun t ht => ha t (by simp [ht])) (fun t ht => hb t (by simp [ht]))
   have h1 := z2v hg (ha x (by simp)) (hb y (by simp))
   simp only [List.zipWith_cons_cons, rkL]
   rcases h1 with h1 | h1
   . rw [h1]
     rcases ih with ih | ih
     . left; rw [ih]
     . right; omega
   . right
     rcases ih with ih | ih
     . rw [ih]; omega
     . omega
noncomputable def rkF (L : List zd) (f : FrR) : Nat := rkL L f.loc + rkL L f.st
theorem KOk.mem1 {L : List zd} {f : FrR} (h : KOk L f) : ∀ t ∈ f.loc, zh L t = 0 := fun t ht => h.kn t (by simp [ht])
theorem KOk.mem2 {L : List zd} {f : FrR} (h : KOk L f) : ∀ t ∈ f.st, zh L t = 0 := fun t ht => h.kn t (by simp [ht])
theorem z38 {l : List zd} (hg : zdf l) {f : FrR} (h : KOk (wl l) f) : rkF (wl l) f <= 3200 := by
 have h1 := zyk hg h.mem1
 have h2 := zyk hg h.mem2
 have := h.loc
 have := h.st
 unfold rkF; omega
theorem z2r {l : List zd} (hg : zdf l) {f g : FrR} (hf : KOk (wl l) f) (hk : KOk (wl l) g) (hs : zey f g) : zdz (wl l) f g = f \/ rkF (wl l) (zdz (wl l) f g) < rkF (wl l) f := by
 have h1 := zyd hg hs.1 hf.mem1 hk.mem1
 have h2 := zyd hg hs.2 hf.mem2 hk.mem2
 obtain ⟨fl, fs⟩ := f
 unfold zdz rkF
 dsimp only at *
 rcases h1 with h1 | h1 <;> rcases h2 with h2 | h2
 . left; rw [h1, h2]
 . right; rw [h1]; omega
 . right; rw [h2]; omega
 . right; omega
theorem z0g {l : List zd} (hg : zdf l) {f g : FrR} (hf : KOk (wl l) f) (hk : KOk (wl l) g) (hs : zey f g) : KOk (wl l) (zdz (wl l) f g) := by
 refine ⟨?_, ?_, ?_⟩
 . show (List.zipWith _ f.loc g.loc).length <= 8
   rw [zpr hs.1]; exact hf.loc
 . show (List.zipWith _ f.st g.st).length <= 8
   rw [zpr hs.2]; exact hf.st
 . intro t ht
   rcases List.mem_append.1 ht with ht | ht
   . exact ztm (P := fun z => zh (wl l) z = 0) (fun x hx y hy => ztw hg (hf.mem1 x hx) (hk.mem1 y hy)) t ht
   . exact ztm (P := fun z => zh (wl l) z = 0) (fun x hx y hy => ztw hg (hf.mem2 x hx) (hk.mem2 y hy)) t ht
theorem KOk.chk {L : List zd} {f : FrR} (h : KOk L f) : zja L f = 0 := zod.2 ⟨⟨h.loc, h.st⟩, h.kn⟩
structure zcj where
 fr : Int -> Option FrR
 todo : List Nat
def zhw (fr : Int -> Option FrR) (z : Int) (f : FrR) (y : Int) : Option FrR := if y = z then some f else fr y
theorem zik (fr : Int -> Option FrR) (z : Int) (f : FrR) : zhw fr z f z = some f := by simp [zhw]
theorem zj0 (fr : Int -> Option FrR) (z : Int) (f : FrR) {y : Int} (h : y ≠ z) : zhw fr z f y = fr y := by simp [zhw, h]
open Classical in
noncomputable def ze0 (L : List zd) (s : zcj) (z : Nat) (f : FrR) : Option zcj :=
 (s.fr z).elim (some ⟨zhw s.fr z f, s.todo ++ [z]⟩) fun was =>
   if zey was f then (if zdz L was f = was then some s else some ⟨zhw s.fr z (zdz L was f), s.todo ++ [z]⟩) else none
theorem zet {L : List zd} {s : zcj} {z : Nat} {f : FrR} (h : s.fr z = none) : ze0 L s z f = some ⟨zhw s.fr z f, s.todo ++ [z]⟩ := by unfold ze0; rw [h]; rfl
theorem zk8 {L : List zd} {s : zcj} {z : Nat} {f was : FrR} (h : s.fr z = some was) (hs : ¬ zey was f) : ze0 L s z f = none := by
 unfold ze0; rw [h]; exact if_neg hs
theorem zjs {L : List zd} {s : zcj} {z : Nat} {f was : FrR} (h : s.fr z = some was) (hs : zey was f) (hj : zdz L was f = was) : ze0 L s z f = some s := by
 unfold ze0; rw [h]; simp only [Option.elim_some]; rw [if_pos hs, if_pos hj]
theorem zoq {L : List zd} {s : zcj} {z : Nat} {f was : FrR} (h : s.fr z = some was) (hs : zey was f) (hj : zdz L was f ≠ was) : ze0 L s z f = some ⟨zhw s.fr z (zdz L was f), s.todo ++ [z]⟩ := by
 unfold ze0; rw [h]; simp only [Option.elim_some]; rw [if_pos hs, if_neg hj]
noncomputable def hsF (L : List zd) (cF : zdd -> FrR -> Option FrR) (z : Nat) (f : FrR) : List zdd -> zcj -> Option zcj
 | [], s => some s
 | h :: r, s => if (z : Int) < h.lo \/ h.hi <= (z : Int) then hsF L cF z f r s else (cF h f).elim none fun g => (ze0 L s h.at_.toNat g).elim none (hsF L cF z f r)
noncomputable def nxF (L : List zd) (out : FrR) : List Nat -> zcj -> Option zcj
 | [], s => some s
 | j :: r, s => (ze0 L s j out).elim none (nxF L out r)
noncomputable def zly (L : List zd) (cF : zdd -> FrR -> Option FrR) (aF : zal -> FrR -> Option FrR) (hs : List zdd) (code : List zal) (z : Nat) (s : zcj) : Option zcj :=
 (s.fr z).elim none fun f => (hsF L cF z f hs s).elim none fun s1 => (code[z]?).elim none fun x => (aF x f).elim none fun out => nxF L out (aft code z) s1
def zt3 (g : Nat -> Nat) : Nat -> Nat
 | 0 => 0
 | n + 1 => zt3 g n + g n
theorem zqr {g g' : Nat -> Nat} : ∀ {n : Nat}, (∀ j, j < n -> g' j = g j) -> zt3 g' n = zt3 g n
 | 0, _ => rfl
 | n + 1, h => by
   simp only [zt3]
   rw [zqr (n := n) (fun j hj => h j (by omega)), h n (by omega)]
theorem zu5 {g g' : Nat -> Nat} {z : Nat} : ∀ {n : Nat}, z < n -> (∀ j, j < n -> j ≠ z -> g' j = g j) -> zt3 g' n + g z = zt3 g n + g' z
 | 0, h, _ => by omega
 | n + 1, h, hk => by
   simp only [zt3]
   by_cases e : z = n
   . subst e
     rw [zqr (n := z) (g := g) (g' := g') (fun j hj => hk j (by omega) (by omega))]
     omega
   . have := zu5 (n := n) (g := g) (g' := g') (z := z) (by omega) (fun j hj hne => hk j (by omega) hne)
     rw [hk n (by omega) (fun e2 => e e2.symm)]
     omega
noncomputable def pot (L : List zd) (o : Option FrR) : Nat := o.elim 3201 (rkF L)
noncomputable def mu (L : List zd) (n : Nat) (s : zcj) : Nat := s.todo.length + zt3 (fun z => pot L (s.fr z)) n
structure znf (L : List zd) (n : Nat) (s : zcj) : Prop where
 kok : ∀ z f, s.fr z = some f -> KOk L f /\ 0 <= z /\ z < (n : Int)
 td : ∀ z ∈ s.todo, z < n /\ (s.fr z).isSome = true
def z6f (s s' : zcj) : Prop := ∀ z, (s.fr z).isSome = true -> (s'.fr z).isSome = true
theorem z6f.refl (s : zcj) : z6f s s := fun _ h => h
theorem z6f.trans {a b c : zcj} (h : z6f a b) (k : z6f b c) : z6f a c := fun z hz => k z (h z hz)
structure zc6 (L : List zd) (n : Nat) (s s' : zcj) : Prop where
 ok : znf L n s'
 mu : mu L n s' <= mu L n s
 up : z6f s s'
theorem zc6.refl {L : List zd} {n : Nat} {s : zcj} (h : znf L n s) : zc6 L n s s := ⟨h, Nat.le_refl _, .refl s⟩
theorem zc6.trans {L : List zd} {n : Nat} {a b c : zcj} (h : zc6 L n a b) (k : zc6 L n b c) : zc6 L n a c := ⟨k.ok, Nat.le_trans k.mu h.mu, h.up.trans k.up⟩
theorem zyl {L : List zd} {n : Nat} {s : zcj} (h : znf L n s) {z : Nat} (hz : z < n) {f : FrR} (hf : KOk L f) (hp : rkF L f < pot L (s.fr z)) : zc6 L n s ⟨zhw s.fr z f, s.todo ++ [z]⟩ := by
 refine ⟨⟨?_, ?_⟩, ?_, ?_⟩
 . intro y g hy
   change zhw s.fr z f y = some g at hy
   by_cases e : y = (z : Int)
   . rw [e, zik] at hy
     cases hy
     exact ⟨hf, by omega, by omega⟩
   . rw [zj0 _ _ _ e] at hy
     exact h.kok y g hy
 . intro y hy
   rcases List.mem_append.1 hy with hy | hy
   . refine ⟨(h.td y hy).1, ?_⟩
     show (zhw s.fr z f y).isSome = true
     unfold zhw
     split
     . rfl
     . exact (h.td y hy).2
   . rw [List.mem_singleton.1 hy]
     refine ⟨hz, ?_⟩
     show (zhw s.fr z f z).isSome = true
     rw [zik]; rfl
 . have := zu5 (g := fun z => pot L (s.fr z)) (g' := fun y => pot L (zhw s.fr z f y)) hz (fun j _ hne => by
     show pot L (zhw s.fr z f j) = pot L (s.fr j)
     rw [zj0 _ _ _ (by omega)])
   have h2 : pot L (zhw s.fr z f z) = rkF L f := by rw [zik]; rfl
   rw [h2] at this
   show (s.todo ++ [z]).length + zt3 (fun y => pot L (zhw s.fr z f y)) n <= s.todo.length + zt3 (fun z => pot L (s.fr z)) n
   simp only [List.length_append, List.length_cons, List.length_nil]
   omega
 . intro y hy
   show (zhw s.fr z f y).isSome = true
   unfold zhw
   split
   . rfl
   . exact hy
theorem zjx {l : List zd} (hg : zdf l) {n : Nat} {s s' : zcj} (h : znf (wl l) n s) {z : Nat} (hz : z < n) {f : FrR} (hf : KOk (wl l) f) (hm : ze0 (wl l) s z f = some s') : zc6 (wl l) n s s' := by
 cases hw : s.fr z with
 | none =>
   rw [zet hw] at hm
   cases hm
   refine zyl h hz hf ?_
   rw [hw]
   have := z38 hg hf
   show rkF (wl l) f < 3201
   omega
 | some was =>
   by_cases hs : zey was f
   . by_cases hj : zdz (wl l) was f = was
     . rw [zjs hw hs hj] at hm
       cases hm
       exact .refl h
     . rw [zoq hw hs hj] at hm
       cases hm
       have hk := (h.kok _ _ hw).1
       refine zyl h hz (z0g hg hk hf hs) ?_
       rw [hw]
       rcases z2r hg hk hf hs with e | e
       . exact absurd e hj
       . exact e
   . rw [zk8 hw hs] at hm
     cases hm
theorem z47 {α β : Type} {o : Option α} {F : α -> Option β} {g : β} (h : o.elim none F = some g) : ∃ p, o = some p /\ F p = some g := by
 cases o with
 | none => cases h
 | some p => exact ⟨p, rfl, h⟩
theorem z5l {l : List zd} (hg : zdf l) {n : Nat} {cF : zdd -> FrR -> Option FrR} {z : Nat} {f : FrR} (hc : ∀ h g, cF h f = some g -> KOk (wl l) g) : ∀ {hs : List zdd} {s s' : zcj}, (∀ h ∈ hs, h.at_.toNat < n) -> znf (wl l) n s -> hsF (wl l) cF z f hs s = some s' -> zc6 (wl l) n s s'
 | [], s, s', _, h, hm => by
   simp only [hsF, Option.some.injEq] at hm
   subst hm
   exact .refl h
 | x :: r, s, s', hh, h, hm => by
   unfold hsF at hm
   split at hm
   . exact z5l hg hc (fun y hy => hh y (by simp [hy])) h hm
   . obtain ⟨g, hg1, hm⟩ := z47 hm
     obtain ⟨s1, hs1, hm⟩ := z47 hm
     have h1 := zjx hg h (hh x (by simp)) (hc x g hg1) hs1
     exact h1.trans (z5l hg hc (fun y hy => hh y (by simp [hy])) h1.ok hm)
theorem z7h {l : List zd} (hg : zdf l) {n : Nat} {out : FrR} (ho : KOk (wl l) out) : ∀ {js : List Nat} {s s' : zcj}, (∀ j ∈ js, j < n) -> znf (wl l) n s -> nxF (wl l) out js s = some s' -> zc6 (wl l) n s s'
 | [], s, s', _, h, hm => by
   simp only [nxF, Option.some.injEq] at hm
   subst hm
   exact .refl h
 | x :: r, s, s', hh, h, hm => by
   unfold nxF at hm
   obtain ⟨s1, hs1, hm⟩ := z47 hm
   have h1 := zjx hg h (hh x (by simp)) ho hs1
   exact h1.trans (z7h hg ho (fun y hy => hh y (by simp [hy])) h1.ok hm)
structure z62 (L : List zd) (cF : zdd -> FrR -> Option FrR) (aF : zal -> FrR -> Option FrR) (hs : List zdd) (code : List zal) : Prop where
 c : ∀ f, KOk L f -> ∀ h g, cF h f = some g -> KOk L g
 a : ∀ f, KOk L f -> ∀ x ∈ code, ∀ g, aF x f = some g -> KOk L g
 hs : ∀ h ∈ hs, h.at_.toNat < code.length
 flow : zj6 code
theorem z5z {l : List zd} (hg : zdf l) {cF : zdd -> FrR -> Option FrR} {aF : zal -> FrR -> Option FrR} {hs : List zdd} {code : List zal} (H : z62 (wl l) cF aF hs code) {z : Nat} {s s' : zcj} (h : znf (wl l) code.length s) (hm : zly (wl l) cF aF hs code z s = some s') : zc6 (wl l) code.length s s' := by
 unfold zly at hm
 obtain ⟨f, hf, hm⟩ := z47 hm
 obtain ⟨s1, hs1, hm⟩ := z47 hm
 obtain ⟨x, hx, hm⟩ := z47 hm
 obtain ⟨out, ho, hm⟩ := z47 hm
 have hk := (h.kok _ _ hf).1
 have hzl : z < code.length := (List.getElem?_eq_some_iff.1 hx).1
 have h1 := z5l hg (H.c f hk) H.hs h hs1
 exact h1.trans (z7h hg (H.a f hk x (List.mem_of_getElem? hx) out ho) (fun j hj => zxs H.flow hzl hj) h1.ok hm)
noncomputable def z3t (lk : Nat -> zcj -> Option zcj) : Nat -> zcj -> Option (Int -> Option FrR)
 | 0, _ => none
 | k + 1, s => match s.todo with
   | [] => some s.fr
   | z :: r => (lk z ⟨s.fr, r⟩).elim none (z3t lk k)
theorem zud {L : List zd} {n : Nat} {s : zcj} {z : Nat} {r : List Nat} (h : znf L n s) (ht : s.todo = z :: r) : znf L n ⟨s.fr, r⟩ /\ mu L n ⟨s.fr, r⟩ + 1 = mu L n s /\ z < n /\ (s.fr z).isSome = true := by
 refine ⟨⟨h.kok, fun y hy => h.td y (by rw [ht]; simp; exact Or.inr hy)⟩, ?_, h.td z (by rw [ht]; simp)⟩
 unfold mu
 rw [ht]
 simp only [List.length_cons]
 omega
section
variable {L : List zd} {n : Nat} {lk : Nat -> zcj -> Option zcj} (H : ∀ z s s', znf L n s -> lk z s = some s' -> zc6 L n s s')
include H
theorem zu1 : ∀ (k k' : Nat) (s : zcj), znf L n s -> mu L n s < k -> mu L n s < k' -> z3t lk k s = z3t lk k' s
 | 0, _, _, _, h, _ => by omega
 | _ + 1, 0, _, _, _, h => by omega
 | k + 1, k' + 1, s, ho, h, h' => by
   unfold z3t
   cases ht : s.todo with
   | nil => rfl
   | cons z r =>
     obtain ⟨h1, h2, _, _⟩ := zud ho ht
     dsimp only
     cases hl : lk z ⟨s.fr, r⟩ with
     | none => rfl
     | some s' =>
       have h3 := H z _ s' h1 hl
       have := h3.mu
       exact zu1 k k' s' h3.ok (by omega) (by omega)
end
noncomputable def zp9 (L : List zd) (n : Nat) (lk : Nat -> zcj -> Option zcj) (s : zcj) : Option (Int -> Option FrR) := z3t lk (mu L n s + 1) s
theorem zsp {L : List zd} {n : Nat} {lk : Nat -> zcj -> Option zcj} {s : zcj} (h : s.todo = []) : zp9 L n lk s = some s.fr := by
 unfold zp9 z3t; rw [h]
theorem zuw {L : List zd} {n : Nat} {lk : Nat -> zcj -> Option zcj} {s : zcj} {z : Nat} {r : List Nat} (h : s.todo = z :: r) (hl : lk z ⟨s.fr, r⟩ = none) : zp9 L n lk s = none := by
 unfold zp9 z3t; rw [h]; dsimp only; rw [hl]; rfl
theorem zhc {L : List zd} {n : Nat} {lk : Nat -> zcj -> Option zcj} (H : ∀ z s s', znf L n s -> lk z s = some s' -> zc6 L n s s') {s s' : zcj} (ho : znf L n s) {z : Nat} {r : List Nat} (h : s.todo = z :: r) (hl : lk z ⟨s.fr, r⟩ = some s') :
   zp9 L n lk s = zp9 L n lk s' /\ znf L n s' /\ mu L n s' < mu L n s := by
 obtain ⟨h1, h2, _, _⟩ := zud ho h
 have h3 := H z _ s' h1 hl
 have h4 := h3.mu
 refine ⟨?_, h3.ok, by omega⟩
 have e : zp9 L n lk s = z3t lk (mu L n s) s' := by
   unfold zp9
   conv => lhs; unfold z3t
   rw [h]; dsimp only; rw [hl]; rfl
 rw [e]
 exact zu1 H _ _ s' h3.ok (by omega) (by omega)
def zcq (f : FrR) : zcj := ⟨zhw (fun _ => none) 0 f, [0]⟩
theorem zou {L : List zd} {n : Nat} {f : FrR} (hf : KOk L f) (hn : 0 < n) : znf L n (zcq f) := by
 refine ⟨fun z g hz => ?_, fun z hz => ?_⟩
 . change zhw (fun _ => none) 0 f z = some g at hz
   unfold zhw at hz
   split at hz
   . rename_i e
     cases hz
     exact ⟨hf, by omega, by omega⟩
   . cases hz
 . change z ∈ [0] at hz
   rw [List.mem_singleton.1 hz]
   exact ⟨hn, rfl⟩
def mHit (n k : Nm) (m : zo) : Bool := m.nm == n && m.ty == k
def z8q (c : zd) (n k : Nm) : Option zo := c.meths.find? (mHit n k)
def z77 (L : List zd) (n k c : Nm) : Option zo := (zbi L c).elim none (z8q · n k)
def z7p (L : List zd) (c : Nm) : Bool := (zbi L c).elim false (·.face)
def hitL (L : List zd) (n k c : Nm) : Option (Nm × zo) := (z77 L n k c).map fun m => (c, m)
def z8h (L : List zd) (n k : Nm) (ab : Bool) (c : Nm) : Option (Nm × zo) := (z77 L n k c).elim none fun m => if (z7p L c && m.abst == ab) = true then some (c, m) else none
noncomputable def zp2 (L : List zd) (c n k : Nm) : Option (Nm × zo) :=
 ((zcx L c).findSome? (hitL L n k)).or (((every L c).findSome? (z8h L n k false)).or ((every L c).findSome? (z8h L n k true)))
open Classical in
noncomputable def zin (L : List zd) (fr c n k : Nm) (st : Bool) : Int :=
 if zbi L c = none then 3
 else match zp2 L c n k with
 | none => 3
 | some (x, m) => if zbi L fr = none then 3 else if m.stat ≠ st then 7 else if m.priv = true /\ x ≠ fr then 9 else 0
noncomputable def z9g (l : List zd) (fr c n k : Nm) (st : Bool) : Int := if zaq l ≠ 0 then zaq l else zin (wl l) fr c n k st
noncomputable def z8f (l : List zd) (c n k : Nm) : Int := if zaq l ≠ 0 then zaq l else if zbi (wl l) c = none then 3 else if zp2 (wl l) c n k = none then 3 else 0
structure zjj where
 nm : Nm
 ty : Nm
 cl : Nm
def sHit (n k : Nm) (x : zjj) : Bool := x.nm == n && x.ty == k
def putS (out : List zjj) (s : zjj) : List zjj := (out.findIdx? (sHit s.nm s.ty)).elim (out ++ [s]) fun i => out.set i s
def z82 (c : Nm) (out : List zjj) (m : zo) : List zjj := if (m.stat || m.priv) = true then out else putS out ⟨m.nm, m.ty, c⟩
def z5h (L : List zd) (c : Nm) : List zo := (zbi L c).elim [] (·.meths)
def addS (L : List zd) (out : List zjj) (c : Nm) : List zjj := (z5h L c).foldl (z82 c) out
def slotsM (L : List zd) (n : Nm) : List zjj := (zcx L n).reverse.foldl (addS L) []
def zwo (a b : List zjj) : Prop := ∀ (k : Nat) (x : zjj), a[k]? = some x -> ∃ y, b[k]? = some y /\ y.nm = x.nm /\ y.ty = x.ty
theorem zwo.refl (a : List zjj) : zwo a a := fun k x h => ⟨x, h, rfl, rfl⟩
theorem zwo.trans {a b c : List zjj} (h : zwo a b) (g : zwo b c) : zwo a c := fun k x hx => by
 obtain ⟨y, hy, h1, h2⟩ := h k x hx
 obtain ⟨z, hz, h3, h4⟩ := g k y hy
 exact ⟨z, hz, by rw [h3, h1], by rw [h4, h2]⟩
def fHit (n : Nm) (f : za1) : Bool := f.nm == n
def z8z (L : List zd) (n c : Nm) : Option (Nm × za1) := (zbi L c).elim none fun d => (d.fields.find? (fHit n)).map fun f => (c, f)
noncomputable def zy5 (L : List zd) (c n : Nm) : Option (Nm × za1) := (zcx L c).findSome? (z8z L n)
def z1h (L : List zd) (c : Nm) : List za1 := (zbi L c).elim [] (·.fields)
def addF (L : List zd) (c : Nm) : List (Nm × za1) := (z1h L c).map fun f => (c, f)
noncomputable def z4g (L : List zd) (n : Nm) : List (Nm × za1) := (zcx L n).reverse.flatMap (addF L)
def pHit (c : Nm) (f : za1) (x : Nm × za1) : Bool := x.1 == c && (x.2.nm == f.nm && x.2.ty == f.ty)
noncomputable def placeF (L : List zd) (c n : Nm) : Option Nat := (zy5 L c n).elim none fun x => (z4g L c).findIdx? (pHit x.1 x.2)
structure MOk (m : zo) : Prop where
 ty : ∃ A g, zk m.ty A g
 loc : 0 <= m.loc /\ m.loc <= 8
 flow : zj6 m.code
 args : zgg m <= m.loc
 hl : m.hs.length <= 8
 hs : ∀ h ∈ m.hs, 0 <= h.lo /\ h.lo < h.hi /\ h.hi <= (m.code.length : Int) /\ 0 <= h.at_ /\ h.at_ < (m.code.length : Int) /\ zr h.cl = true
theorem znh {m : zo} {l : List zo} (h : zbx m l = 0) (ha : m.abst = false) : MOk m := by
 unfold zbx at h
 split at h
 . omega
 split at h
 . omega
 rename_i h2
 split at h
 . omega
 split at h
 . omega
 rename_i h3
 unfold zc2 at h
 rw [ha] at h
 simp only [Bool.false_eq_true, if_false] at h
 split at h
 . omega
 rename_i h4
 split at h
 . omega
 rename_i h5
 split at h
 . omega
 have hty : ∃ A g, zk m.ty A g := by
   simp only [Decidable.not_not] at h2
   unfold zda at h2
   split at h2
   . assumption
   . omega
 have hf : zj6 m.code := (zj5 _).1 (by simpa using h4)
 unfold zd1 at h
 dsimp only at h
 split at h
 . omega
 rename_i h6
 split at h
 . omega
 rename_i h7
 refine ⟨hty, by omega, hf, by omega, by omega, fun x hx => ?_⟩
 obtain ⟨j, hj⟩ := List.mem_iff_getElem?.1 hx
 have hjl := (List.getElem?_eq_some_iff.1 hj).1
 have := (zx _ _).1 (by simpa using h6) j hjl
 rw [hj] at this
 simp only [Option.elim_some] at this
 unfold zsz at this
 split at this
 . omega
 rename_i h8
 split at this
 . omega
 rename_i h9
 refine ⟨by omega, by omega, by omega, by omega, by omega, by simpa using h9⟩
theorem zoo {l : List zd} (hg : zdf l) {c : zd} (hc : c ∈ l) {m : zo} (hm : m ∈ c.meths) (ha : m.abst = false) : MOk m := by
 obtain ⟨_, _, _, _, h5, _⟩ := zf6 (hg.ok c hc)
 obtain ⟨j, hj⟩ := List.mem_iff_getElem?.1 hm
 have := h5 j (List.getElem?_eq_some_iff.1 hj).1
 unfold zbu at this
 rw [hj] at this
 exact znh this ha
open Classical in
noncomputable def zgl (m : zo) : List Nm := if h : ∃ A g, zk m.ty A g then h.choose else []
open Classical in
noncomputable def zdw (m : zo) : Nm := if h : ∃ A g, zk m.ty A g then h.choose_spec.choose else []
theorem zfq {m : zo} (h : ∃ A g, zk m.ty A g) : zk m.ty (zgl m) (zdw m) := by
 unfold zgl zdw
 rw [dif_pos h, dif_pos h]
 exact h.choose_spec.choose_spec
noncomputable def zdv (c : Nm) (m : zo) : List Nm := (if m.stat then [] else [z7 c]) ++ zgl m
theorem zrs {m : zo} (h : MOk m) (c : Nm) : ((zdv c m).length : Int) <= m.loc := by
 have h1 := h.args
 have h2 := zo0 (zfq h.ty)
 have h0 : zda m.ty = 0 := by unfold zda; rw [if_pos h.ty]
 unfold zgg at h1
 rw [if_neg (by rw [h0]; simp), h2] at h1
 unfold zdv
 cases hs : m.stat <;> rw [hs] at h1 <;> simp at h1 |- <;> omega
noncomputable def zc8 (c : Nm) (m : zo) : FrR := ⟨zdv c m ++ List.replicate (m.loc.toNat - (zdv c m).length) [84], []⟩
theorem zre {m : zo} (h : MOk m) (c : Nm) : (zc8 c m).loc.length = m.loc.toNat := by
 have := zrs h c
 have := h.loc
 simp only [zc8, List.length_append, List.length_replicate]
 omega
theorem zp0 {L : List zd} {m : zo} (h : MOk m) {c : Nm} (hk : zcc L (zc8 c m).loc = 0) : KOk L (zc8 c m) := by
 have h1 := zre h c
 have h2 := h.loc
 refine ⟨by omega, by simp [zc8], fun t ht => zdc.1 hk t (by simpa [zc8] using ht)⟩
end Go.Proofs.YtbnkckjdgpiggaaGreatDoor
