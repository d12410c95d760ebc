import Derived.Test.YtddbnboicmaooaaGreatDoorPlain
namespace Go.Proofs.YtddbnboicmaooaaGreatDoor
set_option linter.unusedVariables false
set_option linter.unusedSimpArgs false
open Go.Lib
inductive Bse where
 | int
 | long
 | cls (n : Nm)
inductive Kd where
 | nul
 | top
 | ty (d : Nat) (b : Bse)
def Bse.text : Bse → Nm
 | .int => [73]
 | .long => [74]
 | .cls n => 76 :: (n ++ [59])
def Bse.isRef : Bse → Bool
 | .cls _ => true
 | _ => false
def Bse.cl : Bse → Nm
 | .cls n => n
 | _ => []
def Kd.text : Kd → Nm
 | .nul => [78]
 | .top => [84]
 | .ty d b => List.replicate d 91 ++ b.text
def Kd.refs : Kd → Bool
 | .ty 0 b => b.isRef
 | .ty (_ + 1) _ => true
 | _ => false
def Bse.Ok (L : List ClassR) : Bse → Prop
 | .cls n => nameOk n = true ∧ (look L n).isSome = true
 | _ => True
def Kd.Ok (L : List ClassR) : Kd → Prop
 | .ty d b => d ≤ 3 ∧ b.Ok L
 | _ => True
theorem arr_one (d : Nat) (b : Bse) : (Kd.ty (d + 1) b).text = 91 :: (Kd.ty d b).text := rfl
theorem base_head (b : Bse) : ∃ c r, b.text = c :: r ∧ c ≠ 91 ∧ c ≠ 78 ∧ c ≠ 84 := by
 cases b with
 | int => exact ⟨73, [], rfl, by decide, by decide, by decide⟩
 | long => exact ⟨74, [], rfl, by decide, by decide, by decide⟩
 | cls n => exact ⟨76, n ++ [59], rfl, by decide, by decide, by decide⟩
theorem base_inj {a b : Bse} (h : a.text = b.text) : a = b := by
 cases a <;> cases b <;> simp [Bse.text] at h <;> first | rfl | (rw [h])
theorem ty_inj : ∀ {d e : Nat} {a b : Bse}, (Kd.ty d a).text = (Kd.ty e b).text → d = e ∧ a = b
 | 0, 0, a, b, h => ⟨rfl, base_inj h⟩
 | 0, e + 1, a, b, h => by
   obtain ⟨c, r, hc, h1, _⟩ := base_head a
   rw [arr_one] at h
   simp only [Kd.text, List.replicate, List.nil_append, hc, List.cons.injEq] at h
   exact absurd h.1 h1
 | d + 1, 0, a, b, h => by
   obtain ⟨c, r, hc, h1, _⟩ := base_head b
   rw [arr_one] at h
   simp only [Kd.text, List.replicate, List.nil_append, hc, List.cons.injEq] at h
   exact absurd h.1.symm h1
 | d + 1, e + 1, a, b, h => by
   rw [arr_one, arr_one] at h
   simp only [List.cons.injEq, true_and] at h
   obtain ⟨h1, h2⟩ := ty_inj h
   exact ⟨by rw [h1], h2⟩
theorem ty_head (d : Nat) (b : Bse) : ∃ c r, (Kd.ty d b).text = c :: r ∧ c ≠ 78 ∧ c ≠ 84 := by
 cases d with
 | zero => obtain ⟨c, r, h, _, h2⟩ := base_head b; exact ⟨c, r, h, h2⟩
 | succ d => exact ⟨91, _, arr_one d b, by decide, by decide⟩
theorem text_inj {a b : Kd} (h : a.text = b.text) : a = b := by
 cases a with
 | nul =>
   cases b with
   | nul => rfl
   | top => simp [Kd.text] at h
   | ty d b =>
     obtain ⟨c, r, hc, h1, _⟩ := ty_head d b
     rw [hc] at h
     simp only [Kd.text, List.cons.injEq] at h
     exact absurd h.1.symm h1
 | top =>
   cases b with
   | nul => simp [Kd.text] at h
   | top => rfl
   | ty d b =>
     obtain ⟨c, r, hc, _, h1⟩ := ty_head d b
     rw [hc] at h
     simp only [Kd.text, List.cons.injEq] at h
     exact absurd h.1.symm h1
 | ty d a =>
   cases b with
   | nul =>
     obtain ⟨c, r, hc, h1, _⟩ := ty_head d a
     rw [hc] at h
     simp only [Kd.text, List.cons.injEq] at h
     exact absurd h.1 h1
   | top =>
     obtain ⟨c, r, hc, _, h1⟩ := ty_head d a
     rw [hc] at h
     simp only [Kd.text, List.cons.injEq] at h
     exact absurd h.1 h1
   | ty e b =>
     obtain ⟨h1, h2⟩ := ty_inj h
     rw [h1, h2]
theorem type_kd {t : Nm} : TypeOk t ↔ ∃ d b, t = (Kd.ty d b).text ∧ d ≤ 3 ∧ ∀ n, b = .cls n → nameOk n = true := by
 constructor
 · rintro ⟨P, X, rfl, hP, hl, hX⟩
   have hr : P = List.replicate P.length 91 := List.eq_replicate_iff.2 ⟨rfl, hP⟩
   rcases hX with rfl | rfl | ⟨n, hn, rfl⟩
   · exact ⟨P.length, .int, by rw [hr]; simp [Kd.text, Bse.text], hl, fun n e => by cases e⟩
   · exact ⟨P.length, .long, by rw [hr]; simp [Kd.text, Bse.text], hl, fun n e => by cases e⟩
   · exact ⟨P.length, .cls n, by rw [hr]; simp [Kd.text, Bse.text], hl, fun m e => by cases e; exact hn⟩
 · rintro ⟨d, b, rfl, hd, hn⟩
   refine ⟨List.replicate d 91, b.text, rfl, fun b hb => (List.mem_replicate.1 hb).2, by simpa using hd, ?_⟩
   cases b with
   | int => exact Or.inl rfl
   | long => exact Or.inr (Or.inl rfl)
   | cls n => exact Or.inr (Or.inr ⟨n, hn n rfl, rfl⟩)
open Classical in
noncomputable def kindErr (L : List ClassR) (t : Nm) : Int :=
 if t = [78] ∨ t = [84] then 0 else if ¬ TypeOk t then 1 else if ∃ d n, t = (Kd.ty d (.cls n)).text ∧ look L n = none then 3 else 0
theorem kind_nt {L : List ClassR} {t : Nm} (h : t = [78] ∨ t = [84]) : kindErr L t = 0 := by unfold kindErr; rw [if_pos h]
theorem kind_bad {L : List ClassR} {t : Nm} (h1 : ¬ (t = [78] ∨ t = [84])) (h : ¬ TypeOk t) : kindErr L t = 1 := by unfold kindErr; rw [if_neg h1, if_pos h]
theorem ty_nt (d : Nat) (b : Bse) : ¬ ((Kd.ty d b).text = [78] ∨ (Kd.ty d b).text = [84]) := by
 obtain ⟨c, r, hc, h1, h2⟩ := ty_head d b
 rw [hc]
 rintro (e | e) <;> simp only [List.cons.injEq] at e
 · exact h1 e.1
 · exact h2 e.1
theorem kind_none {L : List ClassR} {d : Nat} {n : Nm} (hd : d ≤ 3) (hn : nameOk n = true) (hl : look L n = none) : kindErr L (Kd.ty d (.cls n)).text = 3 := by
 unfold kindErr
 rw [if_neg (ty_nt _ _), if_neg (fun h => h (type_kd.2 ⟨d, _, rfl, hd, fun m e => by cases e; exact hn⟩)), if_pos ⟨d, n, rfl, hl⟩]
theorem kind_ok {L : List ClassR} {k : Kd} (h : k.Ok L) : kindErr L k.text = 0 := by
 cases k with
 | nul => exact kind_nt (Or.inl rfl)
 | top => exact kind_nt (Or.inr rfl)
 | ty d b =>
   unfold kindErr
   rw [if_neg (ty_nt _ _), if_neg, if_neg]
   · rintro ⟨e, n, h1, h2⟩
     obtain ⟨rfl, rfl⟩ := ty_inj h1
     have := h.2.2
     rw [h2] at this
     cases this
   · intro hn
     refine hn (type_kd.2 ⟨d, b, rfl, h.1, fun n e => ?_⟩)
     subst e
     exact h.2.1
theorem kind_zero {L : List ClassR} {t : Nm} : kindErr L t = 0 ↔ ∃ k : Kd, k.Ok L ∧ t = k.text := by
 constructor
 · intro h
   by_cases h1 : t = [78]
   · exact ⟨.nul, trivial, h1⟩
   by_cases h2 : t = [84]
   · exact ⟨.top, trivial, h2⟩
   by_cases h3 : TypeOk t
   · obtain ⟨d, b, rfl, hd, hn⟩ := type_kd.1 h3
     refine ⟨.ty d b, ⟨hd, ?_⟩, rfl⟩
     cases b with
     | int => trivial
     | long => trivial
     | cls n =>
       refine ⟨hn n rfl, ?_⟩
       cases hl : look L n with
       | some c => rfl
       | none => rw [kind_none hd (hn n rfl) hl] at h; omega
   · rw [kind_bad (by rintro (e | e) <;> contradiction) h3] at h; omega
 · rintro ⟨k, hk, rfl⟩
   exact kind_ok hk
theorem good_nameOk {l : List ClassR} (hg : Good l) {n : Nm} (h : n ∈ names l) : nameOk n = true := by
 unfold names wl at h
 simp only [List.map_cons, List.mem_cons] at h
 rcases h with rfl | rfl | h
 · decide
 · decide
 · obtain ⟨c, hc, rfl⟩ := List.mem_map.1 h
   exact (classErr_ok (hg.ok c hc)).1.1
open Classical in
noncomputable def doesT (L : List ClassR) : Nat → Bse → Nat → Bse → Bool
 | 0, b, 0, b' => decide (b = b') || (b.isRef && b'.isRef && (every L b.cl).contains b'.cl)
 | _ + 1, _, 0, b' => decide (b' = .cls objN)
 | 0, _, _ + 1, _ => false
 | d + 1, b, d' + 1, b' => decide (d = d' ∧ b = b') || ((Kd.ty d b).refs && (Kd.ty d' b').refs && doesT L d b d' b')
noncomputable def doesK (L : List ClassR) : Kd → Kd → Bool
 | _, .top => true
 | .nul, .nul => true
 | .nul, k => k.refs
 | .top, _ => false
 | .ty _ _, .nul => false
 | .ty d b, .ty d' b' => doesT L d b d' b'
open Classical in
noncomputable def joinC (L : List ClassR) (a b : Nm) : Nm :=
 if ((look L a).elim false (·.face) || (look L b).elim false (·.face)) = true then objN else ((line L a).find? (fun c => (line L b).contains c)).getD objN
def Kd.up : Kd → Kd
 | .ty d b => .ty (d + 1) b
 | k => k
open Classical in
noncomputable def joinT (L : List ClassR) : Nat → Bse → Nat → Bse → Kd
 | 0, b, 0, b' => if b = b' then .ty 0 b else if (b.isRef && b'.isRef) = true then .ty 0 (.cls (joinC L b.cl b'.cl)) else .top
 | _ + 1, _, 0, b' => if b'.isRef = true then .ty 0 (.cls objN) else .top
 | 0, b, _ + 1, _ => if b.isRef = true then .ty 0 (.cls objN) else .top
 | d + 1, b, d' + 1, b' => if d = d' ∧ b = b' then .ty (d + 1) b else if ((Kd.ty d b).refs && (Kd.ty d' b').refs) = true then (joinT L d b d' b').up else .ty 0 (.cls objN)
noncomputable def joinK (L : List ClassR) : Kd → Kd → Kd
 | .nul, .nul => .nul
 | .top, _ => .top
 | _, .top => .top
 | .nul, k => if k.refs = true then k else .top
 | k, .nul => if k.refs = true then k else .top
 | .ty d b, .ty d' b' => joinT L d b d' b'
def thing (x : Nm) : Nm := 76 :: (x ++ [59])
theorem supers_stable {L : List ClassR} : ∀ (f : Nat) (n : Nm), (supers L f n).length < f → supers L (f + 1) n = supers L f n
 | 0, n, h => by omega
 | f + 1, n, h => by
   unfold supers at h ⊢
   cases hl : look L n with
   | none => rfl
   | some c =>
     rw [hl] at h
     simp only at h ⊢
     by_cases hs : c.sup = []
     · rw [if_pos hs, if_pos hs]
     · rw [if_neg hs] at h ⊢
       rw [if_neg hs]
       rw [supers_stable f c.sup (by simp only [List.length_cons] at h; omega)]
theorem line_len13 {l : List ClassR} (hg : Good l) (n : Nm) : (line (wl l) n).length ≤ 13 := by
 obtain ⟨cur, h, _⟩ := line_end hg n
 exact h.len hg
theorem supers_pre {L : List ClassR} : ∀ (f : Nat) (n : Nm), ∃ r, supers L (f + 1) n = supers L f n ++ r
 | 0, n => ⟨supers L 1 n, rfl⟩
 | f + 1, n => by
   cases hl : look L n with
   | none => exact ⟨[], by unfold supers; rw [hl]; rfl⟩
   | some c =>
     by_cases hs : c.sup = []
     · exact ⟨[], by unfold supers; rw [hl]; simp [hs]⟩
     · obtain ⟨r, hr⟩ := supers_pre f c.sup
       refine ⟨r, ?_⟩
       conv => lhs; unfold supers
       conv => rhs; unfold supers
       rw [hl]
       simp only [hs, if_false]
       rw [hr]; rfl
theorem line_cons {l : List ClassR} (hg : Good l) {n : Nm} {c : ClassR} (hc : look (wl l) n = some c) (hs : c.sup ≠ []) : line (wl l) n = n :: line (wl l) c.sup := by
 have h1 := line_len13 hg c.sup
 unfold line at h1 ⊢
 simp only [List.length_cons] at h1
 have e : supers (wl l) 100 n = c.sup :: supers (wl l) 99 c.sup := by
   rw [supers, hc]
   simp [hs]
 obtain ⟨r, hr⟩ := supers_pre (L := wl l) 99 c.sup
 have h2 : (supers (wl l) 99 c.sup).length < 99 := by
   have : (supers (wl l) 100 c.sup).length = _ := congrArg List.length hr
   rw [List.length_append] at this
   omega
 rw [e, supers_stable 99 c.sup h2]
theorem line_suffix {l : List ClassR} (hg : Good l) {d c : Nm} (h : c ∈ line (wl l) d) : ∃ pre, line (wl l) d = pre ++ line (wl l) c := by
 rw [line_rs hg] at h
 induction h with
 | refl => exact ⟨[], rfl⟩
 | @step x c hx h1 h2 ih =>
   obtain ⟨pre, hp⟩ := ih
   rw [line_cons hg h1 h2] at hp
   exact ⟨pre ++ [x], by rw [hp]; simp⟩
theorem line_nodup {l : List ClassR} (hg : Good l) (n : Nm) : (line (wl l) n).Nodup := by
 obtain ⟨cur, h, _⟩ := line_end hg n
 exact h.nd
theorem rs_names {l : List ClassR} (hg : Good l) {n x : Nm} (hn : n ∈ names l) (h : Rs (wl l) n x) : x ∈ names l := by
 rcases rc_names hg.join h.rc with e | e
 · rw [e]; exact hn
 · exact e
theorem face_sup {l : List ClassR} (hg : Good l) {x : Nm} {c : ClassR} (h1 : look (wl l) x = some c) (h2 : c.sup ≠ []) : ∃ d, look (wl l) c.sup = some d ∧ d.face = false := by
 obtain ⟨_, hm⟩ := find_name h1
 unfold wl at hm
 simp only [List.mem_cons] at hm
 rcases hm with rfl | rfl | hm
 · exact absurd rfl h2
 · exact ⟨objC, rfl, rfl⟩
 · obtain ⟨_, _, _, h4, _⟩ := join_parts (hg.join c hm)
   unfold hasErr at h4
   cases hl : look (wl l) c.sup with
   | none => rw [hl] at h4; simp at h4
   | some d =>
     rw [hl] at h4
     simp only [Option.elim] at h4
     refine ⟨d, rfl, ?_⟩
     split at h4
     · assumption
     · omega
theorem line_face {l : List ClassR} (hg : Good l) {a x : Nm} (ha : (look (wl l) a).elim false (·.face) = false) (h : Rs (wl l) a x) : (look (wl l) x).elim false (·.face) = false := by
 induction h with
 | refl => exact ha
 | step _ h1 h2 _ =>
   obtain ⟨d, hd, hf⟩ := face_sup hg h1 h2
   rw [hd]; exact hf
def common (A B : List Nm) : Nm := (A.find? (fun c => B.contains c)).getD objN
theorem common_spec {l : List ClassR} (hg : Good l) {a b : Nm} (ha : a ∈ names l) (hb : b ∈ names l) : common (line (wl l) a) (line (wl l) b) ∈ line (wl l) a ∧ common (line (wl l) a) (line (wl l) b) ∈ line (wl l) b ∧
   ∀ x ∈ line (wl l) a, x ∈ line (wl l) b → x ∈ line (wl l) (common (line (wl l) a) (line (wl l) b)) := by
 unfold common
 cases hf : (line (wl l) a).find? (fun c => (line (wl l) b).contains c) with
 | none =>
   have h1 := List.find?_eq_none.1 hf objN ((line_rs hg _ _).2 (line_obj hg ha))
   have h2 : objN ∈ line (wl l) b := (line_rs hg _ _).2 (line_obj hg hb)
   simp [h2] at h1
 | some c =>
   rw [List.find?_eq_some_iff_append] at hf
   obtain ⟨h1, as, bs, h2, h3⟩ := hf
   simp only [Option.getD_some]
   have hca : c ∈ line (wl l) a := by rw [h2]; simp
   have hcb : c ∈ line (wl l) b := by simpa using h1
   refine ⟨hca, hcb, ?_⟩
   intro x hx hxb
   obtain ⟨pre, hp⟩ := line_suffix hg hca
   have hnd := line_nodup hg a
   -- the part ahead of c is the same
   have e : pre = as := by
     have hc : line (wl l) c = c :: (line (wl l) c).tail := rfl
     rw [hc] at hp
     rw [h2] at hp hnd
     have gen : ∀ (as pre bs q : List Nm), (as ++ c :: bs).Nodup → as ++ c :: bs = pre ++ c :: q → pre = as := by
       intro as
       induction as with
       | nil =>
         intro pre bs q hn h
         cases pre with
         | nil => rfl
         | cons p pre =>
           simp only [List.nil_append, List.cons_append, List.cons.injEq] at h hn
           obtain ⟨rfl, h⟩ := h
           rw [List.nodup_cons] at hn
           exact absurd (by rw [h]; simp) hn.1
       | cons y as ih =>
         intro pre bs q hn h
         cases pre with
         | nil =>
           simp only [List.nil_append, List.cons_append, List.cons.injEq] at h
           obtain ⟨rfl, h⟩ := h
           simp only [List.cons_append, List.nodup_cons] at hn
           exact absurd (by simp) hn.1
         | cons p pre =>
           simp only [List.cons_append, List.cons.injEq] at h hn
           rw [List.nodup_cons] at hn
           rw [h.1, ih pre bs q hn.2 h.2]
     exact gen _ _ _ _ hnd hp
   subst e
   rw [hp] at hx
   rcases List.mem_append.1 hx with h4 | h4
   · have := h3 x h4
     simp [hxb] at this
   · exact h4
theorem joinC_face {L : List ClassR} {a b : Nm} (h : ((look L a).elim false (·.face) || (look L b).elim false (·.face)) = true) : joinC L a b = objN := by unfold joinC; rw [if_pos h]
theorem joinC_line {L : List ClassR} {a b : Nm} (h : ((look L a).elim false (·.face) || (look L b).elim false (·.face)) = false) : joinC L a b = common (line L a) (line L b) := by unfold joinC common; rw [if_neg (by rw [h]; simp)]
theorem obj_names (l : List ClassR) : objN ∈ names l := by simp [names, wl, objC]
theorem joinC_names {l : List ClassR} (hg : Good l) {a b : Nm} (ha : a ∈ names l) (hb : b ∈ names l) : joinC (wl l) a b ∈ names l := by
 cases hf : ((look (wl l) a).elim false (·.face) || (look (wl l) b).elim false (·.face)) with
 | true => rw [joinC_face hf]; exact obj_names l
 | false =>
   rw [joinC_line hf]
   exact rs_names hg ha ((line_rs hg _ _).1 (common_spec hg ha hb).1)
theorem obj_line {l : List ClassR} (hg : Good l) {x : Nm} (h : x ∈ line (wl l) objN) : x = objN := rc_obj ((line_rs hg _ _).1 h).rc
theorem self_line (L : List ClassR) (x : Nm) : x ∈ line L x := by unfold line; simp
theorem obj_ok (l : List ClassR) : (Bse.cls objN).Ok (wl l) := ⟨by decide, look_some.2 (obj_names l)⟩
theorem joinT_ref {l : List ClassR} (hg : Good l) {b b' : Bse} (hb : b.Ok (wl l)) (hb' : b'.Ok (wl l)) : ∀ (d d' : Nat), (Kd.ty d b).refs = true → (Kd.ty d' b').refs = true → ∃ e c, joinT (wl l) d b d' b' = .ty e c ∧ e ≤ d ∧ c.Ok (wl l) ∧ (Kd.ty e c).refs = true
 | 0, 0, h, h' => by
   simp only [Kd.refs] at h h'
   unfold joinT
   by_cases e : b = b'
   · rw [if_pos e]; exact ⟨0, b, rfl, Nat.le_refl _, hb, h⟩
   · rw [if_neg e, if_pos (by rw [h, h']; rfl)]
     refine ⟨0, _, rfl, Nat.le_refl _, ?_, rfl⟩
     cases b with
     | int => cases h
     | long => cases h
     | cls x =>
       cases b' with
       | int => cases h'
       | long => cases h'
       | cls y =>
         have hj := joinC_names hg (look_some.1 hb.2) (look_some.1 hb'.2)
         exact ⟨good_nameOk hg hj, look_some.2 hj⟩
 | d + 1, 0, h, h' => by
   simp only [Kd.refs] at h'
   unfold joinT
   rw [if_pos h']
   exact ⟨0, _, rfl, by omega, obj_ok l, rfl⟩
 | 0, d + 1, h, h' => by
   simp only [Kd.refs] at h
   unfold joinT
   rw [if_pos h]
   exact ⟨0, _, rfl, by omega, obj_ok l, rfl⟩
 | d + 1, d' + 1, h, h' => by
   have ih := joinT_ref hg hb hb' d d'
   unfold joinT
   by_cases e : d = d' ∧ b = b'
   · rw [if_pos e]; exact ⟨d + 1, b, rfl, Nat.le_refl _, hb, rfl⟩
   · rw [if_neg e]
     cases hr : ((Kd.ty d b).refs && (Kd.ty d' b').refs) with
     | true =>
       rw [if_pos rfl]
       simp only [Bool.and_eq_true] at hr
       obtain ⟨e', c, h1, h2, h3, h4⟩ := ih hr.1 hr.2
       rw [h1]
       exact ⟨e' + 1, c, rfl, by omega, h3, rfl⟩
     | false =>
       rw [if_neg (by simp)]
       exact ⟨0, _, rfl, by omega, obj_ok l, rfl⟩
theorem joinT_top {L : List ClassR} {b b' : Bse} : ∀ (d d' : Nat), ((Kd.ty d b).refs && (Kd.ty d' b').refs) = false → joinT L d b d' b' = .top ∨ (d = d' ∧ b = b' ∧ joinT L d b d' b' = .ty d b)
 | 0, 0, h => by
   simp only [Kd.refs] at h
   unfold joinT
   by_cases e : b = b'
   · rw [if_pos e]; exact Or.inr ⟨rfl, e, rfl⟩
   · rw [if_neg e, if_neg (by rw [h]; simp)]; exact Or.inl rfl
 | d + 1, 0, h => by
   simp only [Kd.refs, Bool.true_and] at h
   unfold joinT
   rw [if_neg (by rw [h]; simp)]; exact Or.inl rfl
 | 0, d + 1, h => by
   simp only [Kd.refs, Bool.and_true] at h
   unfold joinT
   rw [if_neg (by rw [h]; simp)]; exact Or.inl rfl
 | d + 1, d' + 1, h => by simp [Kd.refs] at h
theorem joinT_ok {l : List ClassR} (hg : Good l) {b b' : Bse} {d d' : Nat} (h : (Kd.ty d b).Ok (wl l)) (h' : (Kd.ty d' b').Ok (wl l)) : (joinT (wl l) d b d' b').Ok (wl l) := by
 cases hr : ((Kd.ty d b).refs && (Kd.ty d' b').refs) with
 | true =>
   simp only [Bool.and_eq_true] at hr
   obtain ⟨e, c, h1, h2, h3, _⟩ := joinT_ref hg h.2 h'.2 d d' hr.1 hr.2
   rw [h1]
   exact ⟨Nat.le_trans h2 h.1, h3⟩
 | false =>
   rcases joinT_top (L := wl l) d d' hr with h1 | ⟨_, _, h1⟩
   · rw [h1]; trivial
   · rw [h1]; exact h
theorem joinK_ok {l : List ClassR} (hg : Good l) {a b : Kd} (ha : a.Ok (wl l)) (hb : b.Ok (wl l)) : (joinK (wl l) a b).Ok (wl l) := by
 cases a <;> cases b <;> simp only [joinK]
 all_goals first | trivial | exact joinT_ok hg ha hb | (split <;> first | trivial | assumption)
theorem joinT_self (L : List ClassR) : ∀ (d : Nat) (b : Bse), joinT L d b d b = .ty d b
 | 0, b => by unfold joinT; rw [if_pos rfl]
 | d + 1, b => by unfold joinT; rw [if_pos ⟨rfl, rfl⟩]
structure FrR where
 loc : List Nm
 st : List Nm
noncomputable def kindsErr (L : List ClassR) : List Nm → Int
 | [] => 0
 | x :: r => if kindErr L x = 0 then kindsErr L r else kindErr L x
theorem kindsErr_zero {L : List ClassR} : ∀ {l : List Nm}, kindsErr L l = 0 ↔ ∀ x ∈ l, kindErr L x = 0
 | [] => by simp [kindsErr]
 | x :: r => by
   have ih := kindsErr_zero (L := L) (l := r)
   simp only [kindsErr]
   by_cases h : kindErr L x = 0
   · rw [if_pos h]; simp [h, ih]
   · rw [if_neg h]; simp [h]
theorem kindsErr_at {L : List ClassR} : ∀ {l : List Nm} {k : Nat} {x : Nm}, (∀ y ∈ l.take k, kindErr L y = 0) → l[k]? = some x → kindErr L x ≠ 0 → kindsErr L l = kindErr L x
 | [], k, x, _, h, _ => by simp at h
 | y :: r, 0, x, _, h, h2 => by
   simp only [List.getElem?_cons_zero, Option.some.injEq] at h
   subst h
   simp only [kindsErr]; rw [if_neg h2]
 | y :: r, k + 1, x, h0, h, h2 => by
   simp only [kindsErr]
   rw [if_pos (h0 y (by simp)), kindsErr_at (k := k) (x := x) (fun z hz => h0 z (by simp [hz])) (by simpa using h) h2]
noncomputable def chkErr (L : List ClassR) (f : FrR) : Int := if 8 < f.loc.length ∨ 8 < f.st.length then 4 else kindsErr L (f.loc ++ f.st)
theorem chk_zero {L : List ClassR} {f : FrR} : chkErr L f = 0 ↔ (f.loc.length ≤ 8 ∧ f.st.length ≤ 8) ∧ ∀ x ∈ f.loc ++ f.st, kindErr L x = 0 := by
 unfold chkErr
 by_cases h : 8 < f.loc.length ∨ 8 < f.st.length
 · rw [if_pos h]
   constructor
   · intro h'; omega
   · rintro ⟨h', _⟩; omega
 · rw [if_neg h, kindsErr_zero]
   constructor
   · intro h'; exact ⟨by omega, h'⟩
   · exact fun h' => h'.2
open Classical in
noncomputable def kd (L : List ClassR) (t : Nm) : Kd := if h : ∃ k : Kd, k.Ok L ∧ t = k.text then Classical.choose h else .top
theorem kd_spec {L : List ClassR} {t : Nm} (h : kindErr L t = 0) : (kd L t).Ok L ∧ t = (kd L t).text := by
 have h' := kind_zero.1 h
 unfold kd
 rw [dif_pos h']
 exact Classical.choose_spec h'
theorem kd_text {L : List ClassR} {k : Kd} (h : k.Ok L) : kd L k.text = k := (text_inj (kd_spec (kind_zero.2 ⟨k, h, rfl⟩)).2).symm
noncomputable def joinN (L : List ClassR) (s t : Nm) : Nm := (joinK L (kd L s) (kd L t)).text
theorem joinN_ok {l : List ClassR} (hg : Good l) {s t : Nm} (hs : kindErr (wl l) s = 0) (ht : kindErr (wl l) t = 0) : kindErr (wl l) (joinN (wl l) s t) = 0 :=
 kind_zero.2 ⟨_, joinK_ok hg (kd_spec hs).1 (kd_spec ht).1, rfl⟩
theorem zip_mem {f : Nm → Nm → Nm} {P : Nm → Prop} : ∀ {a b : List Nm}, (∀ x ∈ a, ∀ y ∈ b, P (f x y)) → ∀ z ∈ List.zipWith f a b, P z
 | [], b, _, z, h => by simp at h
 | x :: a, [], _, z, h => by simp at h
 | x :: a, y :: b, h, z, hz => by
   simp only [List.zipWith_cons_cons, List.mem_cons] at hz
   rcases hz with rfl | hz
   · exact h x (by simp) y (by simp)
   · exact zip_mem (fun u hu v hv => h u (by simp [hu]) v (by simp [hv])) z hz
theorem zip_len {f : Nm → Nm → Nm} {a b : List Nm} (h : a.length = b.length) : (List.zipWith f a b).length = a.length := by simp [h]
noncomputable def joinF (L : List ClassR) (a b : FrR) : FrR := ⟨List.zipWith (joinN L) a.loc b.loc, List.zipWith (joinN L) a.st b.st⟩
def sameSh (a b : FrR) : Prop := a.loc.length = b.loc.length ∧ a.st.length = b.st.length
open Classical in
noncomputable def fjErr (l : List ClassR) (a b : FrR) : Int :=
 if readErr l ≠ 0 then readErr l else if chkErr (wl l) a ≠ 0 then chkErr (wl l) a else if chkErr (wl l) b ≠ 0 then chkErr (wl l) b else if sameSh a b then 0 else 8
structure KOk (L : List ClassR) (f : FrR) : Prop where
 loc : f.loc.length ≤ 8
 st : f.st.length ≤ 8
 kn : ∀ t ∈ f.loc ++ f.st, kindErr L t = 0
noncomputable def rkB (L : List ClassR) : Bse → Nat
 | .cls n => if (look L n).elim false (·.face) = true then 20 else 1 + (line L n).length
 | _ => 1
noncomputable def rkT (L : List ClassR) (d : Nat) (b : Bse) : Nat := 20 * d + rkB L b
noncomputable def rkK (L : List ClassR) : Kd → Nat
 | .top => 0
 | .nul => 200
 | .ty d b => rkT L d b
theorem rkB_cls (L : List ClassR) (n : Nm) : rkB L (.cls n) = if (look L n).elim false (·.face) = true then 20 else 1 + (line L n).length := rfl
theorem rkK_ty (L : List ClassR) (d : Nat) (b : Bse) : rkK L (.ty d b) = 20 * d + rkB L b := rfl
theorem line_obj1 (l : List ClassR) : (line (wl l) objN).length = 1 := by
 simp [line, supers, look, wl, objC]
theorem face_obj (l : List ClassR) : (look (wl l) objN).elim false (·.face) = false := by simp [look, wl, objC]
theorem rkB_obj (l : List ClassR) : rkB (wl l) (.cls objN) = 2 := by
 have h := face_obj l
 simp only [rkB]
 rw [h, line_obj1]
 rfl
theorem rkB_le {l : List ClassR} (hg : Good l) (b : Bse) : 1 ≤ rkB (wl l) b ∧ rkB (wl l) b ≤ 20 := by
 cases b with
 | int => simp [rkB]
 | long => simp [rkB]
 | cls n =>
   have := line_len13 hg n
   rw [rkB_cls]
   split <;> omega
theorem rkK_le {l : List ClassR} (hg : Good l) {k : Kd} (h : k.Ok (wl l)) : rkK (wl l) k ≤ 200 := by
 cases k with
 | nul => simp [rkK]
 | top => simp [rkK]
 | ty d b =>
   have := rkB_le hg b
   have := h.1
   rw [rkK_ty]
   omega
theorem obj_in_line {l : List ClassR} (hg : Good l) {x : Nm} (hx : x ∈ names l) : objN ∈ line (wl l) x := by
 obtain ⟨h1, h2, _⟩ := common_spec hg hx (obj_names l)
 rw [obj_line hg h2] at h1
 exact h1
theorem rkB_gt {l : List ClassR} (hg : Good l) {x : Nm} (hx : x ∈ names l) (hne : x ≠ objN) : 2 < rkB (wl l) (.cls x) := by
 rw [rkB_cls]
 split
 · omega
 · have h1 := self_line (wl l) x
   have h2 := obj_in_line hg hx
   have : 2 ≤ (line (wl l) x).length := by
     generalize line (wl l) x = A at *
     match A, h1, h2 with
     | [], h1, _ => simp at h1
     | [a], h1, h2 =>
       simp only [List.mem_singleton] at h1 h2
       exact absurd (h1.trans h2.symm) hne
     | a :: b :: r, _, _ => simp
   omega
theorem rk_joinC {l : List ClassR} (hg : Good l) {a b : Nm} (ha : a ∈ names l) (hb : b ∈ names l) (hne : joinC (wl l) a b ≠ a) : rkB (wl l) (.cls (joinC (wl l) a b)) < rkB (wl l) (.cls a) := by
 cases hf : ((look (wl l) a).elim false (·.face) || (look (wl l) b).elim false (·.face)) with
 | true =>
   rw [joinC_face hf] at hne ⊢
   rw [rkB_obj]
   exact rkB_gt hg ha (fun e => hne e.symm)
 | false =>
   rw [joinC_line hf] at hne ⊢
   have hfa : (look (wl l) a).elim false (·.face) = false := by
     simp only [Bool.or_eq_false_iff] at hf; exact hf.1
   obtain ⟨h1, _, _⟩ := common_spec hg ha hb
   generalize common (line (wl l) a) (line (wl l) b) = c at *
   have hfc := line_face hg hfa ((line_rs hg _ _).1 h1)
   rw [rkB_cls, rkB_cls]
   rw [if_neg (by rw [hfc]; simp), if_neg (by rw [hfa]; simp)]
   obtain ⟨pre, hp⟩ := line_suffix hg h1
   rw [hp, List.length_append]
   cases pre with
   | nil =>
     simp only [List.nil_append] at hp
     unfold line at hp
     simp only [List.cons.injEq] at hp
     exact absurd hp.1.symm hne
   | cons x r => simp
theorem rk_joinT {l : List ClassR} (hg : Good l) {b b' : Bse} (hb : b.Ok (wl l)) (hb' : b'.Ok (wl l)) : ∀ (d d' : Nat), (Kd.ty d b).refs = true → (Kd.ty d' b').refs = true → joinT (wl l) d b d' b' ≠ .ty d b → rkK (wl l) (joinT (wl l) d b d' b') < rkT (wl l) d b
 | 0, 0, h, h', hne => by
   simp only [Kd.refs] at h h'
   unfold joinT at hne ⊢
   by_cases e : b = b'
   · rw [if_pos e] at hne; exact absurd rfl hne
   · rw [if_neg e, if_pos (by rw [h, h']; rfl)] at hne ⊢
     cases b with
     | int => cases h
     | long => cases h
     | cls x =>
       cases b' with
       | int => cases h'
       | long => cases h'
       | cls y =>
         have := rk_joinC hg (look_some.1 hb.2) (look_some.1 hb'.2) (fun e => hne (by show Kd.ty 0 (.cls (joinC (wl l) x y)) = _; rw [e]))
         show 20 * 0 + rkB (wl l) (.cls (joinC (wl l) x y)) < _
         unfold rkT
         omega
 | d + 1, 0, h, h', hne => by
   simp only [Kd.refs] at h'
   unfold joinT
   rw [if_pos h']
   have := rkB_le hg b
   show 20 * 0 + rkB (wl l) (.cls objN) < rkT (wl l) (d + 1) b
   rw [rkB_obj]; unfold rkT; omega
 | 0, d + 1, h, h', hne => by
   simp only [Kd.refs] at h
   unfold joinT at hne ⊢
   rw [if_pos h] at hne ⊢
   cases b with
   | int => cases h
   | long => cases h
   | cls x =>
     have := rkB_gt hg (look_some.1 hb.2) (fun e => hne (by rw [e]))
     show 20 * 0 + rkB (wl l) (.cls objN) < rkT (wl l) 0 (.cls x)
     rw [rkB_obj]; unfold rkT; omega
 | d + 1, d' + 1, h, h', hne => by
   have ih := rk_joinT hg hb hb' d d'
   unfold joinT at hne ⊢
   by_cases e : d = d' ∧ b = b'
   · rw [if_pos e] at hne; exact absurd rfl hne
   · rw [if_neg e] at hne ⊢
     cases hr : ((Kd.ty d b).refs && (Kd.ty d' b').refs) with
     | true =>
       rw [hr, if_pos rfl] at hne
       rw [if_pos rfl]
       simp only [Bool.and_eq_true] at hr
       obtain ⟨e', c, h1, h2, h3, h4⟩ := joinT_ref hg hb hb' d d' hr.1 hr.2
       have h5 := ih hr.1 hr.2 (fun e2 => hne (by rw [e2]; rfl))
       rw [h1] at h5 ⊢
       show rkT (wl l) (e' + 1) c < rkT (wl l) (d + 1) b
       change rkT (wl l) e' c < _ at h5
       unfold rkT at h5 ⊢
       omega
     | false =>
       rw [if_neg (by simp)]
       have := rkB_le hg b
       show 20 * 0 + rkB (wl l) (.cls objN) < rkT (wl l) (d + 1) b
       rw [rkB_obj]; unfold rkT; omega
theorem rk_joinK {l : List ClassR} (hg : Good l) {a b : Kd} (ha : a.Ok (wl l)) (hb : b.Ok (wl l)) (hne : joinK (wl l) a b ≠ a) : rkK (wl l) (joinK (wl l) a b) < rkK (wl l) a := by
 have hp : ∀ d c, 0 < rkK (wl l) (.ty d c) := fun d c => by
   have := rkB_le hg c
   show 0 < rkT _ d c
   unfold rkT; omega
 have h2 : ∀ d c, (Kd.ty d c).Ok (wl l) → rkK (wl l) (.ty d c) < 200 := fun d c h => by
   have := rkB_le hg c
   have := h.1
   show rkT _ d c < 200
   unfold rkT; omega
 cases a with
 | nul =>
   cases b with
   | nul => exact absurd rfl hne
   | top => show (0 : Nat) < 200; omega
   | ty d c =>
     simp only [joinK]
     split
     · exact h2 d c hb
     · show (0 : Nat) < 200; omega
 | top => exact absurd (by cases b <;> rfl) hne
 | ty d c =>
   cases b with
   | nul =>
     simp only [joinK] at hne ⊢
     split at hne
     · exact absurd rfl hne
     · rename_i h; rw [if_neg h]; exact hp d c
   | top => exact hp d c
   | ty d' c' =>
     simp only [joinK] at hne ⊢
     cases hr : ((Kd.ty d c).refs && (Kd.ty d' c').refs) with
     | true =>
       simp only [Bool.and_eq_true] at hr
       exact rk_joinT hg ha.2 hb.2 d d' hr.1 hr.2 hne
     | false =>
       rcases joinT_top (L := wl l) d d' hr with h1 | ⟨_, _, h1⟩
       · rw [h1]; exact hp d c
       · exact absurd h1 hne
noncomputable def rkN (L : List ClassR) (t : Nm) : Nat := rkK L (kd L t)
theorem rkN_le {l : List ClassR} (hg : Good l) {t : Nm} (h : kindErr (wl l) t = 0) : rkN (wl l) t ≤ 200 := rkK_le hg (kd_spec h).1
theorem rk_joinN {l : List ClassR} (hg : Good l) {s t : Nm} (hs : kindErr (wl l) s = 0) (ht : kindErr (wl l) t = 0) : joinN (wl l) s t = s ∨ rkN (wl l) (joinN (wl l) s t) < rkN (wl l) s := by
 have hj := joinK_ok hg (kd_spec hs).1 (kd_spec ht).1
 unfold joinN rkN
 rw [kd_text hj]
 by_cases e : joinK (wl l) (kd (wl l) s) (kd (wl l) t) = kd (wl l) s
 · left; rw [e]; exact (kd_spec hs).2.symm
 · exact Or.inr (rk_joinK hg (kd_spec hs).1 (kd_spec ht).1 e)
noncomputable def rkL (L : List ClassR) : List Nm → Nat
 | [] => 0
 | x :: r => rkN L x + rkL L r
theorem rkL_le {l : List ClassR} (hg : Good l) : ∀ {A : List Nm}, (∀ t ∈ A, kindErr (wl l) t = 0) → rkL (wl l) A ≤ 200 * A.length
 | [], _ => by simp [rkL]
 | x :: r, h => by
   have h1 := rkN_le hg (h x (by simp))
   have h2 := rkL_le hg (A := r) (fun t ht => h t (by simp [ht]))
   simp only [rkL, List.length_cons]
   omega
theorem rk_zip {l : List ClassR} (hg : Good l) : ∀ {A B : List Nm}, A.length = B.length → (∀ t ∈ A, kindErr (wl l) t = 0) → (∀ t ∈ B, kindErr (wl l) t = 0) → List.zipWith (joinN (wl l)) A B = A ∨ rkL (wl l) (List.zipWith (joinN (wl l)) A B) < rkL (wl l) A
 | [], [], _, _, _ => Or.inl rfl
 | [], _ :: _, h, _, _ => by simp at h
 | _ :: _, [], h, _, _ => by simp at h
 | x :: A, y :: B, hl, ha, hb => by
   have ih := rk_zip hg (A := A) (B := B) (by simpa using hl) (fun t ht => ha t (by simp [ht])) (fun t ht => hb t (by simp [ht]))
   have h1 := rk_joinN hg (ha x (by simp)) (hb y (by simp))
   simp only [List.zipWith_cons_cons, rkL]
   rcases h1 with h1 | h1
   · rw [h1]
     rcases ih with ih | ih
     · left; rw [ih]
     · right; omega
   · right
     rcases ih with ih | ih
     · rw [ih]; omega
     · omega
noncomputable def rkF (L : List ClassR) (f : FrR) : Nat := rkL L f.loc + rkL L f.st
theorem KOk.mem1 {L : List ClassR} {f : FrR} (h : KOk L f) : ∀ t ∈ f.loc, kindErr L t = 0 := fun t ht => h.kn t (by simp [ht])
theorem KOk.mem2 {L : List ClassR} {f : FrR} (h : KOk L f) : ∀ t ∈ f.st, kindErr L t = 0 := fun t ht => h.kn t (by simp [ht])
theorem rkF_le {l : List ClassR} (hg : Good l) {f : FrR} (h : KOk (wl l) f) : rkF (wl l) f ≤ 3200 := by
 have h1 := rkL_le hg h.mem1
 have h2 := rkL_le hg h.mem2
 have := h.loc
 have := h.st
 unfold rkF; omega
theorem rk_joinF {l : List ClassR} (hg : Good l) {f g : FrR} (hf : KOk (wl l) f) (hk : KOk (wl l) g) (hs : sameSh f g) : joinF (wl l) f g = f ∨ rkF (wl l) (joinF (wl l) f g) < rkF (wl l) f := by
 have h1 := rk_zip hg hs.1 hf.mem1 hk.mem1
 have h2 := rk_zip hg hs.2 hf.mem2 hk.mem2
 obtain ⟨fl, fs⟩ := f
 unfold joinF rkF
 dsimp only at *
 rcases h1 with h1 | h1 <;> rcases h2 with h2 | h2
 · left; rw [h1, h2]
 · right; rw [h1]; omega
 · right; rw [h2]; omega
 · right; omega
theorem joinF_kok {l : List ClassR} (hg : Good l) {f g : FrR} (hf : KOk (wl l) f) (hk : KOk (wl l) g) (hs : sameSh f g) : KOk (wl l) (joinF (wl l) f g) := by
 refine ⟨?_, ?_, ?_⟩
 · show (List.zipWith _ f.loc g.loc).length ≤ 8
   rw [zip_len hs.1]; exact hf.loc
 · show (List.zipWith _ f.st g.st).length ≤ 8
   rw [zip_len hs.2]; exact hf.st
 · intro t ht
   rcases List.mem_append.1 ht with ht | ht
   · exact zip_mem (P := fun z => kindErr (wl l) z = 0) (fun x hx y hy => joinN_ok hg (hf.mem1 x hx) (hk.mem1 y hy)) t ht
   · exact zip_mem (P := fun z => kindErr (wl l) z = 0) (fun x hx y hy => joinN_ok hg (hf.mem2 x hx) (hk.mem2 y hy)) t ht
theorem KOk.chk {L : List ClassR} {f : FrR} (h : KOk L f) : chkErr L f = 0 := chk_zero.2 ⟨⟨h.loc, h.st⟩, h.kn⟩
theorem joinF_self {l : List ClassR} {f : FrR} (hf : KOk (wl l) f) : joinF (wl l) f f = f := by
 have hz : ∀ {A : List Nm}, (∀ t ∈ A, kindErr (wl l) t = 0) → List.zipWith (joinN (wl l)) A A = A := by
   intro A
   induction A with
   | nil => intro _; rfl
   | cons x r ih =>
     intro h
     simp only [List.zipWith_cons_cons]
     rw [ih (fun t ht => h t (by simp [ht]))]
     congr 1
     have hs := kd_spec (h x (by simp))
     unfold joinN
     have : joinK (wl l) (kd (wl l) x) (kd (wl l) x) = kd (wl l) x := by
       cases kd (wl l) x with
       | nul => rfl
       | top => rfl
       | ty d b => exact joinT_self _ d b
     rw [this]
     exact hs.2.symm
 unfold joinF
 rw [hz hf.mem1, hz hf.mem2]
structure LkSt where
 fr : Int → Option FrR
 todo : List Nat
def updF (fr : Int → Option FrR) (z : Int) (f : FrR) (y : Int) : Option FrR := if y = z then some f else fr y
theorem updF_same (fr : Int → Option FrR) (z : Int) (f : FrR) : updF fr z f z = some f := by simp [updF]
theorem updF_other (fr : Int → Option FrR) (z : Int) (f : FrR) {y : Int} (h : y ≠ z) : updF fr z f y = fr y := by simp [updF, h]
open Classical in
noncomputable def meetF (L : List ClassR) (s : LkSt) (z : Nat) (f : FrR) : Option LkSt :=
 (s.fr z).elim (some ⟨updF s.fr z f, s.todo ++ [z]⟩) fun was =>
   if sameSh was f then (if joinF L was f = was then some s else some ⟨updF s.fr z (joinF L was f), s.todo ++ [z]⟩) else none
theorem meetF_new {L : List ClassR} {s : LkSt} {z : Nat} {f : FrR} (h : s.fr z = none) : meetF L s z f = some ⟨updF s.fr z f, s.todo ++ [z]⟩ := by unfold meetF; rw [h]; rfl
theorem meetF_bad {L : List ClassR} {s : LkSt} {z : Nat} {f was : FrR} (h : s.fr z = some was) (hs : ¬ sameSh was f) : meetF L s z f = none := by
 unfold meetF; rw [h]; exact if_neg hs
theorem meetF_same {L : List ClassR} {s : LkSt} {z : Nat} {f was : FrR} (h : s.fr z = some was) (hs : sameSh was f) (hj : joinF L was f = was) : meetF L s z f = some s := by
 unfold meetF; rw [h]; simp only [Option.elim_some]; rw [if_pos hs, if_pos hj]
theorem meetF_up {L : List ClassR} {s : LkSt} {z : Nat} {f was : FrR} (h : s.fr z = some was) (hs : sameSh was f) (hj : joinF L was f ≠ was) : meetF L s z f = some ⟨updF s.fr z (joinF L was f), s.todo ++ [z]⟩ := by
 unfold meetF; rw [h]; simp only [Option.elim_some]; rw [if_pos hs, if_neg hj]
noncomputable def hsF (L : List ClassR) (cF : HandR → FrR → Option FrR) (z : Nat) (f : FrR) : List HandR → LkSt → Option LkSt
 | [], s => some s
 | h :: r, s => if (z : Int) < h.lo ∨ h.hi ≤ (z : Int) then hsF L cF z f r s else (cF h f).elim none fun g => (meetF L s h.at_.toNat g).elim none (hsF L cF z f r)
noncomputable def nxF (L : List ClassR) (out : FrR) : List Nat → LkSt → Option LkSt
 | [], s => some s
 | j :: r, s => (meetF L s j out).elim none (nxF L out r)
noncomputable def lookF (L : List ClassR) (cF : HandR → FrR → Option FrR) (aF : InsR → FrR → Option FrR) (hs : List HandR) (code : List InsR) (z : Nat) (s : LkSt) : Option LkSt :=
 (s.fr z).elim none fun f => (hsF L cF z f hs s).elim none fun s1 => (code[z]?).elim none fun x => (aF x f).elim none fun out => nxF L out (aft code z) s1
def sumP (g : Nat → Nat) : Nat → Nat
 | 0 => 0
 | n + 1 => sumP g n + g n
theorem sumP_cong {g g' : Nat → Nat} : ∀ {n : Nat}, (∀ j, j < n → g' j = g j) → sumP g' n = sumP g n
 | 0, _ => rfl
 | n + 1, h => by
   simp only [sumP]
   rw [sumP_cong (n := n) (fun j hj => h j (by omega)), h n (by omega)]
theorem sumP_upd {g g' : Nat → Nat} {z : Nat} : ∀ {n : Nat}, z < n → (∀ j, j < n → j ≠ z → g' j = g j) → sumP g' n + g z = sumP g n + g' z
 | 0, h, _ => by omega
 | n + 1, h, hk => by
   simp only [sumP]
   by_cases e : z = n
   · subst e
     rw [sumP_cong (n := z) (g := g) (g' := g') (fun j hj => hk j (by omega) (by omega))]
     omega
   · have := sumP_upd (n := n) (g := g) (g' := g') (z := z) (by omega) (fun j hj hne => hk j (by omega) hne)
     rw [hk n (by omega) (fun e2 => e e2.symm)]
     omega
noncomputable def pot (L : List ClassR) (o : Option FrR) : Nat := o.elim 3201 (rkF L)
noncomputable def mu (L : List ClassR) (n : Nat) (s : LkSt) : Nat := s.todo.length + sumP (fun z => pot L (s.fr z)) n
structure LkOk (L : List ClassR) (n : Nat) (s : LkSt) : Prop where
 kok : ∀ z f, s.fr z = some f → KOk L f ∧ 0 ≤ z ∧ z < (n : Int)
 td : ∀ z ∈ s.todo, z < n ∧ (s.fr z).isSome = true
def LkUp (s s' : LkSt) : Prop := ∀ z, (s.fr z).isSome = true → (s'.fr z).isSome = true
theorem LkUp.refl (s : LkSt) : LkUp s s := fun _ h => h
theorem LkUp.trans {a b c : LkSt} (h : LkUp a b) (k : LkUp b c) : LkUp a c := fun z hz => k z (h z hz)
structure LkStep (L : List ClassR) (n : Nat) (s s' : LkSt) : Prop where
 ok : LkOk L n s'
 mu : mu L n s' ≤ mu L n s
 up : LkUp s s'
theorem LkStep.refl {L : List ClassR} {n : Nat} {s : LkSt} (h : LkOk L n s) : LkStep L n s s := ⟨h, Nat.le_refl _, .refl s⟩
theorem LkStep.trans {L : List ClassR} {n : Nat} {a b c : LkSt} (h : LkStep L n a b) (k : LkStep L n b c) : LkStep L n a c := ⟨k.ok, Nat.le_trans k.mu h.mu, h.up.trans k.up⟩
theorem push_ok {L : List ClassR} {n : Nat} {s : LkSt} (h : LkOk L n s) {z : Nat} (hz : z < n) {f : FrR} (hf : KOk L f) (hp : rkF L f < pot L (s.fr z)) : LkStep L n s ⟨updF s.fr z f, s.todo ++ [z]⟩ := by
 refine ⟨⟨?_, ?_⟩, ?_, ?_⟩
 · intro y g hy
   change updF s.fr z f y = some g at hy
   by_cases e : y = (z : Int)
   · rw [e, updF_same] at hy
     cases hy
     exact ⟨hf, by omega, by omega⟩
   · rw [updF_other _ _ _ e] at hy
     exact h.kok y g hy
 · intro y hy
   rcases List.mem_append.1 hy with hy | hy
   · refine ⟨(h.td y hy).1, ?_⟩
     show (updF s.fr z f y).isSome = true
     unfold updF
     split
     · rfl
     · exact (h.td y hy).2
   · rw [List.mem_singleton.1 hy]
     refine ⟨hz, ?_⟩
     show (updF s.fr z f z).isSome = true
     rw [updF_same]; rfl
 · have := sumP_upd (g := fun z => pot L (s.fr z)) (g' := fun y => pot L (updF s.fr z f y)) hz (fun j _ hne => by
     show pot L (updF s.fr z f j) = pot L (s.fr j)
     rw [updF_other _ _ _ (by omega)])
   have h2 : pot L (updF s.fr z f z) = rkF L f := by rw [updF_same]; rfl
   rw [h2] at this
   show (s.todo ++ [z]).length + sumP (fun y => pot L (updF s.fr z f y)) n ≤ s.todo.length + sumP (fun z => pot L (s.fr z)) n
   simp only [List.length_append, List.length_cons, List.length_nil]
   omega
 · intro y hy
   show (updF s.fr z f y).isSome = true
   unfold updF
   split
   · rfl
   · exact hy
theorem meet_ok {l : List ClassR} (hg : Good l) {n : Nat} {s s' : LkSt} (h : LkOk (wl l) n s) {z : Nat} (hz : z < n) {f : FrR} (hf : KOk (wl l) f) (hm : meetF (wl l) s z f = some s') : LkStep (wl l) n s s' := by
 cases hw : s.fr z with
 | none =>
   rw [meetF_new hw] at hm
   cases hm
   refine push_ok h hz hf ?_
   rw [hw]
   have := rkF_le hg hf
   show rkF (wl l) f < 3201
   omega
 | some was =>
   by_cases hs : sameSh was f
   · by_cases hj : joinF (wl l) was f = was
     · rw [meetF_same hw hs hj] at hm
       cases hm
       exact .refl h
     · rw [meetF_up hw hs hj] at hm
       cases hm
       have hk := (h.kok _ _ hw).1
       refine push_ok h hz (joinF_kok hg hk hf hs) ?_
       rw [hw]
       rcases rk_joinF hg hk hf hs with e | e
       · exact absurd e hj
       · exact e
   · rw [meetF_bad hw hs] at hm
     cases hm
theorem oels {α β : Type} {o : Option α} {F : α → Option β} {g : β} (h : o.elim none F = some g) : ∃ p, o = some p ∧ F p = some g := by
 cases o with
 | none => cases h
 | some p => exact ⟨p, rfl, h⟩
theorem hs_ok {l : List ClassR} (hg : Good l) {n : Nat} {cF : HandR → FrR → Option FrR} {z : Nat} {f : FrR} (hc : ∀ h g, cF h f = some g → KOk (wl l) g) : ∀ {hs : List HandR} {s s' : LkSt}, (∀ h ∈ hs, h.at_.toNat < n) → LkOk (wl l) n s → hsF (wl l) cF z f hs s = some s' → LkStep (wl l) n s s'
 | [], s, s', _, h, hm => by
   simp only [hsF, Option.some.injEq] at hm
   subst hm
   exact .refl h
 | x :: r, s, s', hh, h, hm => by
   unfold hsF at hm
   split at hm
   · exact hs_ok hg hc (fun y hy => hh y (by simp [hy])) h hm
   · obtain ⟨g, hg1, hm⟩ := oels hm
     obtain ⟨s1, hs1, hm⟩ := oels hm
     have h1 := meet_ok hg h (hh x (by simp)) (hc x g hg1) hs1
     exact h1.trans (hs_ok hg hc (fun y hy => hh y (by simp [hy])) h1.ok hm)
theorem nx_ok {l : List ClassR} (hg : Good l) {n : Nat} {out : FrR} (ho : KOk (wl l) out) : ∀ {js : List Nat} {s s' : LkSt}, (∀ j ∈ js, j < n) → LkOk (wl l) n s → nxF (wl l) out js s = some s' → LkStep (wl l) n s s'
 | [], s, s', _, h, hm => by
   simp only [nxF, Option.some.injEq] at hm
   subst hm
   exact .refl h
 | x :: r, s, s', hh, h, hm => by
   unfold nxF at hm
   obtain ⟨s1, hs1, hm⟩ := oels hm
   have h1 := meet_ok hg h (hh x (by simp)) ho hs1
   exact h1.trans (nx_ok hg ho (fun y hy => hh y (by simp [hy])) h1.ok hm)
structure LkFns (L : List ClassR) (cF : HandR → FrR → Option FrR) (aF : InsR → FrR → Option FrR) (hs : List HandR) (code : List InsR) : Prop where
 c : ∀ f, KOk L f → ∀ h g, cF h f = some g → KOk L g
 a : ∀ f, KOk L f → ∀ x ∈ code, ∀ g, aF x f = some g → KOk L g
 hs : ∀ h ∈ hs, h.at_.toNat < code.length
 flow : FlowOk code
theorem look_ok {l : List ClassR} (hg : Good l) {cF : HandR → FrR → Option FrR} {aF : InsR → FrR → Option FrR} {hs : List HandR} {code : List InsR} (H : LkFns (wl l) cF aF hs code) {z : Nat} {s s' : LkSt} (h : LkOk (wl l) code.length s) (hm : lookF (wl l) cF aF hs code z s = some s') : LkStep (wl l) code.length s s' := by
 unfold lookF at hm
 obtain ⟨f, hf, hm⟩ := oels hm
 obtain ⟨s1, hs1, hm⟩ := oels hm
 obtain ⟨x, hx, hm⟩ := oels hm
 obtain ⟨out, ho, hm⟩ := oels hm
 have hk := (h.kok _ _ hf).1
 have hzl : z < code.length := (List.getElem?_eq_some_iff.1 hx).1
 have h1 := hs_ok hg (H.c f hk) H.hs h hs1
 exact h1.trans (nx_ok hg (H.a f hk x (List.mem_of_getElem? hx) out ho) (fun j hj => aft_lt H.flow hzl hj) h1.ok hm)
noncomputable def runF (lk : Nat → LkSt → Option LkSt) : Nat → LkSt → Option (Int → Option FrR)
 | 0, _ => none
 | k + 1, s => match s.todo with
   | [] => some s.fr
   | z :: r => (lk z ⟨s.fr, r⟩).elim none (runF lk k)
theorem pop_lk {L : List ClassR} {n : Nat} {s : LkSt} {z : Nat} {r : List Nat} (h : LkOk L n s) (ht : s.todo = z :: r) : LkOk L n ⟨s.fr, r⟩ ∧ mu L n ⟨s.fr, r⟩ + 1 = mu L n s ∧ z < n ∧ (s.fr z).isSome = true := by
 refine ⟨⟨h.kok, fun y hy => h.td y (by rw [ht]; simp; exact Or.inr hy)⟩, ?_, h.td z (by rw [ht]; simp)⟩
 unfold mu
 rw [ht]
 simp only [List.length_cons]
 omega
section
variable {L : List ClassR} {n : Nat} {lk : Nat → LkSt → Option LkSt} (H : ∀ z s s', LkOk L n s → lk z s = some s' → LkStep L n s s')
include H
theorem run_more : ∀ (k k' : Nat) (s : LkSt), LkOk L n s → mu L n s < k → mu L n s < k' → runF lk k s = runF lk k' s
 | 0, _, _, _, h, _ => by omega
 | _ + 1, 0, _, _, _, h => by omega
 | k + 1, k' + 1, s, ho, h, h' => by
   unfold runF
   cases ht : s.todo with
   | nil => rfl
   | cons z r =>
     obtain ⟨h1, h2, _, _⟩ := pop_lk ho ht
     dsimp only
     cases hl : lk z ⟨s.fr, r⟩ with
     | none => rfl
     | some s' =>
       have h3 := H z _ s' h1 hl
       have := h3.mu
       exact run_more k k' s' h3.ok (by omega) (by omega)
end
noncomputable def resF (L : List ClassR) (n : Nat) (lk : Nat → LkSt → Option LkSt) (s : LkSt) : Option (Int → Option FrR) := runF lk (mu L n s + 1) s
theorem res_nil {L : List ClassR} {n : Nat} {lk : Nat → LkSt → Option LkSt} {s : LkSt} (h : s.todo = []) : resF L n lk s = some s.fr := by
 unfold resF runF; rw [h]
theorem res_none {L : List ClassR} {n : Nat} {lk : Nat → LkSt → Option LkSt} {s : LkSt} {z : Nat} {r : List Nat} (h : s.todo = z :: r) (hl : lk z ⟨s.fr, r⟩ = none) : resF L n lk s = none := by
 unfold resF runF; rw [h]; dsimp only; rw [hl]; rfl
theorem res_some {L : List ClassR} {n : Nat} {lk : Nat → LkSt → Option LkSt} (H : ∀ z s s', LkOk L n s → lk z s = some s' → LkStep L n s s') {s s' : LkSt} (ho : LkOk L n s) {z : Nat} {r : List Nat} (h : s.todo = z :: r) (hl : lk z ⟨s.fr, r⟩ = some s') :
   resF L n lk s = resF L n lk s' ∧ LkOk L n s' ∧ mu L n s' < mu L n s := by
 obtain ⟨h1, h2, _, _⟩ := pop_lk ho h
 have h3 := H z _ s' h1 hl
 have h4 := h3.mu
 refine ⟨?_, h3.ok, by omega⟩
 have e : resF L n lk s = runF lk (mu L n s) s' := by
   unfold resF
   conv => lhs; unfold runF
   rw [h]; dsimp only; rw [hl]; rfl
 rw [e]
 exact run_more H _ _ s' h3.ok (by omega) (by omega)
def startF (f : FrR) : LkSt := ⟨updF (fun _ => none) 0 f, [0]⟩
theorem start_ok {L : List ClassR} {n : Nat} {f : FrR} (hf : KOk L f) (hn : 0 < n) : LkOk L n (startF f) := by
 refine ⟨fun z g hz => ?_, fun z hz => ?_⟩
 · change updF (fun _ => none) 0 f z = some g at hz
   unfold updF at hz
   split at hz
   · rename_i e
     cases hz
     exact ⟨hf, by omega, by omega⟩
   · cases hz
 · change z ∈ [0] at hz
   rw [List.mem_singleton.1 hz]
   exact ⟨hn, rfl⟩
theorem some_at {α β : Type} {f : α → Option β} : ∀ {l : List α} {k : Nat} {x : α} {y : β}, (∀ x ∈ l.take k, f x = none) → l[k]? = some x → f x = some y → l.findSome? f = some y
 | [], k, x, y, _, h, _ => by simp at h
 | a :: r, 0, x, y, _, h, hf => by
   simp only [List.getElem?_cons_zero, Option.some.injEq] at h
   subst h
   simp [List.findSome?, hf]
 | a :: r, k + 1, x, y, h0, h, hf => by
   have ha := h0 a (by simp)
   simp only [List.findSome?, ha]
   exact some_at (k := k) (fun x hx => h0 x (by simp [hx])) (by simpa using h) hf
theorem none_all {α β : Type} {f : α → Option β} {l : List α} (h : ∀ x ∈ l, f x = none) : l.findSome? f = none := List.findSome?_eq_none_iff.2 h
theorem some_mem {α β : Type} {f : α → Option β} {l : List α} {y : β} (h : l.findSome? f = some y) : ∃ x ∈ l, f x = some y := by
 rw [List.findSome?_eq_some_iff] at h
 obtain ⟨l1, a, l2, rfl, h1, _⟩ := h
 exact ⟨a, by simp, h1⟩
def mHit (n k : Nm) (m : MethR) : Bool := m.nm == n && m.ty == k
def ownM (c : ClassR) (n k : Nm) : Option MethR := c.meths.find? (mHit n k)
def ownAt (L : List ClassR) (n k c : Nm) : Option MethR := (look L c).elim none (ownM · n k)
def faceAt (L : List ClassR) (c : Nm) : Bool := (look L c).elim false (·.face)
def hitL (L : List ClassR) (n k c : Nm) : Option (Nm × MethR) := (ownAt L n k c).map fun m => (c, m)
def hitF (L : List ClassR) (n k : Nm) (ab : Bool) (c : Nm) : Option (Nm × MethR) := (ownAt L n k c).elim none fun m => if (faceAt L c && m.abst == ab) = true then some (c, m) else none
noncomputable def methOf (L : List ClassR) (c n k : Nm) : Option (Nm × MethR) :=
 ((line L c).findSome? (hitL L n k)).or (((every L c).findSome? (hitF L n k false)).or ((every L c).findSome? (hitF L n k true)))
open Classical in
noncomputable def foundErr (L : List ClassR) (fr c n k : Nm) (st : Bool) : Int :=
 if look L c = none then 3
 else match methOf L c n k with
 | none => 3
 | some (x, m) => if look L fr = none then 3 else if m.stat ≠ st then 7 else if m.priv = true ∧ x ≠ fr then 9 else 0
noncomputable def callErr (l : List ClassR) (fr c n k : Nm) (st : Bool) : Int := if readErr l ≠ 0 then readErr l else foundErr (wl l) fr c n k st
noncomputable def methErrF (l : List ClassR) (c n k : Nm) : Int := if readErr l ≠ 0 then readErr l else if look (wl l) c = none then 3 else if methOf (wl l) c n k = none then 3 else 0
structure SlotR where
 nm : Nm
 ty : Nm
 cl : Nm
def sHit (n k : Nm) (x : SlotR) : Bool := x.nm == n && x.ty == k
def putS (out : List SlotR) (s : SlotR) : List SlotR := (out.findIdx? (sHit s.nm s.ty)).elim (out ++ [s]) fun i => out.set i s
def stepS (c : Nm) (out : List SlotR) (m : MethR) : List SlotR := if (m.stat || m.priv) = true then out else putS out ⟨m.nm, m.ty, c⟩
def methsAt (L : List ClassR) (c : Nm) : List MethR := (look L c).elim [] (·.meths)
def addS (L : List ClassR) (out : List SlotR) (c : Nm) : List SlotR := (methsAt L c).foldl (stepS c) out
def slotsM (L : List ClassR) (n : Nm) : List SlotR := (line L n).reverse.foldl (addS L) []
def Keeps (a b : List SlotR) : Prop := ∀ (k : Nat) (x : SlotR), a[k]? = some x → ∃ y, b[k]? = some y ∧ y.nm = x.nm ∧ y.ty = x.ty
theorem Keeps.refl (a : List SlotR) : Keeps a a := fun k x h => ⟨x, h, rfl, rfl⟩
theorem Keeps.trans {a b c : List SlotR} (h : Keeps a b) (g : Keeps b c) : Keeps a c := fun k x hx => by
 obtain ⟨y, hy, h1, h2⟩ := h k x hx
 obtain ⟨z, hz, h3, h4⟩ := g k y hy
 exact ⟨z, hz, by rw [h3, h1], by rw [h4, h2]⟩
def fHit (n : Nm) (f : FieldR) : Bool := f.nm == n
def fldAt (L : List ClassR) (n c : Nm) : Option (Nm × FieldR) := (look L c).elim none fun d => (d.fields.find? (fHit n)).map fun f => (c, f)
noncomputable def fieldOf (L : List ClassR) (c n : Nm) : Option (Nm × FieldR) := (line L c).findSome? (fldAt L n)
def fieldsAt (L : List ClassR) (c : Nm) : List FieldR := (look L c).elim [] (·.fields)
def addF (L : List ClassR) (c : Nm) : List (Nm × FieldR) := (fieldsAt L c).map fun f => (c, f)
noncomputable def slotsF (L : List ClassR) (n : Nm) : List (Nm × FieldR) := (line L n).reverse.flatMap (addF L)
def pHit (c : Nm) (f : FieldR) (x : Nm × FieldR) : Bool := x.1 == c && (x.2.nm == f.nm && x.2.ty == f.ty)
noncomputable def placeF (L : List ClassR) (c n : Nm) : Option Nat := (fieldOf L c n).elim none fun x => (slotsF L c).findIdx? (pHit x.1 x.2)
theorem fieldOf_mem {L : List ClassR} {c n : Nm} {x : Nm × FieldR} (h : fieldOf L c n = some x) : x.2.nm = n ∧ x ∈ slotsF L c := by
 unfold fieldOf at h
 obtain ⟨y, hy, hh⟩ := some_mem h
 unfold fldAt at hh
 cases hl : look L y with
 | none => rw [hl] at hh; cases hh
 | some d =>
   rw [hl] at hh
   simp only [Option.elim] at hh
   cases hf : d.fields.find? (fHit n) with
   | none => rw [hf] at hh; cases hh
   | some f =>
     rw [hf] at hh
     simp only [Option.map_some, Option.some.injEq] at hh
     subst hh
     have h1 := List.find?_some hf
     unfold fHit at h1
     refine ⟨by simpa using h1, ?_⟩
     unfold slotsF
     rw [List.mem_flatMap]
     refine ⟨y, by simpa using hy, ?_⟩
     unfold addF fieldsAt
     rw [hl]
     exact List.mem_map.2 ⟨f, List.mem_of_find?_eq_some hf, rfl⟩
structure MOk (m : MethR) : Prop where
 ty : ∃ A g, MethodOk m.ty A g
 loc : 0 ≤ m.loc ∧ m.loc ≤ 8
 flow : FlowOk m.code
 args : argsOf m ≤ m.loc
 hl : m.hs.length ≤ 8
 hs : ∀ h ∈ m.hs, 0 ≤ h.lo ∧ h.lo < h.hi ∧ h.hi ≤ (m.code.length : Int) ∧ 0 ≤ h.at_ ∧ h.at_ < (m.code.length : Int) ∧ nameOk h.cl = true
theorem methErr_ok {m : MethR} {l : List MethR} (h : methErr m l = 0) (ha : m.abst = false) : MOk m := by
 unfold methErr at h
 split at h
 · omega
 split at h
 · omega
 rename_i h2
 split at h
 · omega
 split at h
 · omega
 rename_i h3
 unfold bodyErr at h
 rw [ha] at h
 simp only [Bool.false_eq_true, if_false] at h
 split at h
 · omega
 rename_i h4
 split at h
 · omega
 rename_i h5
 split at h
 · omega
 have hty : ∃ A g, MethodOk m.ty A g := by
   simp only [Decidable.not_not] at h2
   unfold mtyErr at h2
   split at h2
   · assumption
   · omega
 have hf : FlowOk m.code := (flowErr_zero _).1 (by simpa using h4)
 unfold handErr at h
 dsimp only at h
 split at h
 · omega
 rename_i h6
 split at h
 · omega
 rename_i h7
 refine ⟨hty, by omega, hf, by omega, by omega, fun x hx => ?_⟩
 obtain ⟨j, hj⟩ := List.mem_iff_getElem?.1 hx
 have hjl := (List.getElem?_eq_some_iff.1 hj).1
 have := (firstNZ_zero _ _).1 (by simpa using h6) j hjl
 rw [hj] at this
 simp only [Option.elim_some] at this
 unfold hand1 at this
 split at this
 · omega
 rename_i h8
 split at this
 · omega
 rename_i h9
 refine ⟨by omega, by omega, by omega, by omega, by omega, by simpa using h9⟩
theorem good_mok {l : List ClassR} (hg : Good l) {c : ClassR} (hc : c ∈ l) {m : MethR} (hm : m ∈ c.meths) (ha : m.abst = false) : MOk m := by
 obtain ⟨_, _, _, _, h5, _⟩ := classErr_ok (hg.ok c hc)
 obtain ⟨j, hj⟩ := List.mem_iff_getElem?.1 hm
 have := h5 j (List.getElem?_eq_some_iff.1 hj).1
 unfold methsErr at this
 rw [hj] at this
 exact methErr_ok this ha
open Classical in
noncomputable def argsL (m : MethR) : List Nm := if h : ∃ A g, MethodOk m.ty A g then h.choose else []
open Classical in
noncomputable def givesL (m : MethR) : Nm := if h : ∃ A g, MethodOk m.ty A g then h.choose_spec.choose else []
theorem args_gives {m : MethR} (h : ∃ A g, MethodOk m.ty A g) : MethodOk m.ty (argsL m) (givesL m) := by
 unfold argsL givesL
 rw [dif_pos h, dif_pos h]
 exact h.choose_spec.choose_spec
noncomputable def givenL (c : Nm) (m : MethR) : List Nm := (if m.stat then [] else [thing c]) ++ argsL m
theorem given_len {m : MethR} (h : MOk m) (c : Nm) : ((givenL c m).length : Int) ≤ m.loc := by
 have h1 := h.args
 have h2 := argsN_of (args_gives h.ty)
 have h0 : mtyErr m.ty = 0 := by unfold mtyErr; rw [if_pos h.ty]
 unfold argsOf at h1
 rw [if_neg (by rw [h0]; simp), h2] at h1
 unfold givenL
 cases hs : m.stat <;> rw [hs] at h1 <;> simp at h1 ⊢ <;> omega
noncomputable def firstF (c : Nm) (m : MethR) : FrR := ⟨givenL c m ++ List.replicate (m.loc.toNat - (givenL c m).length) [84], []⟩
theorem first_len {m : MethR} (h : MOk m) (c : Nm) : (firstF c m).loc.length = m.loc.toNat := by
 have := given_len h c
 have := h.loc
 simp only [firstF, List.length_append, List.length_replicate]
 omega
theorem first_kok {L : List ClassR} {m : MethR} (h : MOk m) {c : Nm} (hk : kindsErr L (firstF c m).loc = 0) : KOk L (firstF c m) := by
 have h1 := first_len h c
 have h2 := h.loc
 refine ⟨by omega, by simp [firstF], fun t ht => kindsErr_zero.1 hk t (by simpa [firstF] using ht)⟩
end Go.Proofs.YtddbnboicmaooaaGreatDoor
