/-
  Plain law (no program): a further class; a circle; what is asked for again.
-/
import Derived.Test.YtokomofjcnefaaaDoorPLine
namespace Go.Proofs.YtokomofjcnefaaaDoor
set_option linter.unusedVariables false
set_option linter.unusedSimpArgs false

/-! a further class -/
theorem look_append (L : List ClassR) (d : ClassR) (x : Nm) (h : x ≠ d.nm) : look (L ++ [d]) x = look L x := by
  unfold look
  rw [List.find?_append]
  have : (d.nm == x) = false := by simpa using fun q => h q.symm
  cases hf : L.find? (fun c => c.nm == x) with
  | some y => rfl
  | none => simp [List.find?, this]
theorem wl_append (l : List ClassR) (d : ClassR) : wl (l ++ [d]) = wl l ++ [d] := rfl
theorem above_append (l : List ClassR) (d : ClassR) (x : Nm) (h : x ≠ d.nm) : above (wl (l ++ [d])) x = above (wl l) x := by
  unfold above
  rw [wl_append, look_append _ _ _ h]

theorem bfs_cong {ab ab' : Nm → List Nm} {S : Nm → Prop} (h : ∀ x, S x → ab x = ab' x ∧ ∀ a ∈ ab x, S a) : ∀ (f : Nat) (out : List Nm) (i : Nat), (∀ x ∈ out, S x) → bfs ab f out i = bfs ab' f out i
  | 0, out, i, _ => rfl
  | f + 1, out, i, ho => by
    unfold bfs
    cases hx : out[i]? with
    | none => rfl
    | some x =>
      simp only
      have hS := ho x (List.mem_of_getElem? hx)
      rw [← (h x hS).1]
      exact bfs_cong h f _ _ (fun y hy => by
        rcases (addNew_mem _ _ _).1 hy with h1 | h1
        · exact ho y h1
        · exact (h x hS).2 y h1)

theorem more_every {l : List ClassR} {d : ClassR} (hj : ∀ c ∈ l, joinErr (wl l) c = 0) (hn : d.nm ∉ names l) {c : Nm} (hc : c ≠ d.nm) : every (wl (l ++ [d])) c = every (wl l) c := by
  unfold every everyU
  rw [bfs_cong (ab := above (wl (l ++ [d]))) (ab' := above (wl l)) (S := fun x => x ≠ d.nm) (fun x hx => ⟨above_append l d x hx, fun a ha => by
    rw [above_append l d x hx] at ha
    rintro rfl
    exact hn (above_names hj x _ ha)⟩) 100 [c] 0 (by simpa using hc)]
theorem more_look {l : List ClassR} {d : ClassR} {c : Nm} (hc : c ≠ d.nm) : (look (wl (l ++ [d])) c).isSome = (look (wl l) c).isSome := by rw [wl_append, look_append _ _ _ hc]
theorem good_new {l : List ClassR} {d : ClassR} (h : Good (l ++ [d])) : d.nm ∉ names l := by
  have := h.new l.length d (by simp)
  rwa [List.take_left] at this

/-! asked for again -/
def startUp (L : List ClassR) (us : List Nm) : List Nm := us.foldl (fun out u => addNew out (line L u).reverse) [objN]
theorem startUp_snoc (L : List ClassR) (us : List Nm) (u : Nm) : startUp L (us ++ [u]) = addNew (startUp L us) (line L u).reverse := by unfold startUp; rw [List.foldl_append]; rfl
theorem addNew_all (as : List Nm) : ∀ out, (∀ a ∈ as, a ∈ out) → addNew out as = out := by
  induction as with
  | nil => intro out _; rfl
  | cons a r ih =>
    intro out h
    unfold addNew
    rw [if_pos (by simpa using h a (by simp))]
    exact ih out (fun x hx => h x (by simp [hx]))
theorem start_ind {P : List Nm → Prop} {L : List ClassR} (h0 : P [objN]) (h1 : ∀ out u, P out → P (addNew out (line L u).reverse)) : ∀ us, P (startUp L us) := by
  intro us
  have gen : ∀ (us : List Nm) (out : List Nm), P out → P (us.foldl (fun out u => addNew out (line L u).reverse) out) := by
    intro us
    induction us with
    | nil => intro out h; exact h
    | cons u r ih => intro out h; exact ih _ (h1 out u h)
  exact gen us _ h0
theorem rs_obj {l : List ClassR} {y : Nm} (h : Rs (wl l) objN y) : y = objN := rc_obj h.rc
theorem start_line {l : List ClassR} (hg : Good l) (us : List Nm) : ∀ x ∈ startUp (wl l) us, ∀ y, Rs (wl l) x y → y ∈ startUp (wl l) us := by
  apply start_ind (P := fun out => ∀ x ∈ out, ∀ y, Rs (wl l) x y → y ∈ out)
  · intro x hx y hy
    rw [List.mem_singleton] at hx
    subst hx
    rw [rs_obj hy]; simp
  · intro out u ho x hx y hy
    rw [addNew_mem] at hx ⊢
    rcases hx with h1 | h1
    · exact Or.inl (ho x h1 y hy)
    · right
      rw [List.mem_reverse, line_rs hg] at h1 ⊢
      exact h1.trans hy
theorem start_again {l : List ClassR} (hg : Good l) (us : List Nm) {x : Nm} (hx : x ∈ startUp (wl l) us) : startUp (wl l) (us ++ [x]) = startUp (wl l) us := by
  rw [startUp_snoc]
  apply addNew_all
  intro a ha
  rw [List.mem_reverse, line_rs hg] at ha
  exact start_line hg us x hx a ha
theorem start_names {l : List ClassR} (hg : Good l) (us : List Nm) (hu : ∀ u ∈ us, u ∈ names l) : ∀ x ∈ startUp (wl l) us, x ∈ names l := by
  have gen : ∀ (us : List Nm) (out : List Nm), (∀ u ∈ us, u ∈ names l) → (∀ x ∈ out, x ∈ names l) → ∀ x ∈ us.foldl (fun out u => addNew out (line (wl l) u).reverse) out, x ∈ names l := by
    intro us
    induction us with
    | nil => intro out _ h; exact h
    | cons u r ih =>
      intro out hu h
      refine ih _ (fun v hv => hu v (by simp [hv])) ?_
      intro x hx
      rw [addNew_mem, List.mem_reverse, line_rs hg] at hx
      rcases hx with h1 | h1
      · exact h x h1
      · rcases rc_names hg.join h1.rc with e | e
        · rw [e]; exact hu u (by simp)
        · exact e
  exact gen us [objN] hu (by intro x hx; rw [List.mem_singleton.1 hx]; simp [names, wl, objC])
theorem start_ne (L : List ClassR) (us : List Nm) : startUp L us ≠ [] := by
  apply start_ind (P := fun out => out ≠ [])
  · simp
  · intro out u h
    obtain ⟨r, hr⟩ := addNew_pre (line L u).reverse out
    rw [hr]
    simp [h]

/-! Object stands above all -/
theorem line_obj {l : List ClassR} (hg : Good l) {n : Nm} (hn : n ∈ names l) : Rs (wl l) n objN := by
  obtain ⟨cur, h, ht⟩ := line_end hg n
  have hr := h.from_ cur h.cm
  have hc : cur ∈ names l := by
    rcases rc_names hg.join hr.rc with e | e
    · rw [e]; exact hn
    · exact e
  have hs := look_some.2 hc
  rcases ht with h1 | ⟨c, h1, h2⟩
  · unfold names at hc
    rw [h1] at hs
    cases hs
  · obtain ⟨e, hm⟩ := find_name h1
    unfold wl at hm
    simp only [List.mem_cons] at hm
    rcases hm with rfl | rfl | hm
    · have : cur = objN := e.symm
      rw [← this]; exact hr
    · simp [fltC, objN] at h2
    · exact absurd h2 (join_parts (hg.join c hm)).1

/-! a circle -/
theorem classErr_sup {c : ClassR} {s : Nm} (h : classErr c = 0) (hs : nameOk s = true) : classErr { c with sup := s } = 0 := by
  have h1 := (classErr_ok h).1
  unfold classErr at h ⊢
  rw [if_neg (names_ok h1)] at h
  rw [if_neg (names_ok (c := { c with sup := s }) ⟨h1.1, Or.inr hs⟩)]
  exact h

section
variable {l : List ClassR} {b : Nat} {B : ClassR} {s : Nm}
theorem set_names (hb : l[b]? = some B) : names (l.set b { B with sup := s }) = names l := by
  unfold names wl
  simp only [List.map_cons, List.map_set]
  congr 2
  apply List.ext_getElem?
  intro j
  rw [List.getElem?_set]
  split
  · rename_i e
    subst e
    rw [List.getElem?_map, hb]
    simp [(List.getElem?_eq_some_iff.1 hb).1]
  · rfl
theorem set_take (hb : l[b]? = some B) (j : Nat) : names ((l.set b { B with sup := s }).take j) = names (l.take j) := by
  unfold names wl
  simp only [List.map_cons, List.map_take, List.map_set]
  congr 3
  apply List.ext_getElem?
  intro j
  rw [List.getElem?_set]
  split
  · rename_i e
    subst e
    rw [List.getElem?_map, hb]
    simp [(List.getElem?_eq_some_iff.1 hb).1]
  · rfl

/-- names that stand once -/
theorem good_uniq (hg : Good l) {i j : Nat} {c d : ClassR} (hi : l[i]? = some c) (hj : l[j]? = some d) (e : c.nm = d.nm) : i = j := by
  have gen : ∀ {i j : Nat} {c d : ClassR}, l[i]? = some c → l[j]? = some d → c.nm = d.nm → i < j → False := by
    intro i j c d hi hj e hlt
    apply hg.new j d hj
    rw [← e]
    unfold names wl
    simp only [List.map_cons, List.mem_cons]
    right; right
    rw [List.mem_map]
    exact ⟨c, List.mem_of_getElem? (by rw [List.getElem?_take, if_pos hlt]; exact hi), rfl⟩
  rcases Nat.lt_trichotomy i j with h | h | h
  · exact absurd (gen hi hj e h) id
  · exact h
  · exact absurd (gen hj hi e.symm h) id
theorem good_first (hg : Good l) {j : Nat} {c : ClassR} (hj : l[j]? = some c) : c.nm ≠ objN ∧ c.nm ≠ fltN := by
  have := hg.new j c hj
  unfold names wl at this
  simp only [List.map_cons, List.mem_cons, not_or] at this
  exact ⟨this.1, this.2.1⟩
theorem look_at (hg : Good l) {j : Nat} {c : ClassR} (hj : l[j]? = some c) : look (wl l) c.nm = some c := by
  obtain ⟨h1, h2⟩ := good_first hg hj
  have hs : (look (wl l) c.nm).isSome = true := look_some.2 (by unfold wl; simp only [List.map_cons, List.mem_cons]; right; right; exact List.mem_map.2 ⟨c, List.mem_of_getElem? hj, rfl⟩)
  cases hl : look (wl l) c.nm with
  | none => rw [hl] at hs; cases hs
  | some d =>
    obtain ⟨hn, hm⟩ := find_name hl
    unfold wl at hm
    simp only [List.mem_cons] at hm
    rcases hm with rfl | rfl | hm
    · exact absurd hn.symm h1
    · exact absurd hn.symm h2
    · obtain ⟨i, _, hi⟩ := at_mem hm
      have := good_uniq hg hi hj hn
      subst this
      rw [hi] at hj
      exact hj
/-- how the changed list is looked up -/
theorem set_look (hg : Good l) (hb : l[b]? = some B) (x : Nm) : look (wl (l.set b { B with sup := s })) x = (look (wl l) x).map (fun c => if c.nm = B.nm then { B with sup := s } else c) := by
  have hB := good_first hg hb
  unfold look wl
  rw [show (objC :: fltC :: l.set b { B with sup := s }) = (objC :: fltC :: l).map (fun c => if c.nm = B.nm then { B with sup := s } else c) by
    simp only [List.map_cons]
    rw [if_neg (fun e => hB.1 e.symm), if_neg (fun e => hB.2 e.symm)]
    congr 2
    apply List.ext_getElem?
    intro j
    rw [List.getElem?_set, List.getElem?_map]
    by_cases e : b = j
    · subst e
      rw [if_pos rfl, hb]
      simp [(List.getElem?_eq_some_iff.1 hb).1]
    · rw [if_neg e]
      cases hj : l[j]? with
      | none => rfl
      | some c =>
        simp only [Option.map_some]
        rw [if_neg (fun q => e (good_uniq hg hj hb q).symm)]]
  rw [List.find?_map]
  congr 1
  congr 1
  funext c
  simp only [Function.comp]
  by_cases e : c.nm = B.nm
  · rw [if_pos e, e]
  · rw [if_neg e]
end

/-- a hierarchy in which a class extends one of its subclasses -/
theorem round_err {l : List ClassR} (hg : Good l) {a b : Nat} {A B : ClassR} (ha : l[a]? = some A) (hb : l[b]? = some B) (hA : A.face = false) (hB : B.face = false) (hl : B.nm ∈ line (wl l) A.nm) : readErr (l.set b { B with sup := A.nm }) = 6 := by
  have hnA := ((classErr_ok (hg.ok A (List.mem_of_getElem? ha))).1).1
  have hAne : A.nm ≠ [] := by intro e; rw [e] at hnA; simp [nameOk] at hnA
  have hlk := fun x => set_look (s := A.nm) hg hb x
  have hsome : ∀ x, (look (wl (l.set b { B with sup := A.nm })) x).isSome = (look (wl l) x).isSome := fun x => by rw [hlk]; simp
  have hhas : ∀ x f, hasErr (wl (l.set b { B with sup := A.nm })) x f = hasErr (wl l) x f := fun x f => by
    unfold hasErr
    rw [hlk]
    cases hx : look (wl l) x with
    | none => rfl
    | some c =>
      simp only [Option.map_some, Option.elim]
      by_cases e : c.nm = B.nm
      · have hxc := (find_name hx).1
        have : c = B := by
          have h1 := look_at hg hb
          rw [← e, hxc, hx] at h1
          exact Option.some.inj h1
        rw [if_pos e, this]
      · rw [if_neg e]
  have hbl : b < l.length := (List.getElem?_eq_some_iff.1 hb).1
  have hown : ∀ j c, (l.set b { B with sup := A.nm })[j]? = some c → (j = b ∧ c = { B with sup := A.nm }) ∨ (j ≠ b ∧ l[j]? = some c) := by
    intro j c h
    rw [List.getElem?_set] at h
    by_cases e : b = j
    · rw [if_pos e] at h
      subst e
      simp [hbl] at h
      exact Or.inl ⟨rfl, h.symm⟩
    · rw [if_neg e] at h
      exact Or.inr ⟨fun q => e q.symm, h⟩
  have hin : ∀ j, j < (l.set b { B with sup := A.nm }).length → inErr (l.set b { B with sup := A.nm }) j = 0 := by
    intro j hj
    have hx := List.getElem?_eq_getElem hj
    rw [in_ok hx, set_take hb]
    rcases hown j _ hx with ⟨e, h1⟩ | ⟨e, h1⟩
    · rw [h1]
      refine ⟨classErr_sup (hg.ok B (List.mem_of_getElem? hb)) hnA, ?_⟩
      rw [e]
      exact hg.new b B hb
    · exact ⟨hg.ok _ (List.mem_of_getElem? h1), hg.new j _ h1⟩
  have hjoin : ∀ c, joinErr (wl (l.set b { B with sup := A.nm })) c = joinErr (wl l) c := by
    intro c
    unfold joinErr
    have e1 : (look (wl (l.set b { B with sup := A.nm })) c.sup).isNone = (look (wl l) c.sup).isNone := by rw [hlk]; simp
    have e2 : firstNZ (isErr (wl (l.set b { B with sup := A.nm })) c.faces) c.faces.length = firstNZ (isErr (wl l) c.faces) c.faces.length := by
      apply firstNZ_cong
      intro j hj
      unfold isErr
      rw [List.getElem?_eq_getElem hj]
      simp only [Option.elim]
      rw [hsome]
    have e3 : firstNZ (facErr (wl (l.set b { B with sup := A.nm })) c.faces) c.faces.length = firstNZ (facErr (wl l) c.faces) c.faces.length := by
      apply firstNZ_cong
      intro j hj
      unfold facErr
      rw [List.getElem?_eq_getElem hj]
      simp only [Option.elim]
      rw [hhas]
    rw [e1, e2, e3, hhas]
  have hjn : ∀ j, j < (l.set b { B with sup := A.nm }).length → jnErr (l.set b { B with sup := A.nm }) j = 0 := by
    intro j hj
    have hx := List.getElem?_eq_getElem hj
    rw [jnErr_at hx, hjoin]
    rcases hown j _ hx with ⟨e, h1⟩ | ⟨e, h1⟩
    · rw [h1]
      obtain ⟨_, _, p3, _, p5, _⟩ := join_parts (hg.join B (List.mem_of_getElem? hb))
      have hlA := look_at hg ha
      unfold joinErr
      simp only
      rw [if_neg hAne, hlA, if_neg (by simp), (firstNZ_zero _ _).2, if_neg (by simp), if_neg, (firstNZ_zero _ _).2, if_neg (by simp), if_neg]
      · rw [hB]; simp
      · intro j hj
        unfold facErr
        rw [List.getElem?_eq_getElem hj]
        exact p5 _ (List.getElem_mem hj)
      · unfold hasErr
        rw [hlA]
        simp [hA]
      · intro j hj
        unfold isErr
        rw [List.getElem?_eq_getElem hj]
        simp only [Option.elim]
        rw [if_pos (p3 _ (List.getElem_mem hj))]
    · exact hg.join _ (List.mem_of_getElem? h1)
  -- the way from A to B is kept
  have hway : ∀ y, Rs (wl l) A.nm y → Rs (wl (l.set b { B with sup := A.nm })) A.nm y ∨ Rs (wl (l.set b { B with sup := A.nm })) A.nm B.nm := by
    intro y hy
    induction hy with
    | refl => exact Or.inl .refl
    | step hxr h1 h2 ih =>
      rename_i x c
      rcases ih with ih | ih
      · by_cases e : x = B.nm
        · subst e; exact Or.inr ih
        · left
          have hc : look (wl (l.set b { B with sup := A.nm })) x = some c := by
            rw [hlk, h1]
            simp only [Option.map_some]
            rw [if_neg (fun q => e (by rw [← (find_name h1).1]; exact q))]
          exact .step ih hc h2
      · exact Or.inr ih
  have hAB : Rc (wl (l.set b { B with sup := A.nm })) A.nm B.nm := by
    rcases hway B.nm ((line_rs hg _ _).1 hl) with h | h <;> exact h.rc
  have hjoin' : ∀ c ∈ l.set b { B with sup := A.nm }, joinErr (wl (l.set b { B with sup := A.nm })) c = 0 := by
    intro c hc
    obtain ⟨j, hj, hx⟩ := at_mem hc
    rw [← jnErr_at hx]; exact hjn j hj
  have hrb : roundB (wl (l.set b { B with sup := A.nm })) B.nm = true := by
    unfold roundB
    rw [List.any_eq_true]
    refine ⟨A.nm, ?_, ?_⟩
    · unfold above
      rw [hlk, look_at hg hb]
      simp [aboveC, hAne]
    · rw [List.contains_iff_mem, every_rc (U := A.nm :: names (l.set b { B with sup := A.nm })) (by simp [names_len]; have := hg.len; omega) (closed_names hjoin' A.nm) (by simp)]
      exact hAB
  unfold readErr
  rw [if_neg (by have := hg.len; simp; omega), (firstNZ_zero _ _).2 hin, if_neg (by simp), (firstNZ_zero _ _).2 hjn, if_neg (by simp)]
  have hz : ∀ j, j < (l.set b { B with sup := A.nm }).length → rdErr (l.set b { B with sup := A.nm }) j = 0 ∨ rdErr (l.set b { B with sup := A.nm }) j = 6 := by
    intro j hj
    rw [rdErr_at (List.getElem?_eq_getElem hj)]
    split
    · exact Or.inr rfl
    · exact Or.inl rfl
  have gen : ∀ n, n ≤ (l.set b { B with sup := A.nm }).length → firstNZ (rdErr (l.set b { B with sup := A.nm })) n = 0 ∨ firstNZ (rdErr (l.set b { B with sup := A.nm })) n = 6 := by
    intro n
    induction n with
    | zero => intro _; exact Or.inl rfl
    | succ n ih =>
      intro hn
      unfold firstNZ
      split
      · exact hz n (by omega)
      · exact ih (by omega)
  rcases gen _ (Nat.le_refl _) with h | h
  · have h1 := (firstNZ_zero _ _).1 h b (by simpa using hbl)
    have hx : (l.set b { B with sup := A.nm })[b]? = some { B with sup := A.nm } := by simp [hbl]
    rw [rdErr_at hx] at h1
    simp only at h1
    rw [hrb] at h1
    simp at h1
  · exact h
end Go.Proofs.YtokomofjcnefaaaDoor
