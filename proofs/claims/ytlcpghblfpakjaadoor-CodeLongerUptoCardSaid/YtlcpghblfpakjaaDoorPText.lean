/-
  Plain law (no program): the text of an instruction; different right instructions have different texts.
-/
import Derived.Test.YtlcpghblfpakjaaDoorPFlow
import Derived.Test.YtlcpghblfpakjaaDoorPForms
import Derived.Lib.ItoaNum
namespace Go.Proofs.YtlcpghblfpakjaaDoor
set_option linter.unusedVariables false
set_option linter.unusedSimpArgs false
open Go.Lib

/-- a numeral's value -/
def decVal : List UInt8 → Nat → Nat
  | [], v => v
  | b :: r, v => decVal r (10 * v + (b.toNat - 48))
theorem decVal_append (l r : List UInt8) (v : Nat) : decVal (l ++ r) v = decVal r (decVal l v) := by
  induction l generalizing v with
  | nil => rfl
  | cons b l ih => simp only [List.cons_append, decVal, ih]

theorem digit_nat {i : Nat} (h : i < 10) : (UInt8.ofNat (48 + i)).toNat = 48 + i := by
  rw [UInt8.toNat_ofNat']; omega

theorem decDigits_val (u : Nat) : decVal (decDigits u) 0 = u ∧ ∀ b ∈ decDigits u, 48 ≤ b.toNat ∧ b.toNat ≤ 57 := by
  induction u using Nat.strongRecOn with
  | _ u ih =>
    by_cases h : u < 10
    · rw [decDigits_one h]
      refine ⟨by simp only [decVal, digit_nat h]; omega, fun b hb => ?_⟩
      simp only [List.mem_singleton] at hb
      subst hb
      rw [digit_nat h]; omega
    · obtain ⟨h1, h2⟩ := ih (u / 10) (by omega)
      rw [decDigits, dif_neg h, decVal_append, h1]
      have h3 : u % 10 < 10 := by omega
      refine ⟨by simp only [decVal, digit_nat h3]; omega, fun b hb => ?_⟩
      rcases List.mem_append.1 hb with hb | hb
      · exact h2 b hb
      · simp only [List.mem_singleton] at hb
        subst hb
        rw [digit_nat h3]; omega

theorem decDigits_inj {u v : Nat} (h : decDigits u = decDigits v) : u = v := by
  rw [← (decDigits_val u).1, h, (decDigits_val v).1]

theorem decDigits_head (u : Nat) (r : List UInt8) : decDigits u ≠ 45 :: r := by
  intro h
  have := (decDigits_val u).2 45 (by rw [h]; simp)
  revert this; decide

theorem itoa_inj {a b : Int} (h : itoa a = itoa b) : a = b := by
  unfold itoa at h
  by_cases ha : a < 0
  · rw [if_pos ha] at h
    by_cases hb : b < 0
    · rw [if_pos hb] at h
      simp only [List.cons.injEq, true_and] at h
      have := decDigits_inj h
      omega
    · rw [if_neg hb] at h
      exact absurd h.symm (decDigits_head _ _)
  · rw [if_neg ha] at h
    by_cases hb : b < 0
    · rw [if_pos hb] at h
      exact absurd h (decDigits_head _ _)
    · rw [if_neg hb] at h
      have := decDigits_inj h
      omega

theorem itoa_no32 (n : Int) : ∀ b ∈ itoa n, b ≠ 32 := by
  intro b hb e
  subst e
  unfold itoa at hb
  split at hb
  · rcases List.mem_cons.1 hb with h | h
    · revert h; decide
    · have := (decDigits_val _).2 32 h; revert this; decide
  · have := (decDigits_val _).2 32 hb; revert this; decide

def partL (x : InsR) (c : UInt8) : List UInt8 := if c = 65 then itoa x.a else if c = 66 then itoa x.b else if c = 84 then x.ty else if c = 67 then x.cl else x.nm

def textL (x : InsR) : List UInt8 := wordL x.op.toNat ++ ((needL x.op.toNat).map (fun c => 32 :: partL x c)).flatten

theorem word_cut : ∀ (p q r s : List UInt8), (∀ b ∈ p, b ≠ 32) → (∀ b ∈ q, b ≠ 32) → (r = [] ∨ ∃ t, r = 32 :: t) → (s = [] ∨ ∃ t, s = 32 :: t) → p ++ r = q ++ s → p = q ∧ r = s
  | [], [], r, s, _, _, _, _, h => ⟨rfl, h⟩
  | [], y :: q, r, s, _, hq, hr, _, h => by
    rcases hr with rfl | ⟨t, rfl⟩
    · simp at h
    · simp only [List.nil_append, List.cons_append, List.cons.injEq] at h
      exact absurd h.1.symm (hq y (by simp))
  | x :: p, [], r, s, hp, _, _, hs, h => by
    rcases hs with rfl | ⟨t, rfl⟩
    · simp at h
    · simp only [List.nil_append, List.cons_append, List.cons.injEq] at h
      exact absurd h.1 (hp x (by simp))
  | x :: p, y :: q, r, s, hp, hq, hr, hs, h => by
    simp only [List.cons_append, List.cons.injEq] at h
    obtain ⟨e1, e2⟩ := word_cut p q r s (fun b hb => hp b (by simp [hb])) (fun b hb => hq b (by simp [hb])) hr hs h.2
    exact ⟨by rw [h.1, e1], e2⟩

theorem sp_shape (P : List (List UInt8)) : (P.map (32 :: ·)).flatten = [] ∨ ∃ t, (P.map (32 :: ·)).flatten = 32 :: t := by
  cases P with
  | nil => exact Or.inl rfl
  | cons p P => exact Or.inr ⟨_, rfl⟩

theorem sp_inj : ∀ (P Q : List (List UInt8)), (∀ p ∈ P, ∀ b ∈ p, b ≠ 32) → (∀ p ∈ Q, ∀ b ∈ p, b ≠ 32) → (P.map (32 :: ·)).flatten = (Q.map (32 :: ·)).flatten → P = Q
  | [], [], _, _, _ => rfl
  | [], q :: Q, _, _, h => by simp at h
  | p :: P, [], _, _, h => by simp at h
  | p :: P, q :: Q, hP, hQ, h => by
    simp only [List.map_cons, List.flatten_cons, List.cons_append, List.cons.injEq, true_and] at h
    obtain ⟨e1, e2⟩ := word_cut p q _ _ (hP p (by simp)) (hQ q (by simp)) (sp_shape P) (sp_shape Q) h
    rw [e1, sp_inj P Q (fun x hx => hP x (by simp [hx])) (fun x hx => hQ x (by simp [hx])) e2]

/-- what a right instruction is -/
structure InsOk (x : InsR) : Prop where
  lo : 1 ≤ x.op
  hi : x.op ≤ 28
  za : 65 ∉ needL x.op.toNat → x.a = 0
  zb : 66 ∉ needL x.op.toNat → x.b = 0
  zt : 84 ∉ needL x.op.toNat → x.ty = []
  zc : 67 ∉ needL x.op.toNat → x.cl = []
  zn : 78 ∉ needL x.op.toNat → x.nm = []
  ranged : rangedB x = true
  typed : typedB x = true
  cl : 67 ∈ needL x.op.toNat → nameOk x.cl = true
  nm : 78 ∈ needL x.op.toNat → nameOk x.nm = true

theorem insErr_ok {x : InsR} (h : insErr x = 0) : InsOk x := by
  unfold insErr at h
  split at h
  · omega
  rename_i h1
  split at h
  · omega
  rename_i h2
  split at h
  · omega
  rename_i h3
  split at h
  · omega
  rename_i h4
  simp at h2 h3 h4
  obtain ⟨⟨⟨⟨a1, a2⟩, a3⟩, a4⟩, a5⟩ := h2
  obtain ⟨⟨b1, b2⟩, b3⟩ := h4
  exact ⟨by omega, by omega, a1, a2, a3, a4, a5, h3, b1, b2, b3⟩

theorem name_no32 {n : List UInt8} (h : nameOk n = true) : ∀ b ∈ n, b ≠ 32 := by
  intro b hb e
  subst e
  simp only [nameOk, Bool.and_eq_true] at h
  have := List.all_eq_true.1 h.1.2 32 hb
  revert this; decide

theorem type_no32 {t : List UInt8} (h : TypeOk t) : ∀ b ∈ t, b ≠ 32 := by
  obtain ⟨P, X, rfl, hP, _, hX⟩ := h
  intro b hb e
  subst e
  rcases List.mem_append.1 hb with h1 | h1
  · have := hP 32 h1; revert this; decide
  · rcases hX with rfl | rfl | ⟨n, hn, rfl⟩
    · revert h1; decide
    · revert h1; decide
    · rcases List.mem_cons.1 h1 with h2 | h2
      · revert h2; decide
      · rcases List.mem_append.1 h2 with h3 | h3
        · exact name_no32 hn 32 h3 rfl
        · revert h3; decide

theorem method_no32 {m : List UInt8} {A : List (List UInt8)} {g : List UInt8} (h : MethodOk m A g) : ∀ b ∈ m, b ≠ 32 := by
  obtain ⟨rfl, hA, _, hg⟩ := h
  intro b hb e
  subst e
  rcases List.mem_cons.1 hb with h1 | h1
  · revert h1; decide
  rcases List.mem_append.1 h1 with h2 | h2
  · obtain ⟨t, ht, hbt⟩ := List.mem_flatten.1 h2
    exact type_no32 (hA t ht) 32 hbt rfl
  · rcases List.mem_cons.1 h2 with h3 | h3
    · revert h3; decide
    · rcases hg with rfl | hg
      · revert h3; decide
      · exact type_no32 hg 32 h3 rfl

theorem numB_no32 {t : List UInt8} (h : numB t = true) : ∀ b ∈ t, b ≠ 32 := by
  simp only [numB, Bool.or_eq_true, beq_iff_eq] at h
  rcases h with rfl | rfl <;> decide

theorem typed_no32 {x : InsR} (h : InsOk x) (ht : 84 ∈ needL x.op.toNat) : ∀ b ∈ x.ty, b ≠ 32 := by
  have hT := h.typed
  have hop : x.op = 2 ∨ x.op = 9 ∨ x.op = 10 ∨ x.op = 18 ∨ x.op = 20 ∨ x.op = 21 ∨ x.op = 22 ∨ x.op = 23 ∨ x.op = 24 ∨ x.op = 25 := by
    have h1 := h.lo
    have h2 := h.hi
    have key : ∀ i : Fin 29, 84 ∈ needL i.val → i.val = 2 ∨ i.val = 9 ∨ i.val = 10 ∨ i.val = 18 ∨ i.val = 20 ∨ i.val = 21 ∨ i.val = 22 ∨ i.val = 23 ∨ i.val = 24 ∨ i.val = 25 := by decide
    have := key ⟨x.op.toNat, by omega⟩ ht
    simp only at this
    omega
  unfold typedB at hT
  split at hT
  · exact numB_no32 hT
  split at hT
  · simp only [Bool.and_eq_true, decide_eq_true_eq] at hT
    exact type_no32 hT.1
  split at hT
  · simp only [Bool.and_eq_true, decide_eq_true_eq] at hT
    exact type_no32 hT.1
  split at hT
  · simp only [decide_eq_true_eq] at hT
    obtain ⟨A, g, hm⟩ := hT
    exact method_no32 hm
  · omega

theorem part_no32 {x : InsR} (h : InsOk x) {c : UInt8} (hc : c ∈ needL x.op.toNat) : ∀ b ∈ partL x c, b ≠ 32 := by
  unfold partL
  split
  · exact itoa_no32 _
  split
  · exact itoa_no32 _
  split
  · rename_i e; subst e; exact typed_no32 h hc
  split
  · rename_i e; subst e; exact name_no32 (h.cl hc)
  · rename_i h1 h2 h3 h4
    have key : ∀ i : Fin 29, ∀ c ∈ needL i.val, c = 65 ∨ c = 66 ∨ c = 84 ∨ c = 67 ∨ c = 78 := by decide
    have h5 := h.lo
    have h6 := h.hi
    have := key ⟨x.op.toNat, by omega⟩ c hc
    have hc78 : c = 78 := by
      rcases this with e | e | e | e | e
      · exact absurd e h1
      · exact absurd e h2
      · exact absurd e h3
      · exact absurd e h4
      · exact e
    subst hc78
    exact name_no32 (h.nm hc)

theorem text_inj {x y : InsR} (hx : InsOk x) (hy : InsOk y) (h : textL x = textL y) : x = y := by
  have e1 : ∀ z : InsR, textL z = wordL z.op.toNat ++ (((needL z.op.toNat).map (partL z)).map (32 :: ·)).flatten := by
    intro z; unfold textL; rw [List.map_map]; rfl
  rw [e1, e1] at h
  have hw : ∀ i : Fin 29, ∀ b ∈ wordL i.val, b ≠ 32 := by decide
  have hx1 := hx.lo
  have hx2 := hx.hi
  have hy1 := hy.lo
  have hy2 := hy.hi
  obtain ⟨h1, h2⟩ := word_cut _ _ _ _ (hw ⟨x.op.toNat, by omega⟩) (hw ⟨y.op.toNat, by omega⟩) (sp_shape _) (sp_shape _) h
  have hwi : ∀ i j : Fin 29, wordL i.val = wordL j.val → i = j := by decide
  have hop : x.op = y.op := by
    have := hwi ⟨x.op.toNat, by omega⟩ ⟨y.op.toNat, by omega⟩ h1
    simp only [Fin.mk.injEq] at this
    omega
  have h3 := sp_inj _ _ (fun p hp => by obtain ⟨c, hc, rfl⟩ := List.mem_map.1 hp; exact part_no32 hx hc) (fun p hp => by obtain ⟨c, hc, rfl⟩ := List.mem_map.1 hp; exact part_no32 hy hc) h2
  rw [hop] at h3
  have h4 : ∀ c ∈ needL y.op.toNat, partL x c = partL y c := by
    have gen : ∀ l : List UInt8, l.map (partL x) = l.map (partL y) → ∀ c ∈ l, partL x c = partL y c := by
      intro l
      induction l with
      | nil => intro _ c hc; cases hc
      | cons d l ih =>
        intro he c hc
        simp only [List.map_cons, List.cons.injEq] at he
        rcases List.mem_cons.1 hc with rfl | hc
        · exact he.1
        · exact ih he.2 c hc
    exact gen _ h3
  have ha : x.a = y.a := by
    by_cases hn : 65 ∈ needL y.op.toNat
    · exact itoa_inj (by have := h4 65 hn; simpa [partL] using this)
    · rw [hx.za (by rw [hop]; exact hn), hy.za hn]
  have hb : x.b = y.b := by
    by_cases hn : 66 ∈ needL y.op.toNat
    · exact itoa_inj (by have := h4 66 hn; simpa [partL] using this)
    · rw [hx.zb (by rw [hop]; exact hn), hy.zb hn]
  have ht : x.ty = y.ty := by
    by_cases hn : 84 ∈ needL y.op.toNat
    · have := h4 84 hn; simpa [partL] using this
    · rw [hx.zt (by rw [hop]; exact hn), hy.zt hn]
  have hc : x.cl = y.cl := by
    by_cases hn : 67 ∈ needL y.op.toNat
    · have := h4 67 hn; simpa [partL] using this
    · rw [hx.zc (by rw [hop]; exact hn), hy.zc hn]
  have hm : x.nm = y.nm := by
    by_cases hn : 78 ∈ needL y.op.toNat
    · have := h4 78 hn; simpa [partL] using this
    · rw [hx.zn (by rw [hop]; exact hn), hy.zn hn]
  obtain ⟨o, a, b, ty, cl, nm⟩ := x
  obtain ⟨o', a', b', ty', cl', nm'⟩ := y
  simp only at hop ha hb ht hc hm
  rw [hop, ha, hb, ht, hc, hm]
end Go.Proofs.YtlcpghblfpakjaaDoor
