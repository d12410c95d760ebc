import Derived.Lib.SlTrimSet
import Derived.Lib.IndexLaws
import Derived.IntWalk
namespace Go.Proofs.YtddbnboicmaooaaGreatDoor
set_option linter.unusedVariables false
set_option linter.unusedSimpArgs false
open Go.Lib
def letB (b : UInt8) : Bool := (decide (97 ≤ b.toNat) && decide (b.toNat ≤ 122)) || (decide (65 ≤ b.toNat) && decide (b.toNat ≤ 90)) || b.toNat == 95
def digB (b : UInt8) : Bool := decide (48 ≤ b.toNat) && decide (b.toNat ≤ 57)
def headDig : List UInt8 → Bool
 | [] => false
 | b :: _ => digB b
def nameOk (l : List UInt8) : Bool := !l.isEmpty && decide (l.length ≤ 20) && l.all (fun b => letB b || digB b) && !headDig l
def nameSet : List UInt8 := [97, 98, 99, 100, 101, 102, 103, 104, 105, 106, 107, 108, 109, 110, 111, 112, 113, 114, 115, 116, 117, 118, 119, 120, 121, 122, 65, 66, 67, 68, 69, 70, 71, 72, 73, 74, 75, 76, 77, 78, 79, 80, 81, 82, 83, 84, 85, 86, 87, 88, 89, 90, 95, 48, 49, 50, 51, 52, 53, 54, 55, 56, 57]
theorem byte_all (p : UInt8 → Bool) (h : (List.range 256).all (fun n => p n.toUInt8) = true) (b : UInt8) : p b = true := by
 have h1 := List.all_eq_true.1 h b.toNat (List.mem_range.2 b.toNat_lt)
 have e : b.toNat.toUInt8 = b := by
   apply UInt8.toNat_inj.1
   simp
 rw [e] at h1
 exact h1
theorem nameSet_contains (b : UInt8) : nameSet.contains b = (letB b || digB b) := by
 have h := byte_all (fun b => nameSet.contains b == (letB b || digB b)) (by decide +kernel) b
 exact eq_of_beq h
theorem dropWhile_nil {α : Type} (p : α → Bool) (l : List α) : l.dropWhile p = [] ↔ l.all p = true := by
 induction l with
 | nil => simp
 | cons x r ih =>
   by_cases h : p x = true
   · simp [List.dropWhile, h, ih]
   · simp [List.dropWhile, h]
theorem trimS_nil (l cs : List UInt8) : trimS l cs = [] ↔ l.all (cs.contains ·) = true := by
 unfold trimS trimLeftS trimRightS
 rw [dropWhile_nil]
 constructor
 · intro h
   by_cases e : l.all (cs.contains ·) = true
   · exact e
   · exfalso
     have h2 : (l.reverse.dropWhile (cs.contains ·)) = [] := by
       cases hd : l.reverse.dropWhile (cs.contains ·) with
       | nil => rfl
       | cons x r =>
         exfalso
         have hx : cs.contains x = true := by
           rw [hd] at h
           have := List.all_eq_true.1 h x (by simp)
           simpa using this
         have hn := List.head?_dropWhile_not (cs.contains ·) l.reverse
         rw [hd] at hn
         simp at hn
         simp [hn] at hx
     rw [dropWhile_nil] at h2
     rw [List.all_reverse] at h2
     exact e h2
 · intro h
   have h2 : (l.reverse.dropWhile (cs.contains ·)) = [] := by
     rw [dropWhile_nil, List.all_reverse]; exact h
   rw [h2]; rfl
theorem trim_name (l : List UInt8) : (trimS l nameSet).isEmpty = l.all (fun b => letB b || digB b) := by
 have h := trimS_nil l nameSet
 have e : l.all (nameSet.contains ·) = l.all (fun b => letB b || digB b) := by
   congr 1; funext b; exact nameSet_contains b
 rw [e] at h
 rw [Bool.eq_iff_iff, List.isEmpty_iff]
 exact h
def digSet : List UInt8 := [48, 49, 50, 51, 52, 53, 54, 55, 56, 57]
theorem digSet_contains (b : UInt8) : digSet.contains b = digB b := by
 have h := byte_all (fun b => digSet.contains b == digB b) (by decide +kernel) b
 exact eq_of_beq h
theorem digit_index (b : UInt8) : decide (0 ≤ indexByte digSet b) = digB b := by
 rw [← digSet_contains]
 have h := byte_all (fun b => decide (0 ≤ indexByte digSet b) == digSet.contains b) (by decide +kernel) b
 exact eq_of_beq h
theorem nameOk_true {l : List UInt8} (h : nameOk l = true) : ∃ b r, l = b :: r ∧ (b :: r).length ≤ 20 ∧ (trimS (b :: r) nameSet) = [] ∧ digB b = false := by
 cases l with
 | nil => simp [nameOk] at h
 | cons b r =>
   simp only [nameOk, Bool.and_eq_true, decide_eq_true_eq, Bool.not_eq_true', headDig] at h
   obtain ⟨⟨⟨_, h1⟩, h2⟩, h3⟩ := h
   refine ⟨b, r, rfl, h1, ?_, h3⟩
   have := trim_name (b :: r)
   rw [h2] at this
   exact List.isEmpty_iff.1 this
theorem nameOk_false {l : List UInt8} (h : nameOk l = false) : l = [] ∨ 20 < l.length ∨ (∃ b r, l = b :: r ∧ (b :: r).length ≤ 20 ∧ trimS (b :: r) nameSet ≠ []) ∨ (∃ b r, l = b :: r ∧ (b :: r).length ≤ 20 ∧ trimS (b :: r) nameSet = [] ∧ digB b = true) := by
 cases l with
 | nil => exact Or.inl rfl
 | cons b r =>
   by_cases h1 : (b :: r).length ≤ 20
   · have ht := trim_name (b :: r)
     by_cases h2 : trimS (b :: r) nameSet = []
     · refine Or.inr (Or.inr (Or.inr ⟨b, r, rfl, h1, h2, ?_⟩))
       rw [h2] at ht
       simp only [nameOk, ← ht, headDig, h1] at h
       simpa using h
     · exact Or.inr (Or.inr (Or.inl ⟨b, r, rfl, h1, h2⟩))
   · exact Or.inr (Or.inl (by omega))
def TypeOk (t : List UInt8) : Prop :=
 ∃ P X : List UInt8, t = P ++ X ∧ (∀ b ∈ P, b = 91) ∧ P.length ≤ 3 ∧ (X = [73] ∨ X = [74] ∨ ∃ n, nameOk n = true ∧ X = 76 :: (n ++ [59]))
theorem name_no59 {n : List UInt8} (h : nameOk n = true) : ∀ b ∈ n, b ≠ 59 := by
 intro b hb e
 subst e
 simp only [nameOk, Bool.and_eq_true] at h
 have := List.all_eq_true.1 h.1.2 59 hb
 revert this; decide
theorem name_len {n : List UInt8} (h : nameOk n = true) : 1 ≤ n.length ∧ n.length ≤ 20 := by
 simp only [nameOk, Bool.and_eq_true, decide_eq_true_eq] at h
 refine ⟨?_, h.1.1.2⟩
 cases n with
 | nil => simp at h
 | cons x r => simp
theorem type_len {t : List UInt8} (h : TypeOk t) : 1 ≤ t.length ∧ t.length ≤ 25 := by
 obtain ⟨P, X, rfl, _, hP, h | h | ⟨n, hn, h⟩⟩ := h
 · subst h; simp; omega
 · subst h; simp; omega
 · subst h
   have := name_len hn
   simp
   omega
theorem dropWhile_lead (P X : List UInt8) (hP : ∀ b ∈ P, b = 91) (hX : ∀ c r, X = c :: r → c ≠ 91) : trimLeftB (P ++ X) 91 = X := by
 unfold trimLeftB
 induction P with
 | nil =>
   cases X with
   | nil => rfl
   | cons c r =>
     have := hX c r rfl
     simp [List.dropWhile, this]
 | cons b P ih =>
   have hb := hP b (by simp)
   subst hb
   simp only [List.cons_append, List.dropWhile]
   exact ih (fun b hb => hP b (by simp [hb]))
theorem lead_split (l : List UInt8) : ∃ P X : List UInt8, l = P ++ X ∧ (∀ b ∈ P, b = 91) ∧ (∀ c r, X = c :: r → c ≠ 91) := by
 induction l with
 | nil => exact ⟨[], [], rfl, by simp, by simp⟩
 | cons b l ih =>
   by_cases hb : b = 91
   · obtain ⟨P, X, rfl, hP, hX⟩ := ih
     exact ⟨b :: P, X, rfl, by simpa [hb] using hP, hX⟩
   · exact ⟨[], b :: l, rfl, by simp, fun c r e => by cases e; exact hb⟩
theorem lead_uniq : ∀ (P Q X Y : List UInt8), (∀ b ∈ P, b = 91) → (∀ b ∈ Q, b = 91) → (∀ c r, X = c :: r → c ≠ 91) → (∀ c r, Y = c :: r → c ≠ 91) → P ++ X = Q ++ Y → P = Q ∧ X = Y
 | [], [], X, Y, _, _, _, _, h => ⟨rfl, h⟩
 | [], q :: Q, X, Y, _, hQ, hX, _, h => by
   exact absurd (hQ q (by simp)) (hX q (Q ++ Y) h)
 | p :: P, [], X, Y, hP, _, _, hY, h => by
   exact absurd (hP p (by simp)) (hY p (P ++ X) h.symm)
 | p :: P, q :: Q, X, Y, hP, hQ, hX, hY, h => by
   simp only [List.cons_append, List.cons.injEq] at h
   obtain ⟨e1, e2⟩ := h
   obtain ⟨e3, e4⟩ := lead_uniq P Q X Y (fun b hb => hP b (by simp [hb])) (fun b hb => hQ b (by simp [hb])) hX hY e2
   exact ⟨by rw [e1, e3], e4⟩
theorem semi_uniq : ∀ (n m r s : List UInt8), (∀ b ∈ n, b ≠ 59) → (∀ b ∈ m, b ≠ 59) → n ++ 59 :: r = m ++ 59 :: s → n = m ∧ r = s
 | [], [], r, s, _, _, h => by simpa using h
 | [], y :: m, r, s, _, hm, h => by
   simp only [List.nil_append, List.cons_append, List.cons.injEq] at h
   exact absurd h.1.symm (hm y (by simp))
 | x :: n, [], r, s, hn, _, h => by
   simp only [List.nil_append, List.cons_append, List.cons.injEq] at h
   exact absurd h.1 (hn x (by simp))
 | x :: n, y :: m, r, s, hn, hm, h => by
   simp only [List.cons_append, List.cons.injEq] at h
   obtain ⟨e1, e2⟩ := semi_uniq n m r s (fun b hb => hn b (by simp [hb])) (fun b hb => hm b (by simp [hb])) h.2
   exact ⟨by rw [h.1, e1], e2⟩
theorem type_uniq {t t' r r' : List UInt8} (h : TypeOk t) (h' : TypeOk t') (e : t ++ r = t' ++ r') : t = t' ∧ r = r' := by
 obtain ⟨P, X, rfl, hP, _, hX⟩ := h
 obtain ⟨Q, Y, rfl, hQ, _, hY⟩ := h'
 rw [List.append_assoc, List.append_assoc] at e
 have nx : ∀ c s, X ++ r = c :: s → c ≠ 91 := by
   intro c s e2
   rcases hX with rfl | rfl | ⟨n, _, rfl⟩ <;> (simp only [List.cons_append, List.nil_append, List.cons.injEq] at e2; rw [← e2.1]; decide)
 have ny : ∀ c s, Y ++ r' = c :: s → c ≠ 91 := by
   intro c s e2
   rcases hY with rfl | rfl | ⟨n, _, rfl⟩ <;> (simp only [List.cons_append, List.nil_append, List.cons.injEq] at e2; rw [← e2.1]; decide)
 obtain ⟨rfl, e3⟩ := lead_uniq P Q _ _ hP hQ nx ny e
 have key : X = Y ∧ r = r' := by
   rcases hX with rfl | rfl | ⟨n, hn, rfl⟩ <;> rcases hY with rfl | rfl | ⟨m, hm, rfl⟩ <;> simp only [List.cons_append, List.nil_append, List.cons.injEq, List.append_assoc] at e3
   · exact ⟨rfl, e3.2⟩
   · exact absurd e3.1 (by decide)
   · exact absurd e3.1 (by decide)
   · exact absurd e3.1 (by decide)
   · exact ⟨rfl, e3.2⟩
   · exact absurd e3.1 (by decide)
   · exact absurd e3.1 (by decide)
   · exact absurd e3.1 (by decide)
   · obtain ⟨rfl, e4⟩ := semi_uniq n m r r' (name_no59 hn) (name_no59 hm) e3.2
     exact ⟨rfl, e4⟩
 exact ⟨by rw [key.1], key.2⟩
theorem indexByte_at : ∀ (n r : List UInt8) (c : UInt8), (∀ b ∈ n, b ≠ c) → indexByte (n ++ c :: r) c = n.length
 | [], r, c, _ => by simp [indexByte]
 | x :: n, r, c, h => by
   have h1 := indexByte_at n r c (fun b hb => h b (by simp [hb]))
   have hx : (x == c) = false := by simpa using h x (by simp)
   simp only [List.cons_append, indexByte, hx, Bool.false_eq_true, if_false, h1]
   rw [if_neg (by simp)]
   simp
theorem indexByte_not : ∀ (n : List UInt8) (c : UInt8), (∀ b ∈ n, b ≠ c) → indexByte n c = -1
 | [], c, _ => by simp [indexByte]
 | x :: n, c, h => by
   have h1 := indexByte_not n c (fun b hb => h b (by simp [hb]))
   have hx : (x == c) = false := by simpa using h x (by simp)
   simp only [indexByte, hx, h1]
   simp
theorem semi_split (l : List UInt8) : (∀ b ∈ l, b ≠ 59) ∨ ∃ n r, l = n ++ 59 :: r ∧ ∀ b ∈ n, b ≠ 59 := by
 induction l with
 | nil => exact Or.inl (by simp)
 | cons b l ih =>
   by_cases hb : b = 59
   · exact Or.inr ⟨[], l, by rw [hb]; rfl, by simp⟩
   · rcases ih with h | ⟨n, r, rfl, h⟩
     · refine Or.inl ?_
       intro x hx
       rcases List.mem_cons.1 hx with h2 | h2
       · rw [h2]; exact hb
       · exact h x h2
     · refine Or.inr ⟨b :: n, r, rfl, ?_⟩
       intro x hx
       rcases List.mem_cons.1 hx with h2 | h2
       · rw [h2]; exact hb
       · exact h x h2
theorem cut_ways (l : List UInt8) : (∃ t r, l = t ++ r ∧ TypeOk t) ∨
   (∃ P X, l = P ++ X ∧ (∀ b ∈ P, b = 91) ∧ (∀ c r, X = c :: r → c ≠ 91) ∧
     (3 < P.length ∨ (P.length ≤ 3 ∧ X = []) ∨ (P.length ≤ 3 ∧ ∃ c r, X = c :: r ∧ c ≠ 73 ∧ c ≠ 74 ∧ c ≠ 76) ∨ (P.length ≤ 3 ∧ ∃ r, X = 76 :: r ∧ ∀ b ∈ r, b ≠ 59) ∨
       (P.length ≤ 3 ∧ ∃ n r, X = 76 :: (n ++ 59 :: r) ∧ (∀ b ∈ n, b ≠ 59) ∧ nameOk n = false))) := by
 obtain ⟨P, X, rfl, hP, hX⟩ := lead_split l
 by_cases h3 : P.length ≤ 3
 · cases X with
   | nil => exact Or.inr ⟨P, [], rfl, hP, hX, Or.inr (Or.inl ⟨h3, rfl⟩)⟩
   | cons c r =>
     by_cases c1 : c = 73
     · exact Or.inl ⟨P ++ [73], r, by simp [c1], P, [73], rfl, hP, h3, Or.inl rfl⟩
     by_cases c2 : c = 74
     · exact Or.inl ⟨P ++ [74], r, by simp [c2], P, [74], rfl, hP, h3, Or.inr (Or.inl rfl)⟩
     by_cases c3 : c = 76
     · subst c3
       rcases semi_split r with h | ⟨n, s, rfl, h⟩
       · exact Or.inr ⟨P, 76 :: r, rfl, hP, hX, Or.inr (Or.inr (Or.inr (Or.inl ⟨h3, r, rfl, h⟩)))⟩
       · cases hn : nameOk n with
         | true => exact Or.inl ⟨P ++ 76 :: (n ++ [59]), s, by simp, P, _, rfl, hP, h3, Or.inr (Or.inr ⟨n, hn, rfl⟩)⟩
         | false => exact Or.inr ⟨P, _, rfl, hP, hX, Or.inr (Or.inr (Or.inr (Or.inr ⟨h3, n, s, rfl, h, hn⟩)))⟩
     · exact Or.inr ⟨P, c :: r, rfl, hP, hX, Or.inr (Or.inr (Or.inl ⟨h3, c, r, rfl, c1, c2, c3⟩))⟩
 · exact Or.inr ⟨P, X, rfl, hP, hX, Or.inl (by omega)⟩
theorem cut_excl {t r P X : List UInt8} (ht : TypeOk t) (e : t ++ r = P ++ X) (hP : ∀ b ∈ P, b = 91) (hX : ∀ c r, X = c :: r → c ≠ 91)
   (h : 3 < P.length ∨ (P.length ≤ 3 ∧ X = []) ∨ (P.length ≤ 3 ∧ ∃ c r, X = c :: r ∧ c ≠ 73 ∧ c ≠ 74 ∧ c ≠ 76) ∨ (P.length ≤ 3 ∧ ∃ r, X = 76 :: r ∧ ∀ b ∈ r, b ≠ 59) ∨
       (P.length ≤ 3 ∧ ∃ n r, X = 76 :: (n ++ 59 :: r) ∧ (∀ b ∈ n, b ≠ 59) ∧ nameOk n = false)) : False := by
 obtain ⟨Q, Y, rfl, hQ, hQ3, hY⟩ := ht
 rw [List.append_assoc] at e
 have ny : ∀ c s, Y ++ r = c :: s → c ≠ 91 := by
   intro c s e2
   rcases hY with rfl | rfl | ⟨n, _, rfl⟩ <;> (simp only [List.cons_append, List.nil_append, List.cons.injEq] at e2; rw [← e2.1]; decide)
 obtain ⟨rfl, e3⟩ := lead_uniq Q P _ _ hQ hP ny hX e
 rcases h with h | ⟨_, rfl⟩ | ⟨_, c, s, rfl, c1, c2, c3⟩ | ⟨_, s, rfl, hs⟩ | ⟨_, n, s, rfl, hn, hb⟩
 · omega
 · rcases hY with rfl | rfl | ⟨n, _, rfl⟩ <;> simp at e3
 · rcases hY with rfl | rfl | ⟨n, _, rfl⟩ <;> simp only [List.cons_append, List.nil_append, List.cons.injEq] at e3
   · exact c1 e3.1.symm
   · exact c2 e3.1.symm
   · exact c3 e3.1.symm
 · rcases hY with rfl | rfl | ⟨n, _, rfl⟩ <;> simp only [List.cons_append, List.nil_append, List.cons.injEq] at e3
   · exact absurd e3.1 (by decide)
   · exact absurd e3.1 (by decide)
   · exact hs 59 (by rw [← e3.2]; simp) rfl
 · rcases hY with rfl | rfl | ⟨m, hm, rfl⟩ <;> simp only [List.cons_append, List.nil_append, List.cons.injEq, List.append_assoc] at e3
   · exact absurd e3.1 (by decide)
   · exact absurd e3.1 (by decide)
   · obtain ⟨rfl, _⟩ := semi_uniq m n r s (name_no59 hm) hn e3.2
     rw [hm] at hb; cases hb
def GivesOk (g : List UInt8) : Prop := g = [86] ∨ TypeOk g
def MethodOk (m : List UInt8) (A : List (List UInt8)) (g : List UInt8) : Prop :=
 m = 40 :: (A.flatten ++ 41 :: g) ∧ (∀ t ∈ A, TypeOk t) ∧ A.length ≤ 5 ∧ GivesOk g
theorem type_no41 {t r s : List UInt8} (h : TypeOk t) (e : t ++ r = 41 :: s) : False := by
 obtain ⟨P, X, rfl, hP, _, hX⟩ := h
 cases P with
 | nil =>
   rcases hX with rfl | rfl | ⟨n, _, rfl⟩ <;> simp at e
 | cons b P =>
   have := hP b (by simp)
   subst this
   simp at e
theorem parse_prefix : ∀ (A A' : List (List UInt8)) (rest g : List UInt8), (∀ t ∈ A, TypeOk t) → (∀ t ∈ A', TypeOk t) → A.flatten ++ rest = A'.flatten ++ 41 :: g → ∃ A'', A' = A ++ A'' ∧ rest = A''.flatten ++ 41 :: g
 | [], A', rest, g, _, _, h => ⟨A', rfl, by simpa using h⟩
 | t :: A, [], rest, g, h1, _, h => by
   simp only [List.flatten_cons, List.flatten_nil, List.nil_append, List.append_assoc] at h
   exact absurd h (fun h => type_no41 (h1 t (by simp)) h)
 | t :: A, t' :: A', rest, g, h1, h2, h => by
   simp only [List.flatten_cons, List.append_assoc] at h
   obtain ⟨rfl, h3⟩ := type_uniq (h1 t (by simp)) (h2 t' (by simp)) h
   obtain ⟨A'', rfl, h4⟩ := parse_prefix A A' rest g (fun x hx => h1 x (by simp [hx])) (fun x hx => h2 x (by simp [hx])) h3
   exact ⟨A'', rfl, h4⟩
theorem parse_uniq {A A' : List (List UInt8)} {g g' : List UInt8} (h1 : ∀ t ∈ A, TypeOk t) (h2 : ∀ t ∈ A', TypeOk t) (h : A.flatten ++ 41 :: g = A'.flatten ++ 41 :: g') : A = A' ∧ g = g' := by
 obtain ⟨A'', rfl, h4⟩ := parse_prefix A A' _ g' h1 h2 h
 cases A'' with
 | nil =>
   simp at h4
   exact ⟨by simp, h4⟩
 | cons t r =>
   exfalso
   simp only [List.flatten_cons, List.append_assoc] at h4
   exact type_no41 (h2 t (by simp)) h4.symm
theorem method_uniq {m : List UInt8} {A A' : List (List UInt8)} {g g' : List UInt8} (h : MethodOk m A g) (h' : MethodOk m A' g') : A = A' ∧ g = g' := by
 obtain ⟨rfl, h1, _, _⟩ := h
 obtain ⟨e, h2, _, _⟩ := h'
 simp only [List.cons.injEq, true_and] at e
 exact parse_uniq h1 h2 e
theorem method_none {s rest : List UInt8} {A : List (List UInt8)} (h1 : ∀ t ∈ A, TypeOk t) (e : s = A.flatten ++ rest) (hn : ∀ t r, rest = t ++ r → ¬ TypeOk t) (h41 : ∀ g, rest ≠ 41 :: g) : ∀ A' g', ¬ MethodOk (40 :: s) A' g' := by
 rintro A' g' ⟨e2, h2, _, _⟩
 simp only [List.cons.injEq, true_and] at e2
 rw [e] at e2
 obtain ⟨A'', rfl, h4⟩ := parse_prefix A A' rest g' h1 h2 e2
 cases A'' with
 | nil => exact h41 g' (by simpa using h4)
 | cons t r =>
   simp only [List.flatten_cons, List.append_assoc] at h4
   exact hn t _ h4 (h2 t (by simp))
theorem method_wrong {s g : List UInt8} {A : List (List UInt8)} (h1 : ∀ t ∈ A, TypeOk t) (e : s = A.flatten ++ 41 :: g) (hw : 5 < A.length ∨ ¬ GivesOk g) : ∀ A' g', ¬ MethodOk (40 :: s) A' g' := by
 rintro A' g' ⟨e2, h2, h3, h4⟩
 simp only [List.cons.injEq, true_and] at e2
 rw [e] at e2
 obtain ⟨rfl, rfl⟩ := parse_uniq h1 h2 e2
 rcases hw with h | h
 · omega
 · exact h h4
theorem method_open {m : List UInt8} (h : ∀ s, m ≠ 40 :: s) : ∀ A' g', ¬ MethodOk m A' g' := fun A' g' h2 => h _ h2.1
theorem type_pos {t : List UInt8} (h : TypeOk t) : 0 < t.length := by have := (type_len h).1; omega
theorem types_len : ∀ (A : List (List UInt8)), (∀ t ∈ A, TypeOk t) → A.length ≤ A.flatten.length
 | [], _ => by simp
 | t :: A, h => by
   have h1 := type_pos (h t (by simp))
   have h2 := types_len A (fun x hx => h x (by simp [hx]))
   simp only [List.length_cons, List.flatten_cons, List.length_append]
   omega
open Go.RowKit
structure InsR where
 op : Int
 a : Int
 b : Int
 ty : List UInt8
 cl : List UInt8
 nm : List UInt8
def insV (x : InsR) : Value := .agg #[.int .i64 x.op, .int .i64 x.a, .int .i64 x.b, .string ⟨⟨x.ty⟩⟩, .string ⟨⟨x.cl⟩⟩, .string ⟨⟨x.nm⟩⟩]
def jumpsB (op : Int) : Bool := decide (12 ≤ op) && decide (op ≤ 14)
def rangedB (x : InsR) : Bool :=
 if x.op = 2 then !(x.ty == [73]) || (x.a == wrap32 x.a)
 else if x.op = 4 ∨ x.op = 5 then decide (0 ≤ x.a) && decide (x.a < 8)
 else if x.op = 9 then decide (1 ≤ x.a) && decide (x.a ≤ 12)
 else !(jumpsB x.op) || (decide (0 ≤ x.a) && decide (x.a ≤ 40) && decide (0 ≤ x.b) && decide (x.b ≤ 5))
def numB (t : List UInt8) : Bool := t == [73] || t == [74]
open Classical in
noncomputable def typedB (x : InsR) : Bool :=
 if x.op = 2 ∨ x.op = 9 ∨ x.op = 10 then numB x.ty
 else if x.op = 18 ∨ x.op = 20 ∨ x.op = 21 then decide (TypeOk x.ty) && decide (TypeOk (91 :: x.ty))
 else if x.op = 22 ∨ x.op = 23 then decide (TypeOk x.ty) && !(numB x.ty)
 else if x.op = 24 ∨ x.op = 25 then decide (∃ A g, MethodOk x.ty A g)
 else true
def needL (op : Nat) : List UInt8 :=
 match op with
 | 2 => [65, 84] | 4 => [65] | 5 => [65] | 9 => [65, 84] | 10 => [84] | 12 => [65, 66] | 13 => [65] | 14 => [65] | 15 => [67]
 | 16 => [67, 78] | 17 => [67, 78] | 18 => [84] | 20 => [84] | 21 => [84] | 22 => [84] | 23 => [84] | 24 => [84, 67, 78] | 25 => [84, 67, 78]
 | _ => []
noncomputable def insErr (x : InsR) : Int :=
 if x.op < 1 ∨ 28 < x.op then 1
 else if (!(needL x.op.toNat).contains 65 && x.a != 0) || (!(needL x.op.toNat).contains 66 && x.b != 0) || (!(needL x.op.toNat).contains 84 && x.ty != []) || (!(needL x.op.toNat).contains 67 && x.cl != []) || (!(needL x.op.toNat).contains 78 && x.nm != []) then 1
 else if !rangedB x then 2
 else if !typedB x || ((needL x.op.toNat).contains 67 && !nameOk x.cl) || ((needL x.op.toNat).contains 78 && !nameOk x.nm) then 1
 else 0
def formL : List (List UInt8 × List UInt8) := [([], []), ([110, 111, 112], []), ([112, 117, 115, 104], [65, 84]), ([110, 117, 108, 108], []), ([108, 111, 97, 100], [65]), ([115, 116, 111, 114, 101], [65]), ([112, 111, 112], []), ([100, 117, 112], []), ([115, 119, 97, 112], []), ([109, 97, 116, 104], [65, 84]), ([99, 111, 110, 118], [84]), ([111, 114, 100, 101, 114], []), ([105, 102], [65, 66]), ([105, 102, 110, 117, 108, 108], [65]), ([103, 111, 116, 111], [65]), ([110, 101, 119], [67]), ([103, 101, 116], [67, 78]), ([112, 117, 116], [67, 78]), ([110, 101, 119, 97, 114, 114, 97, 121], [84]), ([108, 101, 110, 103, 116, 104], []), ([97, 108, 111, 97, 100], [84]), ([97, 115, 116, 111, 114, 101], [84]), ([99, 97, 115, 116], [84]), ([105, 115], [84]), ([99, 97, 108, 108], [84, 67, 78]), ([99, 97, 108, 108, 115], [84, 67, 78]), ([114, 101, 116, 117, 114, 110], []), ([103, 105, 118, 101], []), ([116, 104, 114, 111, 119], [])]
def wordL (op : Nat) : List UInt8 := (formL.getD op ([], [])).1
theorem form_get {op : Nat} (h : op < 29) : formL[op]? = some (wordL op, needL op) := by
 have h1 : ∀ i : Fin 29, formL[i.val]? = some (wordL i.val, needL i.val) := by decide
 exact h1 ⟨op, h⟩
def endsB (op : Int) : Bool := op == 14 || op == 26 || op == 27 || op == 28
noncomputable def firstErr : List InsR → Int
 | [] => 0
 | x :: r => if insErr x = 0 then firstErr r else insErr x
def endOk (l : List InsR) : Bool :=
 match l.getLast? with
 | some x => endsB x.op
 | none => false
noncomputable def flowErr (l : List InsR) : Int :=
 if 40 < l.length then 4
 else if firstErr l ≠ 0 then firstErr l
 else if l.any (fun x => jumpsB x.op && decide ((l.length : Int) ≤ x.a)) then 2
 else if endOk l then 0 else 8
theorem firstErr_zero : ∀ (l : List InsR), firstErr l = 0 ↔ ∀ x ∈ l, insErr x = 0
 | [] => by simp [firstErr]
 | x :: r => by
   have ih := firstErr_zero r
   by_cases h : insErr x = 0
   · simp [firstErr, h, ih]
   · simp [firstErr, h]
structure FlowOk (l : List InsR) : Prop where
 len : l.length ≤ 40
 ins : ∀ x ∈ l, insErr x = 0
 jump : ∀ x ∈ l, jumpsB x.op = true → x.a < (l.length : Int)
 last : endOk l = true
theorem flowErr_zero (l : List InsR) : flowErr l = 0 ↔ FlowOk l := by
 unfold flowErr
 by_cases h1 : 40 < l.length
 · rw [if_pos h1]
   exact ⟨fun h => by omega, fun h => by have := h.len; omega⟩
 rw [if_neg h1]
 by_cases h2 : firstErr l = 0
 · rw [if_neg (by simp [h2])]
   by_cases h3 : l.any (fun x => jumpsB x.op && decide ((l.length : Int) ≤ x.a)) = true
   · rw [if_pos h3]
     refine ⟨fun h => by omega, fun h => ?_⟩
     rw [List.any_eq_true] at h3
     obtain ⟨x, hx, h4⟩ := h3
     simp only [Bool.and_eq_true, decide_eq_true_eq] at h4
     have := h.jump x hx h4.1
     omega
   · rw [if_neg h3]
     have h3' : ∀ x ∈ l, jumpsB x.op = true → x.a < (l.length : Int) := by
       intro x hx hj
       apply Int.not_le.1
       intro h4
       apply h3
       rw [List.any_eq_true]
       exact ⟨x, hx, by simp [hj, h4]⟩
     by_cases h5 : endOk l = true
     · rw [if_pos h5]
       exact ⟨fun _ => ⟨by omega, (firstErr_zero l).1 h2, h3', h5⟩, fun _ => rfl⟩
     · rw [if_neg h5]
       exact ⟨fun h => by omega, fun h => absurd h.last h5⟩
 · rw [if_pos h2]
   exact ⟨fun h => absurd h h2, fun h => absurd ((firstErr_zero l).2 h.ins) h2⟩
def aft (l : List InsR) (i : Nat) : List Nat :=
 match l[i]? with
 | none => []
 | some x => (if endsB x.op then [] else [i + 1]) ++ (if jumpsB x.op && (x.op == 14 || x.a != ((i : Int) + 1)) then [x.a.toNat] else [])
inductive Rch (l : List InsR) (S : List Nat) : Nat → Prop
 | base {i : Nat} : i ∈ S → Rch l S i
 | step {i j : Nat} : Rch l S i → j ∈ aft l i → Rch l S j
theorem jumps_ranged {x : InsR} (h : insErr x = 0) (hj : jumpsB x.op = true) : 0 ≤ x.a ∧ x.a ≤ 40 ∧ 0 ≤ x.b ∧ x.b ≤ 5 := by
 have hr : rangedB x = true := by
   unfold insErr at h
   split at h
   · omega
   split at h
   · omega
   split at h
   · omega
   · rename_i h3; simpa using h3
 simp only [jumpsB, Bool.and_eq_true, decide_eq_true_eq] at hj
 unfold rangedB at hr
 rw [if_neg (by omega), if_neg (by omega), if_neg (by omega)] at hr
 have : jumpsB x.op = true := by simp [jumpsB, hj]
 rw [this] at hr
 simpa [and_assoc] using hr
theorem aft_lt {l : List InsR} (h : FlowOk l) {i j : Nat} (hi : i < l.length) (hj : j ∈ aft l i) : j < l.length := by
 unfold aft at hj
 rw [List.getElem?_eq_getElem hi] at hj
 simp only [List.mem_append] at hj
 rcases hj with hj | hj
 · split at hj
   · cases hj
   · rename_i hne
     simp only [List.mem_singleton] at hj
     subst hj
     apply Nat.lt_of_le_of_ne (by omega)
     intro e
     have hl := h.last
     unfold endOk at hl
     rw [List.getLast?_eq_getElem?, show l.length - 1 = i by omega, List.getElem?_eq_getElem hi] at hl
     exact hne hl
 · split at hj
   · rename_i hc
     simp only [List.mem_singleton] at hj
     simp only [Bool.and_eq_true] at hc
     have h1 := h.jump _ (List.getElem_mem hi) hc.1
     have h2 := (jumps_ranged (h.ins _ (List.getElem_mem hi)) hc.1).1
     omega
   · cases hj
structure Srch (l : List InsR) (S : List Nat) (seen : List Bool) (todo : List Nat) : Prop where
 len : seen.length = l.length
 lt : ∀ i ∈ todo, i < l.length
 right : ∀ i ∈ todo, Rch l S i
 sound : ∀ i : Nat, seen[i]? = some true → Rch l S i
 base : ∀ i ∈ S, seen[i]? = some true ∨ i ∈ todo
 step : ∀ i : Nat, seen[i]? = some true → ∀ j ∈ aft l i, seen[j]? = some true ∨ j ∈ todo
theorem Srch.start {l : List InsR} {S : List Nat} (hS : ∀ i ∈ S, i < l.length) : Srch l S (List.replicate l.length false) S :=
 ⟨by simp, hS, fun i h => .base h, fun i h => by simp [List.getElem?_replicate] at h, fun i h => Or.inr h, fun i h => by simp [List.getElem?_replicate] at h⟩
theorem Srch.skip {l : List InsR} {S : List Nat} {seen : List Bool} {todo : List Nat} {i : Nat} (h : Srch l S seen (todo ++ [i])) (hi : seen[i]? = some true) : Srch l S seen todo :=
 ⟨h.len, fun k hk => h.lt k (by simp [hk]), fun k hk => h.right k (by simp [hk]), h.sound, fun k hk => by
   rcases h.base k hk with h1 | h1
   · exact Or.inl h1
   · rcases List.mem_append.1 h1 with h2 | h2
     · exact Or.inr h2
     · simp at h2; subst h2; exact Or.inl hi, fun k hk j hj => by
   rcases h.step k hk j hj with h1 | h1
   · exact Or.inl h1
   · rcases List.mem_append.1 h1 with h2 | h2
     · exact Or.inr h2
     · simp at h2; subst h2; exact Or.inl hi⟩
theorem Srch.done {l : List InsR} {S : List Nat} {seen : List Bool} (h : Srch l S seen []) (i : Nat) : seen[i]? = some true ↔ Rch l S i := by
 refine ⟨h.sound i, fun hr => ?_⟩
 induction hr with
 | base h1 => rcases h.base _ h1 with h2 | h2; exact h2; cases h2
 | step _ h2 ih => rcases h.step _ ih _ h2 with h3 | h3; exact h3; cases h3
def unseen (s : List Bool) : Nat := s.countP (! ·)
theorem aft_len (l : List InsR) (i : Nat) : (aft l i).length ≤ 2 := by
 unfold aft
 split
 · simp
 · rw [List.length_append]; split <;> split <;> simp
def shifted (x : InsR) : InsR := if jumpsB x.op then { x with a := x.a + 1 } else x
def nopR : InsR := ⟨1, 0, 0, [], [], []⟩
def ahead (l : List InsR) : List InsR := nopR :: l.map shifted
open Classical in
noncomputable def reachL (l : List InsR) : List Nat := (List.range l.length).filter (fun i => decide (Rch l [0] i))
structure FieldR where
 nm : List UInt8
 ty : List UInt8
structure HandR where
 lo : Int
 hi : Int
 at_ : Int
 cl : List UInt8
structure MethR where
 nm : List UInt8
 ty : List UInt8
 stat : Bool
 abst : Bool
 priv : Bool
 loc : Int
 code : List InsR
 hs : List HandR
structure ClassR where
 nm : List UInt8
 sup : List UInt8
 faces : List (List UInt8)
 face : Bool
 fields : List FieldR
 meths : List MethR
noncomputable def firstNZ (f : Nat → Int) : Nat → Int
 | 0 => 0
 | n + 1 => if firstNZ f n = 0 then f n else firstNZ f n
theorem firstNZ_zero (f : Nat → Int) : ∀ n, firstNZ f n = 0 ↔ ∀ j, j < n → f j = 0
 | 0 => by simp [firstNZ]
 | n + 1 => by
   have ih := firstNZ_zero f n
   unfold firstNZ
   by_cases h : firstNZ f n = 0
   · rw [if_pos h]
     constructor
     · intro h1 j hj
       by_cases e : j = n
       · rw [e]; exact h1
       · exact ih.1 h j (by omega)
     · intro h1; exact h1 n (by omega)
   · rw [if_neg h]
     exact ⟨fun h1 => absurd h1 h, fun h1 => absurd (ih.2 (fun j hj => h1 j (by omega))) h⟩
theorem firstNZ_at {f : Nat → Int} {k : Nat} (h0 : ∀ j, j < k → f j = 0) (hk : f k ≠ 0) : ∀ n, k < n → firstNZ f n = f k
 | 0, h => by omega
 | n + 1, h => by
   unfold firstNZ
   by_cases e : k = n
   · subst e
     rw [if_pos ((firstNZ_zero f k).2 h0)]
   · have h1 := firstNZ_at h0 hk n (by omega)
     rw [if_neg (by rw [h1]; exact hk), h1]
open Classical in
noncomputable def mtyErr (t : List UInt8) : Int := if ∃ A g, MethodOk t A g then 0 else 1
open Classical in
noncomputable def argsN (t : List UInt8) : Int := if h : ∃ A g, MethodOk t A g then (h.choose.length : Int) else 0
theorem argsN_of {t g : List UInt8} {A : List (List UInt8)} (h : MethodOk t A g) : argsN t = A.length := by
 have hx : ∃ A g, MethodOk t A g := ⟨A, g, h⟩
 unfold argsN
 rw [dif_pos hx]
 obtain ⟨g', h2⟩ := hx.choose_spec
 rw [(method_uniq h2 h).1]
noncomputable def argsOf (m : MethR) : Int := if mtyErr m.ty ≠ 0 then 0 else if m.stat then argsN m.ty else argsN m.ty + 1
def hand1 (n : Int) (h : HandR) : Int := if h.lo < 0 ∨ h.hi ≤ h.lo ∨ n < h.hi ∨ h.at_ < 0 ∨ n ≤ h.at_ then 2 else if nameOk h.cl = false then 1 else 0
noncomputable def handErr (n : Int) (hs : List HandR) : Int :=
 let r := firstNZ (fun j => (hs[j]?).elim 0 (hand1 n)) hs.length
 if r ≠ 0 then r else if 8 < hs.length then 4 else 0
def locB (loc : Int) (x : InsR) : Bool := (x.op == 4 || x.op == 5) && decide (loc ≤ x.a)
noncomputable def bodyErr (m : MethR) : Int :=
 if m.abst then (if m.stat || m.priv || !m.code.isEmpty || !m.hs.isEmpty then 8 else 0)
 else if flowErr m.code ≠ 0 then flowErr m.code
 else if m.loc < argsOf m then 2
 else if m.code.any (locB m.loc) then 2
 else handErr m.code.length m.hs
noncomputable def methErr (m : MethR) (ahead : List MethR) : Int :=
 if nameOk m.nm = false then 1
 else if mtyErr m.ty ≠ 0 then 1
 else if ahead.any (fun x => x.nm == m.nm && x.ty == m.ty) then 5
 else if m.loc < 0 ∨ 8 < m.loc then 2
 else bodyErr m
def faceErr (l : List (List UInt8)) (i : Nat) : Int := (l[i]?).elim 0 fun f => if nameOk f = false then 1 else if (l.take i).contains f then 5 else 0
open Classical in
noncomputable def fieldErr (l : List FieldR) (i : Nat) : Int := (l[i]?).elim 0 fun f => if nameOk f.nm = false ∨ ¬ TypeOk f.ty then 1 else if (l.take i).any (fun x => x.nm == f.nm) then 5 else 0
noncomputable def methsErr (l : List MethR) (i : Nat) : Int := (l[i]?).elim 0 fun m => methErr m (l.take i)
noncomputable def classErr (c : ClassR) : Int :=
 if nameOk c.nm = false ∨ (c.sup ≠ [] ∧ nameOk c.sup = false) then 1
 else if firstNZ (faceErr c.faces) c.faces.length ≠ 0 then firstNZ (faceErr c.faces) c.faces.length
 else if 8 < c.faces.length ∨ 8 < c.fields.length ∨ 8 < c.meths.length then 4
 else if firstNZ (fieldErr c.fields) c.fields.length ≠ 0 then firstNZ (fieldErr c.fields) c.fields.length
 else if firstNZ (methsErr c.meths) c.meths.length ≠ 0 then firstNZ (methsErr c.meths) c.meths.length
 else if c.face = true ∧ c.fields ≠ [] then 8
 else 0
theorem classErr_ok {c : ClassR} (h : classErr c = 0) : (nameOk c.nm = true ∧ (c.sup = [] ∨ nameOk c.sup = true)) ∧ (∀ j, j < c.faces.length → faceErr c.faces j = 0) ∧ (c.faces.length ≤ 8 ∧ c.fields.length ≤ 8 ∧ c.meths.length ≤ 8) ∧
   (∀ j, j < c.fields.length → fieldErr c.fields j = 0) ∧ (∀ j, j < c.meths.length → methsErr c.meths j = 0) ∧ ¬ (c.face = true ∧ c.fields ≠ []) := by
 unfold classErr at h
 split at h
 · omega
 rename_i h1
 split at h
 · rename_i h2; exact absurd h h2
 rename_i h2
 split at h
 · omega
 rename_i h3
 split at h
 · rename_i h4; exact absurd h h4
 rename_i h4
 split at h
 · rename_i h5; exact absurd h h5
 rename_i h5
 split at h
 · omega
 rename_i h6
 refine ⟨?_, (firstNZ_zero _ _).1 (by omega), by omega, (firstNZ_zero _ _).1 (by omega), (firstNZ_zero _ _).1 (by omega), h6⟩
 simp only [not_or, Bool.not_eq_false, not_and] at h1
 refine ⟨h1.1, ?_⟩
 by_cases hs : c.sup = []
 · exact Or.inl hs
 · exact Or.inr (h1.2 hs)
abbrev Nm := List UInt8
def objN : Nm := [79, 98, 106, 101, 99, 116]
def fltN : Nm := [70, 97, 117, 108, 116]
def objC : ClassR := ⟨objN, [], [], false, [], []⟩
def fltC : ClassR := ⟨fltN, objN, [], false, [], []⟩
def wl (l : List ClassR) : List ClassR := objC :: fltC :: l
def look (L : List ClassR) (n : Nm) : Option ClassR := L.find? (fun c => c.nm == n)
def aboveC (c : ClassR) : List Nm := if c.sup = [] then c.faces else c.sup :: c.faces
def above (L : List ClassR) (n : Nm) : List Nm := (look L n).elim [] aboveC
def addNew (out : List Nm) : List Nm → List Nm
 | [] => out
 | a :: r => addNew (if out.contains a then out else out ++ [a]) r
def bfs (ab : Nm → List Nm) : Nat → List Nm → Nat → List Nm
 | 0, out, _ => out
 | f + 1, out, i => match out[i]? with
   | none => out
   | some x => bfs ab f (addNew out (ab x)) (i + 1)
def everyU (L : List ClassR) (n : Nm) : List Nm := bfs (above L) 100 [n] 0
def every (L : List ClassR) (n : Nm) : List Nm := (everyU L n).mergeSort (fun x y => decide (x ≤ y))
def supers (L : List ClassR) : Nat → Nm → List Nm
 | 0, _ => []
 | f + 1, n => match look L n with
   | none => []
   | some c => if c.sup = [] then [] else c.sup :: supers L f c.sup
def line (L : List ClassR) (n : Nm) : List Nm := n :: supers L 100 n
def hasErr (L : List ClassR) (n : Nm) (face : Bool) : Int := (look L n).elim 3 fun c => if c.face = face then 0 else 7
def isErr (L : List ClassR) (l : List Nm) (j : Nat) : Int := (l[j]?).elim 0 fun f => if (look L f).isSome then 0 else 3
def facErr (L : List ClassR) (l : List Nm) (j : Nat) : Int := (l[j]?).elim 0 fun f => hasErr L f true
noncomputable def joinErr (L : List ClassR) (c : ClassR) : Int :=
 if c.sup = [] then 1
 else if (look L c.sup).isNone then 3
 else if firstNZ (isErr L c.faces) c.faces.length ≠ 0 then firstNZ (isErr L c.faces) c.faces.length
 else if hasErr L c.sup false ≠ 0 then hasErr L c.sup false
 else if firstNZ (facErr L c.faces) c.faces.length ≠ 0 then firstNZ (facErr L c.faces) c.faces.length
 else if c.face = true ∧ c.sup ≠ objN then 7
 else 0
def roundB (L : List ClassR) (n : Nm) : Bool := (above L n).any fun a => (every L a).contains n
noncomputable def inErr (l : List ClassR) (j : Nat) : Int := (l[j]?).elim 0 fun c => if classErr c ≠ 0 then classErr c else if (look (wl (l.take j)) c.nm).isSome then 5 else 0
noncomputable def jnErr (l : List ClassR) (j : Nat) : Int := (l[j]?).elim 0 fun c => joinErr (wl l) c
def rdErr (l : List ClassR) (j : Nat) : Int := (l[j]?).elim 0 fun c => if roundB (wl l) c.nm then 6 else 0
noncomputable def readErr (l : List ClassR) : Int :=
 if 10 < l.length then 4
 else if firstNZ (inErr l) l.length ≠ 0 then firstNZ (inErr l) l.length
 else if firstNZ (jnErr l) l.length ≠ 0 then firstNZ (jnErr l) l.length
 else firstNZ (rdErr l) l.length
theorem find_name {L : List ClassR} {n : Nm} {c : ClassR} (h : look L n = some c) : c.nm = n ∧ c ∈ L := by
 unfold look at h
 have h1 := List.find?_some h
 have h2 := List.mem_of_find?_eq_some h
 exact ⟨by simpa using h1, h2⟩
theorem addNew_pre (as : List Nm) : ∀ out, ∃ r, addNew out as = out ++ r := by
 induction as with
 | nil => intro out; exact ⟨[], by simp [addNew]⟩
 | cons a r ih =>
   intro out
   unfold addNew
   by_cases h : out.contains a = true
   · rw [if_pos h]; exact ih out
   · rw [if_neg h]
     obtain ⟨s, hs⟩ := ih (out ++ [a])
     exact ⟨a :: s, by rw [hs]; simp⟩
theorem addNew_mem (as : List Nm) : ∀ out x, x ∈ addNew out as ↔ x ∈ out ∨ x ∈ as := by
 induction as with
 | nil => intro out x; simp [addNew]
 | cons a r ih =>
   intro out x
   unfold addNew
   rw [ih]
   by_cases h : out.contains a = true
   · rw [if_pos h]
     have : a ∈ out := by simpa using h
     constructor
     · rintro (h1 | h1)
       · exact Or.inl h1
       · exact Or.inr (by simp [h1])
     · rintro (h1 | h1)
       · exact Or.inl h1
       · rcases List.mem_cons.1 h1 with h2 | h2
         · left; rw [h2]; exact this
         · exact Or.inr h2
   · rw [if_neg h]
     simp [or_assoc]
theorem addNew_nodup (as : List Nm) : ∀ out, out.Nodup → (addNew out as).Nodup := by
 induction as with
 | nil => intro out h; exact h
 | cons a r ih =>
   intro out h
   unfold addNew
   apply ih
   by_cases hc : out.contains a = true
   · rw [if_pos hc]; exact h
   · rw [if_neg hc]
     rw [List.nodup_append]
     refine ⟨h, by simp, ?_⟩
     intro x hx y hy e
     rw [List.mem_singleton] at hy
     subst hy
     subst e
     exact hc (by simpa using hx)
def Closed (L : List ClassR) (U : List Nm) : Prop := ∀ x ∈ U, ∀ a ∈ above L x, a ∈ U
theorem nodup_len {l U : List Nm} (hn : l.Nodup) (h : ∀ x ∈ l, x ∈ U) : l.length ≤ U.length := by
 induction l generalizing U with
 | nil => simp
 | cons a r ih =>
   rw [List.nodup_cons] at hn
   have ha := h a (by simp)
   have h1 := ih (U := U.erase a) hn.2 (fun x hx => (List.mem_erase_of_ne (by rintro rfl; exact hn.1 hx)).2 (h x (by simp [hx])))
   have h2 := List.length_erase_of_mem ha
   have h3 := List.length_pos_of_mem ha
   simp only [List.length_cons]
   omega
inductive Rc (L : List ClassR) (n : Nm) : Nm → Prop
 | refl : Rc L n n
 | step {x a : Nm} : Rc L n x → a ∈ above L x → Rc L n a
structure WSch (L : List ClassR) (U : List Nm) (n : Nm) (out : List Nm) (i : Nat) : Prop where
 nd : out.Nodup
 sub : ∀ x ∈ out, x ∈ U
 le : i ≤ out.length
 eq : bfs (above L) (100 - i) out i = everyU L n
 cl : ∀ j x, j < i → out[j]? = some x → ∀ a ∈ above L x, a ∈ out
 rc : ∀ x ∈ out, Rc L n x
 st : n ∈ out
theorem WSch.start {L : List ClassR} {U : List Nm} {n : Nm} (h : n ∈ U) : WSch L U n [n] 0 :=
 ⟨by simp, by simpa using h, by simp, rfl, by omega, fun x hx => by rw [List.mem_singleton.1 hx]; exact .refl, by simp⟩
theorem WSch.len {L : List ClassR} {U : List Nm} {n : Nm} {out : List Nm} {i : Nat} (h : WSch L U n out i) : out.length ≤ U.length := nodup_len h.nd h.sub
theorem WSch.step {L : List ClassR} {U : List Nm} {n x : Nm} {out : List Nm} {i : Nat} (h : WSch L U n out i) (hU : U.length ≤ 50) (hC : Closed L U) (hx : out[i]? = some x) : WSch L U n (addNew out (above L x)) (i + 1) := by
 have hl := h.len
 have hi := (List.getElem?_eq_some_iff.1 hx).1
 refine ⟨addNew_nodup _ _ h.nd, ?_, ?_, ?_, ?_, ?_, (addNew_mem _ _ _).2 (Or.inl h.st)⟩
 · intro y hy
   rcases (addNew_mem _ _ _).1 hy with h1 | h1
   · exact h.sub y h1
   · exact hC x (h.sub x (List.mem_of_getElem? hx)) y h1
 · obtain ⟨r, hr⟩ := addNew_pre (above L x) out
   rw [hr, List.length_append]; omega
 · have e := h.eq
   rw [show 100 - i = (100 - (i + 1)) + 1 by omega] at e
   unfold bfs at e
   rw [hx] at e
   exact e
 · intro j y hj hy a ha
   rw [addNew_mem]
   obtain ⟨r, hr⟩ := addNew_pre (above L x) out
   rw [hr, List.getElem?_append_left (by omega)] at hy
   by_cases e : j = i
   · subst e
     rw [hx] at hy
     cases hy
     exact Or.inr ha
   · exact Or.inl (h.cl j y (by omega) hy a ha)
 · intro y hy
   rcases (addNew_mem _ _ _).1 hy with h1 | h1
   · exact h.rc y h1
   · exact .step (h.rc x (List.mem_of_getElem? hx)) h1
theorem WSch.done {L : List ClassR} {U : List Nm} {n : Nm} {out : List Nm} (h : WSch L U n out out.length) : everyU L n = out := by
 rw [← h.eq]
 cases hf : 100 - out.length with
 | zero => rfl
 | succ f =>
   unfold bfs
   simp
theorem WSch.run {L : List ClassR} {U : List Nm} {n : Nm} (hU : U.length ≤ 50) (hC : Closed L U) : ∀ (k : Nat) (out : List Nm) (i : Nat), WSch L U n out i → U.length - i ≤ k → ∃ out, WSch L U n out out.length
 | 0, out, i, h, hk => by
   have := h.len
   have hi : i = out.length := by have := h.le; omega
   subst hi
   exact ⟨out, h⟩
 | k + 1, out, i, h, hk => by
   by_cases hi : i = out.length
   · subst hi; exact ⟨out, h⟩
   · obtain ⟨x, hx⟩ : ∃ x, out[i]? = some x := ⟨_, List.getElem?_eq_getElem (by have := h.le; omega)⟩
     exact WSch.run hU hC k _ _ (h.step hU hC hx) (by omega)
theorem every_sch {L : List ClassR} {U : List Nm} {n : Nm} (hU : U.length ≤ 50) (hC : Closed L U) (hn : n ∈ U) : WSch L U n (everyU L n) (everyU L n).length := by
 obtain ⟨out, h⟩ := WSch.run hU hC U.length [n] 0 (WSch.start hn) (by omega)
 rw [h.done]; exact h
theorem every_mem {L : List ClassR} {n x : Nm} : x ∈ every L n ↔ x ∈ everyU L n := by unfold every; exact List.mem_mergeSort
theorem every_rc {L : List ClassR} {U : List Nm} {n x : Nm} (hU : U.length ≤ 50) (hC : Closed L U) (hn : n ∈ U) : x ∈ every L n ↔ Rc L n x := by
 have h := every_sch hU hC hn
 rw [every_mem]
 constructor
 · exact h.rc x
 · intro hr
   induction hr with
   | refl => exact h.st
   | step _ ha ih =>
     obtain ⟨j, hj, e⟩ := List.getElem_of_mem ih
     have hx := List.getElem?_eq_getElem hj
     rw [e] at hx
     exact h.cl j _ hj hx _ ha
def names (l : List ClassR) : List Nm := (wl l).map (·.nm)
theorem look_some {L : List ClassR} {n : Nm} : (look L n).isSome = true ↔ n ∈ L.map (·.nm) := by
 unfold look
 rw [List.find?_isSome, List.mem_map]
 constructor
 · rintro ⟨c, hc, h⟩; exact ⟨c, hc, by simpa using h⟩
 · rintro ⟨c, hc, h⟩; exact ⟨c, hc, by simpa using h⟩
theorem look_none {L : List ClassR} {n : Nm} (h : n ∉ L.map (·.nm)) : look L n = none := by
 cases hl : look L n with
 | none => rfl
 | some c => exact absurd (look_some.1 (by rw [hl]; rfl)) h
structure Good (l : List ClassR) : Prop where
 len : l.length ≤ 10
 ok : ∀ c ∈ l, classErr c = 0
 new : ∀ j c, l[j]? = some c → c.nm ∉ names (l.take j)
 join : ∀ c ∈ l, joinErr (wl l) c = 0
 round : ∀ c ∈ l, roundB (wl l) c.nm = false
theorem at_mem {l : List ClassR} {c : ClassR} (h : c ∈ l) : ∃ j, j < l.length ∧ l[j]? = some c := by
 obtain ⟨j, hj, rfl⟩ := List.getElem_of_mem h
 exact ⟨j, hj, List.getElem?_eq_getElem hj⟩
theorem inErr_at {l : List ClassR} {j : Nat} {c : ClassR} (h : l[j]? = some c) : inErr l j = if classErr c ≠ 0 then classErr c else if (look (wl (l.take j)) c.nm).isSome then 5 else 0 := by unfold inErr; rw [h]; rfl
theorem jnErr_at {l : List ClassR} {j : Nat} {c : ClassR} (h : l[j]? = some c) : jnErr l j = joinErr (wl l) c := by unfold jnErr; rw [h]; rfl
theorem rdErr_at {l : List ClassR} {j : Nat} {c : ClassR} (h : l[j]? = some c) : rdErr l j = if roundB (wl l) c.nm then 6 else 0 := by unfold rdErr; rw [h]; rfl
theorem in_ok {l : List ClassR} {j : Nat} {c : ClassR} (h : l[j]? = some c) : inErr l j = 0 ↔ classErr c = 0 ∧ c.nm ∉ names (l.take j) := by
 rw [inErr_at h]
 by_cases h1 : classErr c = 0
 · rw [if_neg (by simp [h1])]
   by_cases h2 : (look (wl (l.take j)) c.nm).isSome = true
   · rw [if_pos h2]
     exact ⟨fun h => by omega, fun h => absurd (look_some.1 h2) h.2⟩
   · rw [if_neg h2]
     exact ⟨fun _ => ⟨h1, fun hm => h2 (look_some.2 hm)⟩, fun _ => rfl⟩
 · rw [if_pos h1]
   exact ⟨fun h => absurd h h1, fun h => absurd h.1 h1⟩
theorem readErr_zero (l : List ClassR) : readErr l = 0 ↔ Good l := by
 unfold readErr
 by_cases h1 : 10 < l.length
 · rw [if_pos h1]; exact ⟨fun h => by omega, fun h => by have := h.len; omega⟩
 rw [if_neg h1]
 by_cases h2 : firstNZ (inErr l) l.length = 0
 · rw [if_neg (by simp [h2])]
   have h2' := (firstNZ_zero _ _).1 h2
   by_cases h3 : firstNZ (jnErr l) l.length = 0
   · rw [if_neg (by simp [h3])]
     have h3' := (firstNZ_zero _ _).1 h3
     rw [firstNZ_zero]
     constructor
     · intro h4
       refine ⟨by omega, ?_, ?_, ?_, ?_⟩
       · intro c hc
         obtain ⟨j, hj, hx⟩ := at_mem hc
         exact ((in_ok hx).1 (h2' j hj)).1
       · intro j c hx
         exact ((in_ok hx).1 (h2' j (List.getElem?_eq_some_iff.1 hx).1)).2
       · intro c hc
         obtain ⟨j, hj, hx⟩ := at_mem hc
         rw [← jnErr_at hx]; exact h3' j hj
       · intro c hc
         obtain ⟨j, hj, hx⟩ := at_mem hc
         have := h4 j hj
         rw [rdErr_at hx] at this
         cases hr : roundB (wl l) c.nm with
         | false => rfl
         | true => rw [hr] at this; simp at this
     · intro hg j hj
       rw [rdErr_at (List.getElem?_eq_getElem hj), hg.round _ (List.getElem_mem hj)]
       rfl
   · rw [if_pos h3]
     exact ⟨fun h => absurd h h3, fun hg => absurd ((firstNZ_zero _ _).2 (fun j hj => by rw [jnErr_at (List.getElem?_eq_getElem hj)]; exact hg.join _ (List.getElem_mem hj))) h3⟩
 · rw [if_pos h2]
   exact ⟨fun h => absurd h h2, fun hg => absurd ((firstNZ_zero _ _).2 (fun j hj => (in_ok (List.getElem?_eq_getElem hj)).2 ⟨hg.ok _ (List.getElem_mem hj), hg.new j _ (List.getElem?_eq_getElem hj)⟩)) h2⟩
theorem join_parts {L : List ClassR} {c : ClassR} (h : joinErr L c = 0) : c.sup ≠ [] ∧ (look L c.sup).isSome = true ∧ (∀ f ∈ c.faces, (look L f).isSome = true) ∧ hasErr L c.sup false = 0 ∧ (∀ f ∈ c.faces, hasErr L f true = 0) ∧ (c.face = true → c.sup = objN) := by
 unfold joinErr at h
 split at h
 · omega
 rename_i h1
 split at h
 · omega
 rename_i h2
 split at h
 · rename_i h3; exact absurd h h3
 rename_i h3
 split at h
 · rename_i h4; exact absurd h h4
 rename_i h4
 split at h
 · rename_i h5; exact absurd h h5
 rename_i h5
 split at h
 · omega
 rename_i h6
 refine ⟨h1, by cases hl : look L c.sup with | none => rw [hl] at h2; simp at h2 | some d => rfl, ?_, by omega, ?_, ?_⟩
 · intro f hf
   obtain ⟨j, hj, rfl⟩ := List.getElem_of_mem hf
   have := (firstNZ_zero _ _).1 (show firstNZ (isErr L c.faces) c.faces.length = 0 by omega) j hj
   unfold isErr at this
   rw [List.getElem?_eq_getElem hj] at this
   simp only [Option.elim] at this
   split at this
   · assumption
   · omega
 · intro f hf
   obtain ⟨j, hj, rfl⟩ := List.getElem_of_mem hf
   have := (firstNZ_zero _ _).1 (show firstNZ (facErr L c.faces) c.faces.length = 0 by omega) j hj
   unfold facErr at this
   rw [List.getElem?_eq_getElem hj] at this
   exact this
 · intro hf
   by_cases hs : c.sup = objN
   · exact hs
   · exact absurd ⟨hf, hs⟩ h6
theorem above_names {l : List ClassR} (hj : ∀ c ∈ l, joinErr (wl l) c = 0) (x : Nm) : ∀ a ∈ above (wl l) x, a ∈ names l := by
 intro a ha
 unfold above at ha
 cases hl : look (wl l) x with
 | none => rw [hl] at ha; simp at ha
 | some c =>
   rw [hl] at ha
   simp only [Option.elim] at ha
   obtain ⟨_, hm⟩ := find_name hl
   unfold wl at hm
   simp only [List.mem_cons] at hm
   rcases hm with rfl | rfl | hm
   · simp [aboveC, objC] at ha
   · simp [aboveC, fltC, objN] at ha
     rw [ha]
     simp [names, wl, objC, objN]
   · obtain ⟨_, h2, h3, _⟩ := join_parts (hj c hm)
     unfold aboveC at ha
     split at ha
     · exact look_some.1 (h3 a ha)
     · rcases List.mem_cons.1 ha with rfl | ha
       · exact look_some.1 h2
       · exact look_some.1 (h3 a ha)
theorem closed_names {l : List ClassR} (hj : ∀ c ∈ l, joinErr (wl l) c = 0) (n : Nm) : Closed (wl l) (n :: names l) := fun x _ a ha => List.mem_cons_of_mem _ (above_names hj x a ha)
theorem names_len (l : List ClassR) : (names l).length = l.length + 2 := by simp [names, wl]
inductive Rs (L : List ClassR) (n : Nm) : Nm → Prop
 | refl : Rs L n n
 | step {x : Nm} {c : ClassR} : Rs L n x → look L x = some c → c.sup ≠ [] → Rs L n c.sup
theorem Rs.trans {L : List ClassR} {a b c : Nm} (h : Rs L a b) (k : Rs L b c) : Rs L a c := by
 induction k with
 | refl => exact h
 | step _ h1 h2 ih => exact .step ih h1 h2
theorem sup_above {L : List ClassR} {x : Nm} {c : ClassR} (h : look L x = some c) (hs : c.sup ≠ []) : c.sup ∈ above L x := by
 unfold above
 rw [h]
 simp [aboveC, hs]
theorem Rs.rc {L : List ClassR} {n x : Nm} (h : Rs L n x) : Rc L n x := by
 induction h with
 | refl => exact .refl
 | step _ h1 h2 ih => exact .step ih (sup_above h1 h2)
theorem good_names {l : List ClassR} (hg : Good l) : (names l).length ≤ 12 := by rw [names_len]; have := hg.len; omega
theorem good_every {l : List ClassR} (hg : Good l) (n x : Nm) : x ∈ every (wl l) n ↔ Rc (wl l) n x :=
 every_rc (U := n :: names l) (by have := good_names hg; simp; omega) (closed_names hg.join n) (by simp)
theorem rc_names {l : List ClassR} (hj : ∀ c ∈ l, joinErr (wl l) c = 0) {n x : Nm} (h : Rc (wl l) n x) : x = n ∨ x ∈ names l := by
 induction h with
 | refl => exact Or.inl rfl
 | step _ ha _ => exact Or.inr (above_names hj _ _ ha)
theorem rc_obj {l : List ClassR} {x : Nm} (h : Rc (wl l) objN x) : x = objN := by
 induction h with
 | refl => rfl
 | step _ ha ih =>
   subst ih
   have e : look (wl l) objN = some objC := by simp [look, wl, objC]
   unfold above at ha
   rw [e] at ha
   simp [aboveC, objC] at ha
theorem acyclic {l : List ClassR} (hg : Good l) {x a : Nm} (ha : a ∈ above (wl l) x) : ¬ Rc (wl l) a x := by
 intro hr
 have ha' := ha
 unfold above at ha'
 cases hl : look (wl l) x with
 | none => rw [hl] at ha'; simp at ha'
 | some c =>
   obtain ⟨hn, hm⟩ := find_name hl
   unfold wl at hm
   simp only [List.mem_cons] at hm
   rcases hm with rfl | rfl | hm
   · rw [hl] at ha'; simp [aboveC, objC] at ha'
   · rw [hl] at ha'
     simp [aboveC, fltC, objN] at ha'
     have : a = objN := ha'
     subst this
     have := rc_obj hr
     rw [← hn] at this
     simp [fltC, fltN, objN] at this
   · have h1 := hg.round c hm
     unfold roundB at h1
     rw [List.any_eq_false] at h1
     rw [hn] at h1
     have h2 := h1 a ha
     rw [List.contains_iff_mem, good_every hg] at h2
     exact h2 hr
structure Ln (l : List ClassR) (n : Nm) (out : List Nm) (cur : Nm) : Prop where
 nd : out.Nodup
 sub : ∀ x ∈ out, x = n ∨ x ∈ names l
 pos : 1 ≤ out.length
 eq : line (wl l) n = out ++ supers (wl l) (101 - out.length) cur
 rs : ∀ x ∈ out, Rs (wl l) x cur
 from_ : ∀ x ∈ out, Rs (wl l) n x
 cm : cur ∈ out
 nx : ∀ x ∈ out, x = cur ∨ ∀ c, look (wl l) x = some c → c.sup ≠ [] → c.sup ∈ out
theorem Ln.start (l : List ClassR) (n : Nm) : Ln l n [n] n := ⟨by simp, by simp, by simp, by simp [line], fun x hx => by rw [List.mem_singleton.1 hx]; exact .refl, fun x hx => by rw [List.mem_singleton.1 hx]; exact .refl, by simp, fun x hx => Or.inl (List.mem_singleton.1 hx)⟩
theorem Ln.len {l : List ClassR} {n cur : Nm} {out : List Nm} (hg : Good l) (h : Ln l n out cur) : out.length ≤ 13 := by
 have := nodup_len (U := n :: names l) h.nd (fun x hx => by rcases h.sub x hx with h1 | h1 <;> simp [h1])
 have := good_names hg
 simp at *
 omega
theorem Ln.step {l : List ClassR} {n cur : Nm} {out : List Nm} {c : ClassR} (hg : Good l) (h : Ln l n out cur) (hc : look (wl l) cur = some c) (hs : c.sup ≠ []) : Ln l n (out ++ [c.sup]) c.sup := by
 have hl := h.len hg
 have hp := h.pos
 have hab := sup_above hc hs
 refine ⟨?_, ?_, by simp, ?_, ?_, ?_, by simp, ?_⟩
 · rw [List.nodup_append]
   refine ⟨h.nd, by simp, ?_⟩
   intro x hx y hy e
   rw [List.mem_singleton] at hy
   subst hy
   subst e
   exact acyclic hg hab (h.rs _ hx).rc
 · intro x hx
   rcases List.mem_append.1 hx with h1 | h1
   · exact h.sub x h1
   · rw [List.mem_singleton.1 h1]; exact Or.inr (above_names hg.join _ _ hab)
 · rw [h.eq, List.length_append, List.length_singleton]
   rw [show 101 - out.length = (101 - (out.length + 1)) + 1 by omega]
   conv => lhs; unfold supers
   rw [hc]
   simp only [hs, if_false]
   simp
 · intro x hx
   rcases List.mem_append.1 hx with h1 | h1
   · exact .step (h.rs x h1) hc hs
   · rw [List.mem_singleton.1 h1]; exact .refl
 · intro x hx
   rcases List.mem_append.1 hx with h1 | h1
   · exact h.from_ x h1
   · rw [List.mem_singleton.1 h1]; exact .step (h.from_ cur h.cm) hc hs
 · intro x hx
   rcases List.mem_append.1 hx with h1 | h1
   · right
     intro d hd hds
     rcases h.nx x h1 with e | e
     · subst e
       rw [hc] at hd
       cases hd
       simp
     · exact List.mem_append_left _ (e d hd hds)
   · exact Or.inl (List.mem_singleton.1 h1)
def atTop (L : List ClassR) (cur : Nm) : Prop := look L cur = none ∨ ∃ c, look L cur = some c ∧ c.sup = []
theorem Ln.done {l : List ClassR} {n cur : Nm} {out : List Nm} (hg : Good l) (h : Ln l n out cur) (ht : atTop (wl l) cur) : line (wl l) n = out := by
 have hl := h.len hg
 rw [h.eq, show 101 - out.length = (100 - out.length) + 1 by omega]
 unfold supers
 rcases ht with h1 | ⟨c, h1, h2⟩
 · rw [h1]; simp
 · rw [h1]; simp [h2]
theorem Ln.run {l : List ClassR} (hg : Good l) {n : Nm} : ∀ (k : Nat) (out : List Nm) (cur : Nm), Ln l n out cur → 13 - out.length ≤ k → ∃ cur, Ln l n (line (wl l) n) cur ∧ atTop (wl l) cur
 | 0, out, cur, h, hk => by
   have hl := h.len hg
   by_cases ht : atTop (wl l) cur
   · exact ⟨cur, by rw [h.done hg ht]; exact h, ht⟩
   · cases hlk : look (wl l) cur with
     | none => exact absurd (Or.inl hlk) ht
     | some c =>
       by_cases hs : c.sup = []
       · exact absurd (Or.inr ⟨c, hlk, hs⟩) ht
       · have := (h.step hg hlk hs).len hg
         simp at this
         omega
 | k + 1, out, cur, h, hk => by
   by_cases ht : atTop (wl l) cur
   · exact ⟨cur, by rw [h.done hg ht]; exact h, ht⟩
   · cases hlk : look (wl l) cur with
     | none => exact absurd (Or.inl hlk) ht
     | some c =>
       by_cases hs : c.sup = []
       · exact absurd (Or.inr ⟨c, hlk, hs⟩) ht
       · exact Ln.run hg k _ _ (h.step hg hlk hs) (by simp; omega)
theorem line_end {l : List ClassR} (hg : Good l) (n : Nm) : ∃ cur, Ln l n (line (wl l) n) cur ∧ atTop (wl l) cur := Ln.run hg 13 [n] n (Ln.start l n) (by simp)
theorem line_rs {l : List ClassR} (hg : Good l) (n x : Nm) : x ∈ line (wl l) n ↔ Rs (wl l) n x := by
 obtain ⟨cur, h, ht⟩ := line_end hg n
 constructor
 · exact h.from_ x
 · intro hr
   induction hr with
   | refl => unfold line; simp
   | step hxr h1 h2 ih =>
     rename_i x c
     rcases h.nx x ih with e | e
     · subst e
       rcases ht with h3 | ⟨d, h3, h4⟩
       · rw [h1] at h3; cases h3
       · rw [h1] at h3
         cases h3
         exact absurd h4 h2
     · exact e c h1 h2
def startUp (L : List ClassR) (us : List Nm) : List Nm := us.foldl (fun out u => addNew out (line L u).reverse) [objN]
theorem line_obj {l : List ClassR} (hg : Good l) {n : Nm} (hn : n ∈ names l) : Rs (wl l) n objN := by
 obtain ⟨cur, h, ht⟩ := line_end hg n
 have hr := h.from_ cur h.cm
 have hc : cur ∈ names l := by
   rcases rc_names hg.join hr.rc with e | e
   · rw [e]; exact hn
   · exact e
 have hs := look_some.2 hc
 rcases ht with h1 | ⟨c, h1, h2⟩
 · unfold names at hc
   rw [h1] at hs
   cases hs
 · obtain ⟨e, hm⟩ := find_name h1
   unfold wl at hm
   simp only [List.mem_cons] at hm
   rcases hm with rfl | rfl | hm
   · have : cur = objN := e.symm
     rw [← this]; exact hr
   · simp [fltC, objN] at h2
   · exact absurd h2 (join_parts (hg.join c hm)).1
section
variable {l : List ClassR} {b : Nat} {B : ClassR} {s : Nm}
end
end Go.Proofs.YtddbnboicmaooaaGreatDoor
