import Derived.Lib.SlTrimSet
import Derived.Lib.IndexLaws
import Derived.IntWalk
namespace Go.Proofs.YtbnkckjdgpiggaaGreatDoor
set_option linter.unusedVariables false
set_option linter.unusedSimpArgs false
open Go.Lib
def z55 (b : UInt8) : Bool := (decide (97 <= b.toNat) && decide (b.toNat <= 122)) || (decide (65 <= b.toNat) && decide (b.toNat <= 90)) || b.toNat == 95
def zwx (b : UInt8) : Bool := decide (48 <= b.toNat) && decide (b.toNat <= 57)
def zor : List UInt8 -> Bool
 | [] => false
 | b :: _ => zwx b
def zr (l : List UInt8) : Bool := !l.isEmpty && decide (l.length <= 20) && l.all (fun b => z55 b || zwx b) && !zor l
def zd0 : List UInt8 := [97, 98, 99, 100, 101, 102, 103, 104, 105, 106, 107, 108, 109, 110, 111, 112, 113, 114, 115, 116, 117, 118, 119, 120, 121, 122, 65, 66, 67, 68, 69, 70, 71, 72, 73, 74, 75, 76, 77, 78, 79, 80, 81, 82, 83, 84, 85, 86, 87, 88, 89, 90, 95, 48, 49, 50, 51, 52, 53, 54, 55, 56, 57]
theorem zpb (p : UInt8 -> Bool) (h : (List.range 256).all (fun n => p n.toUInt8) = true) (b : UInt8) : p b = true := by
 have h1 := List.all_eq_true.1 h b.toNat (List.mem_range.2 b.toNat_lt)
 have e : b.toNat.toUInt8 = b := by
   apply UInt8.toNat_inj.1
   simp
 rw [e] at h1
 exact h1
theorem zkn (b : UInt8) : zd0.contains b = (z55 b || zwx b) := by
 have h := zpb (fun b => zd0.contains b == (z55 b || zwx b)) (by decide +kernel) b
 exact eq_of_beq h
theorem zgc {α : Type} (p : α -> Bool) (l : List α) : l.dropWhile p = [] ↔ l.all p = true := by
 induction l with
 | nil => simp
 | cons x r ih =>
   by_cases h : p x = true
   . simp [List.dropWhile, h, ih]
   . simp [List.dropWhile, h]
theorem zyt (l cs : List UInt8) : trimS l cs = [] ↔ l.all (cs.contains ·) = true := by
 unfold trimS trimLeftS trimRightS
 rw [zgc]
 constructor
 . intro h
   by_cases e : l.all (cs.contains ·) = true
   . exact e
   . exfalso
     have h2 : (l.reverse.dropWhile (cs.contains ·)) = [] := by
       cases hd : l.reverse.dropWhile (cs.contains ·) with
       | nil => rfl
       | cons x r =>
         exfalso
         have hx : cs.contains x = true := by
           rw [hd] at h
           have := List.all_eq_true.1 h x (by simp)
           simpa using this
         have hn := List.head?_dropWhile_not (cs.contains ·) l.reverse
         rw [hd] at hn
         simp at hn
         simp [hn] at hx
     rw [zgc] at h2
     rw [List.all_reverse] at h2
     exact e h2
 . intro h
   have h2 : (l.reverse.dropWhile (cs.contains ·)) = [] := by
     rw [zgc, List.all_reverse]; exact h
   rw [h2]; rfl
theorem zpy (l : List UInt8) : (trimS l zd0).isEmpty = l.all (fun b => z55 b || zwx b) := by
 have h := zyt l zd0
 have e : l.all (zd0.contains ·) = l.all (fun b => z55 b || zwx b) := by
   congr 1; funext b; exact zkn b
 rw [e] at h
 rw [Bool.eq_iff_iff, List.isEmpty_iff]
 exact h
def zl8 : List UInt8 := [48, 49, 50, 51, 52, 53, 54, 55, 56, 57]
theorem zlb (b : UInt8) : zl8.contains b = zwx b := by
 have h := zpb (fun b => zl8.contains b == zwx b) (by decide +kernel) b
 exact eq_of_beq h
theorem zmq (b : UInt8) : decide (0 <= indexByte zl8 b) = zwx b := by
 rw [<- zlb]
 have h := zpb (fun b => decide (0 <= indexByte zl8 b) == zl8.contains b) (by decide +kernel) b
 exact eq_of_beq h
theorem zss {l : List UInt8} (h : zr l = true) : ∃ b r, l = b :: r /\ (b :: r).length <= 20 /\ (trimS (b :: r) zd0) = [] /\ zwx b = false := by
 cases l with
 | nil => simp [zr] at h
 | cons b r =>
   simp only [zr, Bool.and_eq_true, decide_eq_true_eq, Bool.not_eq_true', zor] at h
   obtain ⟨⟨⟨_, h1⟩, h2⟩, h3⟩ := h
   refine ⟨b, r, rfl, h1, ?_, h3⟩
   have := zpy (b :: r)
   rw [h2] at this
   exact List.isEmpty_iff.1 this
theorem zpz {l : List UInt8} (h : zr l = false) : l = [] \/ 20 < l.length \/ (∃ b r, l = b :: r /\ (b :: r).length <= 20 /\ trimS (b :: r) zd0 ≠ []) \/ (∃ b r, l = b :: r /\ (b :: r).length <= 20 /\ trimS (b :: r) zd0 = [] /\ zwx b = true) := by
 cases l with
 | nil => exact Or.inl rfl
 | cons b r =>
   by_cases h1 : (b :: r).length <= 20
   . have ht := zpy (b :: r)
     by_cases h2 : trimS (b :: r) zd0 = []
     . refine Or.inr (Or.inr (Or.inr ⟨b, r, rfl, h1, h2, ?_⟩))
       rw [h2] at ht
       simp only [zr, <- ht, zor, h1] at h
       simpa using h
     . exact Or.inr (Or.inr (Or.inl ⟨b, r, rfl, h1, h2⟩))
   . exact Or.inr (Or.inl (by omega))
def zi (t : List UInt8) : Prop :=
 ∃ P X : List UInt8, t = P ++ X /\ (∀ b ∈ P, b = 91) /\ P.length <= 3 /\ (X = [73] \/ X = [74] \/ ∃ n, zr n = true /\ X = 76 :: (n ++ [59]))
theorem zij {n : List UInt8} (h : zr n = true) : ∀ b ∈ n, b ≠ 59 := by
 intro b hb e
 subst e
 simp only [zr, Bool.and_eq_true] at h
 have := List.all_eq_true.1 h.1.2 59 hb
 revert this; decide
theorem zdm {n : List UInt8} (h : zr n = true) : 1 <= n.length /\ n.length <= 20 := by
 simp only [zr, Bool.and_eq_true, decide_eq_true_eq] at h
 refine ⟨?_, h.1.1.2⟩
 cases n with
 | nil => simp at h
 | cons x r => simp
theorem zeb {t : List UInt8} (h : zi t) : 1 <= t.length /\ t.length <= 25 := by
 obtain ⟨P, X, rfl, _, hP, h | h | ⟨n, hn, h⟩⟩ := h
 . subst h; simp; omega
 . subst h; simp; omega
 . subst h
   have := zdm hn
   simp
   omega
theorem zm8 (P X : List UInt8) (hP : ∀ b ∈ P, b = 91) (hX : ∀ c r, X = c :: r -> c ≠ 91) : trimLeftB (P ++ X) 91 = X := by
 unfold trimLeftB
 induction P with
 | nil =>
   cases X with
   | nil => rfl
   | cons c r =>
     have := hX c r rfl
     simp [List.dropWhile, this]
 | cons b P ih =>
   have hb := hP b (by simp)
   subst hb
   simp only [List.cons_append, List.dropWhile]
   exact ih (fun b hb => hP b (by simp [hb]))
theorem zw2 (l : List UInt8) : ∃ P X : List UInt8, l = P ++ X /\ (∀ b ∈ P, b = 91) /\ (∀ c r, X = c :: r -> c ≠ 91) := by
 induction l with
 | nil => exact ⟨[], [], rfl, by simp, by simp⟩
 | cons b l ih =>
   by_cases hb : b = 91
   . obtain ⟨P, X, rfl, hP, hX⟩ := ih
     exact ⟨b :: P, X, rfl, by simpa [hb] using hP, hX⟩
   . exact ⟨[], b :: l, rfl, by simp, fun c r e => by cases e; exact hb⟩
theorem zl6 : ∀ (P Q X Y : List UInt8), (∀ b ∈ P, b = 91) -> (∀ b ∈ Q, b = 91) -> (∀ c r, X = c :: r -> c ≠ 91) -> (∀ c r, Y = c :: r -> c ≠ 91) -> P ++ X = Q ++ Y -> P = Q /\ X = Y
 | [], [], X, Y, _, _, _, _, h => ⟨rfl, h⟩
 | [], q :: Q, X, Y, _, hQ, hX, _, h => by
   exact absurd (hQ q (by simp)) (hX q (Q ++ Y) h)
 | p :: P, [], X, Y, hP, _, _, hY, h => by
   exact absurd (hP p (by simp)) (hY p (P ++ X) h.symm)
 | p :: P, q :: Q, X, Y, hP, hQ, hX, hY, h => by
   simp only [List.cons_append, List.cons.injEq] at h
   obtain ⟨e1, e2⟩ := h
   obtain ⟨e3, e4⟩ := zl6 P Q X Y (fun b hb => hP b (by simp [hb])) (fun b hb => hQ b (by simp [hb])) hX hY e2
   exact ⟨by rw [e1, e3], e4⟩
theorem zlq : ∀ (n m r s : List UInt8), (∀ b ∈ n, b ≠ 59) -> (∀ b ∈ m, b ≠ 59) -> n ++ 59 :: r = m ++ 59 :: s -> n = m /\ r = s
 | [], [], r, s, _, _, h => by simpa using h
 | [], y :: m, r, s, _, hm, h => by
   simp only [List.nil_append, List.cons_append, List.cons.injEq] at h
   exact absurd h.1.symm (hm y (by simp))
 | x :: n, [], r, s, hn, _, h => by
   simp only [List.nil_append, List.cons_append, List.cons.injEq] at h
   exact absurd h.1 (hn x (by simp))
 | x :: n, y :: m, r, s, hn, hm, h => by
   simp only [List.cons_append, List.cons.injEq] at h
   obtain ⟨e1, e2⟩ := zlq n m r s (fun b hb => hn b (by simp [hb])) (fun b hb => hm b (by simp [hb])) h.2
   exact ⟨by rw [h.1, e1], e2⟩
theorem zqe {t t' r r' : List UInt8} (h : zi t) (h' : zi t') (e : t ++ r = t' ++ r') : t = t' /\ r = r' := by
 obtain ⟨P, X, rfl, hP, _, hX⟩ := h
 obtain ⟨Q, Y, rfl, hQ, _, hY⟩ := h'
 rw [List.append_assoc, List.append_assoc] at e
 have nx : ∀ c s, X ++ r = c :: s -> c ≠ 91 := by
   intro c s e2
   rcases hX with rfl | rfl | ⟨n, _, rfl⟩ <;> (simp only [List.cons_append, List.nil_append, List.cons.injEq] at e2; rw [<- e2.1]; decide)
 have ny : ∀ c s, Y ++ r' = c :: s -> c ≠ 91 := by
   intro c s e2
   rcases hY with rfl | rfl | ⟨n, _, rfl⟩ <;> (simp only [List.cons_append, List.nil_append, List.cons.injEq] at e2; rw [<- e2.1]; decide)
 obtain ⟨rfl, e3⟩ := zl6 P Q _ _ hP hQ nx ny e
 have key : X = Y /\ r = r' := by
   rcases hX with rfl | rfl | ⟨n, hn, rfl⟩ <;> rcases hY with rfl | rfl | ⟨m, hm, rfl⟩ <;> simp only [List.cons_append, List.nil_append, List.cons.injEq, List.append_assoc] at e3
   . exact ⟨rfl, e3.2⟩
   . exact absurd e3.1 (by decide)
   . exact absurd e3.1 (by decide)
   . exact absurd e3.1 (by decide)
   . exact ⟨rfl, e3.2⟩
   . exact absurd e3.1 (by decide)
   . exact absurd e3.1 (by decide)
   . exact absurd e3.1 (by decide)
   . obtain ⟨rfl, e4⟩ := zlq n m r r' (zij hn) (zij hm) e3.2
     exact ⟨rfl, e4⟩
 exact ⟨by rw [key.1], key.2⟩
theorem zgv : ∀ (n r : List UInt8) (c : UInt8), (∀ b ∈ n, b ≠ c) -> indexByte (n ++ c :: r) c = n.length
 | [], r, c, _ => by simp [indexByte]
 | x :: n, r, c, h => by
   have h1 := zgv n r c (fun b hb => h b (by simp [hb]))
   have hx : (x == c) = false := by simpa using h x (by simp)
   simp only [List.cons_append, indexByte, hx, Bool.false_eq_true, if_false, h1]
   rw [if_neg (by simp)]
   simp
theorem zi9 : ∀ (n : List UInt8) (c : UInt8), (∀ b ∈ n, b ≠ c) -> indexByte n c = -1
 | [], c, _ => by simp [indexByte]
 | x :: n, c, h => by
   have h1 := zi9 n c (fun b hb => h b (by simp [hb]))
   have hx : (x == c) = false := by simpa using h x (by simp)
   simp only [indexByte, hx, h1]
   simp
theorem zv5 (l : List UInt8) : (∀ b ∈ l, b ≠ 59) \/ ∃ n r, l = n ++ 59 :: r /\ ∀ b ∈ n, b ≠ 59 := by
 induction l with
 | nil => exact Or.inl (by simp)
 | cons b l ih =>
   by_cases hb : b = 59
   . exact Or.inr ⟨[], l, by rw [hb]; rfl, by simp⟩
   . rcases ih with h | ⟨n, r, rfl, h⟩
     . refine Or.inl ?_
       intro x hx
       rcases List.mem_cons.1 hx with h2 | h2
       . rw [h2]; exact hb
       . exact h x h2
     . refine Or.inr ⟨b :: n, r, rfl, ?_⟩
       intro x hx
       rcases List.mem_cons.1 hx with h2 | h2
       . rw [h2]; exact hb
       . exact h x h2
theorem z2l (l : List UInt8) : (∃ t r, l = t ++ r /\ zi t) \/
   (∃ P X, l = P ++ X /\ (∀ b ∈ P, b = 91) /\ (∀ c r, X = c :: r -> c ≠ 91) /\
     (3 < P.length \/ (P.length <= 3 /\ X = []) \/ (P.length <= 3 /\ ∃ c r, X = c :: r /\ c ≠ 73 /\ c ≠ 74 /\ c ≠ 76) \/ (P.length <= 3 /\ ∃ r, X = 76 :: r /\ ∀ b ∈ r, b ≠ 59) \/
       (P.length <= 3 /\ ∃ n r, X = 76 :: (n ++ 59 :: r) /\ (∀ b ∈ n, b ≠ 59) /\ zr n = false))) := by
 obtain ⟨P, X, rfl, hP, hX⟩ := zw2 l
 by_cases h3 : P.length <= 3
 . cases X with
   | nil => exact Or.inr ⟨P, [], rfl, hP, hX, Or.inr (Or.inl ⟨h3, rfl⟩)⟩
   | cons c r =>
     by_cases c1 : c = 73
     . exact Or.inl ⟨P ++ [73], r, by simp [c1], P, [73], rfl, hP, h3, Or.inl rfl⟩
     by_cases c2 : c = 74
     . exact Or.inl ⟨P ++ [74], r, by simp [c2], P, [74], rfl, hP, h3, Or.inr (Or.inl rfl)⟩
     by_cases c3 : c = 76
     . subst c3
       rcases zv5 r with h | ⟨n, s, rfl, h⟩
       . exact Or.inr ⟨P, 76 :: r, rfl, hP, hX, Or.inr (Or.inr (Or.inr (Or.inl ⟨h3, r, rfl, h⟩)))⟩
       . cases hn : zr n with
         | true => exact Or.inl ⟨P ++ 76 :: (n ++ [59]), s, by simp, P, _, rfl, hP, h3, Or.inr (Or.inr ⟨n, hn, rfl⟩)⟩
         | false => exact Or.inr ⟨P, _, rfl, hP, hX, Or.inr (Or.inr (Or.inr (Or.inr ⟨h3, n, s, rfl, h, hn⟩)))⟩
     . exact Or.inr ⟨P, c :: r, rfl, hP, hX, Or.inr (Or.inr (Or.inl ⟨h3, c, r, rfl, c1, c2, c3⟩))⟩
 . exact Or.inr ⟨P, X, rfl, hP, hX, Or.inl (by omega)⟩
theorem z2a {t r P X : List UInt8} (ht : zi t) (e : t ++ r = P ++ X) (hP : ∀ b ∈ P, b = 91) (hX : ∀ c r, X = c :: r -> c ≠ 91)
   (h : 3 < P.length \/ (P.length <= 3 /\ X = []) \/ (P.length <= 3 /\ ∃ c r, X = c :: r /\ c ≠ 73 /\ c ≠ 74 /\ c ≠ 76) \/ (P.length <= 3 /\ ∃ r, X = 76 :: r /\ ∀ b ∈ r, b ≠ 59) \/
       (P.length <= 3 /\ ∃ n r, X = 76 :: (n ++ 59 :: r) /\ (∀ b ∈ n, b ≠ 59) /\ zr n = false)) : False := by
 obtain ⟨Q, Y, rfl, hQ, hQ3, hY⟩ := ht
 rw [List.append_assoc] at e
 have ny : ∀ c s, Y ++ r = c :: s -> c ≠ 91 := by
   intro c s e2
   rcases hY with rfl | rfl | ⟨n, _, rfl⟩ <;> (simp only [List.cons_append, List.nil_append, List.cons.injEq] at e2; rw [<- e2.1]; decide)
 obtain ⟨rfl, e3⟩ := zl6 Q P _ _ hQ hP ny hX e
 rcases h with h | ⟨_, rfl⟩ | ⟨_, c, s, rfl, c1, c2, c3⟩ | ⟨_, s, rfl, hs⟩ | ⟨_, n, s, rfl, hn, hb⟩
 . omega
 . rcases hY with rfl | rfl | ⟨n, _, rfl⟩ <;> simp at e3
 . rcases hY with rfl | rfl | ⟨n, _, rfl⟩ <;> simp only [List.cons_append, List.nil_append, List.cons.injEq] at e3
   . exact c1 e3.1.symm
   . exact c2 e3.1.symm
   . exact c3 e3.1.symm
 . rcases hY with rfl | rfl | ⟨n, _, rfl⟩ <;> simp only [List.cons_append, List.nil_append, List.cons.injEq] at e3
   . exact absurd e3.1 (by decide)
   . exact absurd e3.1 (by decide)
   . exact hs 59 (by rw [<- e3.2]; simp) rfl
 . rcases hY with rfl | rfl | ⟨m, hm, rfl⟩ <;> simp only [List.cons_append, List.nil_append, List.cons.injEq, List.append_assoc] at e3
   . exact absurd e3.1 (by decide)
   . exact absurd e3.1 (by decide)
   . obtain ⟨rfl, _⟩ := zlq m n r s (zij hm) hn e3.2
     rw [hm] at hb; cases hb
def zf4 (g : List UInt8) : Prop := g = [86] \/ zi g
def zk (m : List UInt8) (A : List (List UInt8)) (g : List UInt8) : Prop :=
 m = 40 :: (A.flatten ++ 41 :: g) /\ (∀ t ∈ A, zi t) /\ A.length <= 5 /\ zf4 g
theorem zrb {t r s : List UInt8} (h : zi t) (e : t ++ r = 41 :: s) : False := by
 obtain ⟨P, X, rfl, hP, _, hX⟩ := h
 cases P with
 | nil =>
   rcases hX with rfl | rfl | ⟨n, _, rfl⟩ <;> simp at e
 | cons b P =>
   have := hP b (by simp)
   subst this
   simp at e
theorem zg6 : ∀ (A A' : List (List UInt8)) (rest g : List UInt8), (∀ t ∈ A, zi t) -> (∀ t ∈ A', zi t) -> A.flatten ++ rest = A'.flatten ++ 41 :: g -> ∃ A'', A' = A ++ A'' /\ rest = A''.flatten ++ 41 :: g
 | [], A', rest, g, _, _, h => ⟨A', rfl, by simpa using h⟩
 | t :: A, [], rest, g, h1, _, h => by
   simp only [List.flatten_cons, List.flatten_nil, List.nil_append, List.append_assoc] at h
   exact absurd h (fun h => zrb (h1 t (by simp)) h)
 | t :: A, t' :: A', rest, g, h1, h2, h => by
   simp only [List.flatten_cons, List.append_assoc] at h
   obtain ⟨rfl, h3⟩ := zqe (h1 t (by simp)) (h2 t' (by simp)) h
   obtain ⟨A'', rfl, h4⟩ := zg6 A A' rest g (fun x hx => h1 x (by simp [hx])) (fun x hx => h2 x (by simp [hx])) h3
   exact ⟨A'', rfl, h4⟩
theorem zn8 {A A' : List (List UInt8)} {g g' : List UInt8} (h1 : ∀ t ∈ A, zi t) (h2 : ∀ t ∈ A', zi t) (h : A.flatten ++ 41 :: g = A'.flatten ++ 41 :: g') : A = A' /\ g = g' := by
 obtain ⟨A'', rfl, h4⟩ := zg6 A A' _ g' h1 h2 h
 cases A'' with
 | nil =>
   simp at h4
   exact ⟨by simp, h4⟩
 | cons t r =>
   exfalso
   simp only [List.flatten_cons, List.append_assoc] at h4
   exact zrb (h2 t (by simp)) h4.symm
theorem zap {m : List UInt8} {A A' : List (List UInt8)} {g g' : List UInt8} (h : zk m A g) (h' : zk m A' g') : A = A' /\ g = g' := by
 obtain ⟨rfl, h1, _, _⟩ := h
 obtain ⟨e, h2, _, _⟩ := h'
 simp only [List.cons.injEq, true_and] at e
 exact zn8 h1 h2 e
theorem zl2 {s rest : List UInt8} {A : List (List UInt8)} (h1 : ∀ t ∈ A, zi t) (e : s = A.flatten ++ rest) (hn : ∀ t r, rest = t ++ r -> ¬ zi t) (h41 : ∀ g, rest ≠ 41 :: g) : ∀ A' g', ¬ zk (40 :: s) A' g' := by
 rintro A' g' ⟨e2, h2, _, _⟩
 simp only [List.cons.injEq, true_and] at e2
 rw [e] at e2
 obtain ⟨A'', rfl, h4⟩ := zg6 A A' rest g' h1 h2 e2
 cases A'' with
 | nil => exact h41 g' (by simpa using h4)
 | cons t r =>
   simp only [List.flatten_cons, List.append_assoc] at h4
   exact hn t _ h4 (h2 t (by simp))
theorem zg3 {s g : List UInt8} {A : List (List UInt8)} (h1 : ∀ t ∈ A, zi t) (e : s = A.flatten ++ 41 :: g) (hw : 5 < A.length \/ ¬ zf4 g) : ∀ A' g', ¬ zk (40 :: s) A' g' := by
 rintro A' g' ⟨e2, h2, h3, h4⟩
 simp only [List.cons.injEq, true_and] at e2
 rw [e] at e2
 obtain ⟨rfl, rfl⟩ := zn8 h1 h2 e2
 rcases hw with h | h
 . omega
 . exact h h4
theorem zr2 {m : List UInt8} (h : ∀ s, m ≠ 40 :: s) : ∀ A' g', ¬ zk m A' g' := fun A' g' h2 => h _ h2.1
theorem zuc {t : List UInt8} (h : zi t) : 0 < t.length := by have := (zeb h).1; omega
theorem zl7 : ∀ (A : List (List UInt8)), (∀ t ∈ A, zi t) -> A.length <= A.flatten.length
 | [], _ => by simp
 | t :: A, h => by
   have h1 := zuc (h t (by simp))
   have h2 := zl7 A (fun x hx => h x (by simp [hx]))
   simp only [List.length_cons, List.flatten_cons, List.length_append]
   omega
open Go.RowKit
structure zal where
 op : Int
 a : Int
 b : Int
 ty : List UInt8
 cl : List UInt8
 nm : List UInt8
def zfe (x : zal) : Value := .agg #[.int .i64 x.op, .int .i64 x.a, .int .i64 x.b, .string ⟨⟨x.ty⟩⟩, .string ⟨⟨x.cl⟩⟩, .string ⟨⟨x.nm⟩⟩]
def zcb (op : Int) : Bool := decide (12 <= op) && decide (op <= 14)
def za5 (x : zal) : Bool :=
 if x.op = 2 then !(x.ty == [73]) || (x.a == wrap32 x.a)
 else if x.op = 4 \/ x.op = 5 then decide (0 <= x.a) && decide (x.a < 8)
 else if x.op = 9 then decide (1 <= x.a) && decide (x.a <= 12)
 else !(zcb x.op) || (decide (0 <= x.a) && decide (x.a <= 40) && decide (0 <= x.b) && decide (x.b <= 5))
def zjf (t : List UInt8) : Bool := t == [73] || t == [74]
open Classical in
noncomputable def zbc (x : zal) : Bool :=
 if x.op = 2 \/ x.op = 9 \/ x.op = 10 then zjf x.ty
 else if x.op = 18 \/ x.op = 20 \/ x.op = 21 then decide (zi x.ty) && decide (zi (91 :: x.ty))
 else if x.op = 22 \/ x.op = 23 then decide (zi x.ty) && !(zjf x.ty)
 else if x.op = 24 \/ x.op = 25 then decide (∃ A g, zk x.ty A g)
 else true
def zgh (op : Nat) : List UInt8 :=
 match op with
 | 2 => [65, 84] | 4 => [65] | 5 => [65] | 9 => [65, 84] | 10 => [84] | 12 => [65, 66] | 13 => [65] | 14 => [65] | 15 => [67]
 | 16 => [67, 78] | 17 => [67, 78] | 18 => [84] | 20 => [84] | 21 => [84] | 22 => [84] | 23 => [84] | 24 => [84, 67, 78] | 25 => [84, 67, 78]
 | _ => []
noncomputable def zar (x : zal) : Int :=
 if x.op < 1 \/ 28 < x.op then 1
 else if (!(zgh x.op.toNat).contains 65 && x.a != 0) || (!(zgh x.op.toNat).contains 66 && x.b != 0) || (!(zgh x.op.toNat).contains 84 && x.ty != []) || (!(zgh x.op.toNat).contains 67 && x.cl != []) || (!(zgh x.op.toNat).contains 78 && x.nm != []) then 1
 else if !za5 x then 2
 else if !zbc x || ((zgh x.op.toNat).contains 67 && !zr x.cl) || ((zgh x.op.toNat).contains 78 && !zr x.nm) then 1
 else 0
def zvi : List (List UInt8 × List UInt8) := [([], []), ([110, 111, 112], []), ([112, 117, 115, 104], [65, 84]), ([110, 117, 108, 108], []), ([108, 111, 97, 100], [65]), ([115, 116, 111, 114, 101], [65]), ([112, 111, 112], []), ([100, 117, 112], []), ([115, 119, 97, 112], []), ([109, 97, 116, 104], [65, 84]), ([99, 111, 110, 118], [84]), ([111, 114, 100, 101, 114], []), ([105, 102], [65, 66]), ([105, 102, 110, 117, 108, 108], [65]), ([103, 111, 116, 111], [65]), ([110, 101, 119], [67]), ([103, 101, 116], [67, 78]), ([112, 117, 116], [67, 78]), ([110, 101, 119, 97, 114, 114, 97, 121], [84]), ([108, 101, 110, 103, 116, 104], []), ([97, 108, 111, 97, 100], [84]), ([97, 115, 116, 111, 114, 101], [84]), ([99, 97, 115, 116], [84]), ([105, 115], [84]), ([99, 97, 108, 108], [84, 67, 78]), ([99, 97, 108, 108, 115], [84, 67, 78]), ([114, 101, 116, 117, 114, 110], []), ([103, 105, 118, 101], []), ([116, 104, 114, 111, 119], [])]
def zm7 (op : Nat) : List UInt8 := (zvi.getD op ([], [])).1
theorem z1f {op : Nat} (h : op < 29) : zvi[op]? = some (zm7 op, zgh op) := by
 have h1 : ∀ i : Fin 29, zvi[i.val]? = some (zm7 i.val, zgh i.val) := by decide
 exact h1 ⟨op, h⟩
def zko (op : Int) : Bool := op == 14 || op == 26 || op == 27 || op == 28
noncomputable def zdk : List zal -> Int
 | [] => 0
 | x :: r => if zar x = 0 then zdk r else zar x
def zqs (l : List zal) : Bool :=
 match l.getLast? with
 | some x => zko x.op
 | none => false
noncomputable def zbm (l : List zal) : Int :=
 if 40 < l.length then 4
 else if zdk l ≠ 0 then zdk l
 else if l.any (fun x => zcb x.op && decide ((l.length : Int) <= x.a)) then 2
 else if zqs l then 0 else 8
theorem zd9 : ∀ (l : List zal), zdk l = 0 ↔ ∀ x ∈ l, zar x = 0
 | [] => by simp [zdk]
 | x :: r => by
   have ih := zd9 r
   by_cases h : zar x = 0
   . simp [zdk, h, ih]
   . simp [zdk, h]
structure zj6 (l : List zal) : Prop where
 len : l.length <= 40
 ins : ∀ x ∈ l, zar x = 0
 jump : ∀ x ∈ l, zcb x.op = true -> x.a < (l.length : Int)
 last : zqs l = true
theorem zj5 (l : List zal) : zbm l = 0 ↔ zj6 l := by
 unfold zbm
 by_cases h1 : 40 < l.length
 . rw [if_pos h1]
   exact ⟨fun h => by omega, fun h => by have := h.len; omega⟩
 rw [if_neg h1]
 by_cases h2 : zdk l = 0
 . rw [if_neg (by simp [h2])]
   by_cases h3 : l.any (fun x => zcb x.op && decide ((l.length : Int) <= x.a)) = true
   . rw [if_pos h3]
     refine ⟨fun h => by omega, fun h => ?_⟩
     rw [List.any_eq_true] at h3
     obtain ⟨x, hx, h4⟩ := h3
     simp only [Bool.and_eq_true, decide_eq_true_eq] at h4
     have := h.jump x hx h4.1
     omega
   . rw [if_neg h3]
     have h3' : ∀ x ∈ l, zcb x.op = true -> x.a < (l.length : Int) := by
       intro x hx hj
       apply Int.not_le.1
       intro h4
       apply h3
       rw [List.any_eq_true]
       exact ⟨x, hx, by simp [hj, h4]⟩
     by_cases h5 : zqs l = true
     . rw [if_pos h5]
       exact ⟨fun _ => ⟨by omega, (zd9 l).1 h2, h3', h5⟩, fun _ => rfl⟩
     . rw [if_neg h5]
       exact ⟨fun h => by omega, fun h => absurd h.last h5⟩
 . rw [if_pos h2]
   exact ⟨fun h => absurd h h2, fun h => absurd ((zd9 l).2 h.ins) h2⟩
def aft (l : List zal) (i : Nat) : List Nat :=
 match l[i]? with
 | none => []
 | some x => (if zko x.op then [] else [i + 1]) ++ (if zcb x.op && (x.op == 14 || x.a != ((i : Int) + 1)) then [x.a.toNat] else [])
inductive Rch (l : List zal) (S : List Nat) : Nat -> Prop
 | base {i : Nat} : i ∈ S -> Rch l S i
 | step {i j : Nat} : Rch l S i -> j ∈ aft l i -> Rch l S j
theorem zgx {x : zal} (h : zar x = 0) (hj : zcb x.op = true) : 0 <= x.a /\ x.a <= 40 /\ 0 <= x.b /\ x.b <= 5 := by
 have hr : za5 x = true := by
   unfold zar at h
   split at h
   . omega
   split at h
   . omega
   split at h
   . omega
   . rename_i h3; simpa using h3
 simp only [zcb, Bool.and_eq_true, decide_eq_true_eq] at hj
 unfold za5 at hr
 rw [if_neg (by omega), if_neg (by omega), if_neg (by omega)] at hr
 have : zcb x.op = true := by simp [zcb, hj]
 rw [this] at hr
 simpa [and_assoc] using hr
theorem zxs {l : List zal} (h : zj6 l) {i j : Nat} (hi : i < l.length) (hj : j ∈ aft l i) : j < l.length := by
 unfold aft at hj
 rw [List.getElem?_eq_getElem hi] at hj
 simp only [List.mem_append] at hj
 rcases hj with hj | hj
 . split at hj
   . cases hj
   . rename_i hne
     simp only [List.mem_singleton] at hj
     subst hj
     apply Nat.lt_of_le_of_ne (by omega)
     intro e
     have hl := h.last
     unfold zqs at hl
     rw [List.getLast?_eq_getElem?, show l.length - 1 = i by omega, List.getElem?_eq_getElem hi] at hl
     exact hne hl
 . split at hj
   . rename_i hc
     simp only [List.mem_singleton] at hj
     simp only [Bool.and_eq_true] at hc
     have h1 := h.jump _ (List.getElem_mem hi) hc.1
     have h2 := (zgx (h.ins _ (List.getElem_mem hi)) hc.1).1
     omega
   . cases hj
structure z54 (l : List zal) (S : List Nat) (seen : List Bool) (todo : List Nat) : Prop where
 len : seen.length = l.length
 lt : ∀ i ∈ todo, i < l.length
 right : ∀ i ∈ todo, Rch l S i
 sound : ∀ i : Nat, seen[i]? = some true -> Rch l S i
 base : ∀ i ∈ S, seen[i]? = some true \/ i ∈ todo
 step : ∀ i : Nat, seen[i]? = some true -> ∀ j ∈ aft l i, seen[j]? = some true \/ j ∈ todo
theorem z54.start {l : List zal} {S : List Nat} (hS : ∀ i ∈ S, i < l.length) : z54 l S (List.replicate l.length false) S :=
 ⟨by simp, hS, fun i h => .base h, fun i h => by simp [List.getElem?_replicate] at h, fun i h => Or.inr h, fun i h => by simp [List.getElem?_replicate] at h⟩
theorem z54.skip {l : List zal} {S : List Nat} {seen : List Bool} {todo : List Nat} {i : Nat} (h : z54 l S seen (todo ++ [i])) (hi : seen[i]? = some true) : z54 l S seen todo :=
 ⟨h.len, fun k hk => h.lt k (by simp [hk]), fun k hk => h.right k (by simp [hk]), h.sound, fun k hk => by
   rcases h.base k hk with h1 | h1
   . exact Or.inl h1
   . rcases List.mem_append.1 h1 with h2 | h2
     . exact Or.inr h2
     . simp at h2; subst h2; exact Or.inl hi, fun k hk j hj => by
   rcases h.step k hk j hj with h1 | h1
   . exact Or.inl h1
   . rcases List.mem_append.1 h1 with h2 | h2
     . exact Or.inr h2
     . simp at h2; subst h2; exact Or.inl hi⟩
theorem z54.done {l : List zal} {S : List Nat} {seen : List Bool} (h : z54 l S seen []) (i : Nat) : seen[i]? = some true ↔ Rch l S i := by
 refine ⟨h.sound i, fun hr => ?_⟩
 induction hr with
 | base h1 => rcases h.base _ h1 with h2 | h2; exact h2; cases h2
 | step _ h2 ih => rcases h.step _ ih _ h2 with h3 | h3; exact h3; cases h3
def unseen (s : List Bool) : Nat := s.countP (! ·)
theorem zzp (l : List zal) (i : Nat) : (aft l i).length <= 2 := by
 unfold aft
 split
 . simp
 . rw [List.length_append]; split <;> split <;> simp
def z56 (x : zal) : zal := if zcb x.op then { x with a := x.a + 1 } else x
def nopR : zal := ⟨1, 0, 0, [], [], []⟩
def ahead (l : List zal) : List zal := nopR :: l.map z56
open Classical in
noncomputable def reachL (l : List zal) : List Nat := (List.range l.length).filter (fun i => decide (Rch l [0] i))
structure za1 where
 nm : List UInt8
 ty : List UInt8
structure zdd where
 lo : Int
 hi : Int
 at_ : Int
 cl : List UInt8
structure zo where
 nm : List UInt8
 ty : List UInt8
 stat : Bool
 abst : Bool
 priv : Bool
 loc : Int
 code : List zal
 hs : List zdd
structure zd where
 nm : List UInt8
 sup : List UInt8
 faces : List (List UInt8)
 face : Bool
 fields : List za1
 meths : List zo
noncomputable def zw (f : Nat -> Int) : Nat -> Int
 | 0 => 0
 | n + 1 => if zw f n = 0 then f n else zw f n
theorem zx (f : Nat -> Int) : ∀ n, zw f n = 0 ↔ ∀ j, j < n -> f j = 0
 | 0 => by simp [zw]
 | n + 1 => by
   have ih := zx f n
   unfold zw
   by_cases h : zw f n = 0
   . rw [if_pos h]
     constructor
     . intro h1 j hj
       by_cases e : j = n
       . rw [e]; exact h1
       . exact ih.1 h j (by omega)
     . intro h1; exact h1 n (by omega)
   . rw [if_neg h]
     exact ⟨fun h1 => absurd h1 h, fun h1 => absurd (ih.2 (fun j hj => h1 j (by omega))) h⟩
theorem zb8 {f : Nat -> Int} {k : Nat} (h0 : ∀ j, j < k -> f j = 0) (hk : f k ≠ 0) : ∀ n, k < n -> zw f n = f k
 | 0, h => by omega
 | n + 1, h => by
   unfold zw
   by_cases e : k = n
   . subst e
     rw [if_pos ((zx f k).2 h0)]
   . have h1 := zb8 h0 hk n (by omega)
     rw [if_neg (by rw [h1]; exact hk), h1]
open Classical in
noncomputable def zda (t : List UInt8) : Int := if ∃ A g, zk t A g then 0 else 1
open Classical in
noncomputable def zx1 (t : List UInt8) : Int := if h : ∃ A g, zk t A g then (h.choose.length : Int) else 0
theorem zo0 {t g : List UInt8} {A : List (List UInt8)} (h : zk t A g) : zx1 t = A.length := by
 have hx : ∃ A g, zk t A g := ⟨A, g, h⟩
 unfold zx1
 rw [dif_pos hx]
 obtain ⟨g', h2⟩ := hx.choose_spec
 rw [(zap h2 h).1]
noncomputable def zgg (m : zo) : Int := if zda m.ty ≠ 0 then 0 else if m.stat then zx1 m.ty else zx1 m.ty + 1
def zsz (n : Int) (h : zdd) : Int := if h.lo < 0 \/ h.hi <= h.lo \/ n < h.hi \/ h.at_ < 0 \/ n <= h.at_ then 2 else if zr h.cl = false then 1 else 0
noncomputable def zd1 (n : Int) (hs : List zdd) : Int :=
 let r := zw (fun j => (hs[j]?).elim 0 (zsz n)) hs.length
 if r ≠ 0 then r else if 8 < hs.length then 4 else 0
def zzc (loc : Int) (x : zal) : Bool := (x.op == 4 || x.op == 5) && decide (loc <= x.a)
noncomputable def zc2 (m : zo) : Int :=
 if m.abst then (if m.stat || m.priv || !m.code.isEmpty || !m.hs.isEmpty then 8 else 0)
 else if zbm m.code ≠ 0 then zbm m.code
 else if m.loc < zgg m then 2
 else if m.code.any (zzc m.loc) then 2
 else zd1 m.code.length m.hs
noncomputable def zbx (m : zo) (ahead : List zo) : Int :=
 if zr m.nm = false then 1
 else if zda m.ty ≠ 0 then 1
 else if ahead.any (fun x => x.nm == m.nm && x.ty == m.ty) then 5
 else if m.loc < 0 \/ 8 < m.loc then 2
 else zc2 m
def zdo (l : List (List UInt8)) (i : Nat) : Int := (l[i]?).elim 0 fun f => if zr f = false then 1 else if (l.take i).contains f then 5 else 0
open Classical in
noncomputable def za9 (l : List za1) (i : Nat) : Int := (l[i]?).elim 0 fun f => if zr f.nm = false \/ ¬ zi f.ty then 1 else if (l.take i).any (fun x => x.nm == f.nm) then 5 else 0
noncomputable def zbu (l : List zo) (i : Nat) : Int := (l[i]?).elim 0 fun m => zbx m (l.take i)
noncomputable def za3 (c : zd) : Int :=
 if zr c.nm = false \/ (c.sup ≠ [] /\ zr c.sup = false) then 1
 else if zw (zdo c.faces) c.faces.length ≠ 0 then zw (zdo c.faces) c.faces.length
 else if 8 < c.faces.length \/ 8 < c.fields.length \/ 8 < c.meths.length then 4
 else if zw (za9 c.fields) c.fields.length ≠ 0 then zw (za9 c.fields) c.fields.length
 else if zw (zbu c.meths) c.meths.length ≠ 0 then zw (zbu c.meths) c.meths.length
 else if c.face = true /\ c.fields ≠ [] then 8
 else 0
theorem zf6 {c : zd} (h : za3 c = 0) : (zr c.nm = true /\ (c.sup = [] \/ zr c.sup = true)) /\ (∀ j, j < c.faces.length -> zdo c.faces j = 0) /\ (c.faces.length <= 8 /\ c.fields.length <= 8 /\ c.meths.length <= 8) /\
   (∀ j, j < c.fields.length -> za9 c.fields j = 0) /\ (∀ j, j < c.meths.length -> zbu c.meths j = 0) /\ ¬ (c.face = true /\ c.fields ≠ []) := by
 unfold za3 at h
 split at h
 . omega
 rename_i h1
 split at h
 . rename_i h2; exact absurd h h2
 rename_i h2
 split at h
 . omega
 rename_i h3
 split at h
 . rename_i h4; exact absurd h h4
 rename_i h4
 split at h
 . rename_i h5; exact absurd h h5
 rename_i h5
 split at h
 . omega
 rename_i h6
 refine ⟨?_, (zx _ _).1 (by omega), by omega, (zx _ _).1 (by omega), (zx _ _).1 (by omega), h6⟩
 simp only [not_or, Bool.not_eq_false, not_and] at h1
 refine ⟨h1.1, ?_⟩
 by_cases hs : c.sup = []
 . exact Or.inl hs
 . exact Or.inr (h1.2 hs)
abbrev Nm := List UInt8
def zbq : Nm := [79, 98, 106, 101, 99, 116]
def ztl : Nm := [70, 97, 117, 108, 116]
def zhy : zd := ⟨zbq, [], [], false, [], []⟩
def zoc : zd := ⟨ztl, zbq, [], false, [], []⟩
def wl (l : List zd) : List zd := zhy :: zoc :: l
def zbi (L : List zd) (n : Nm) : Option zd := L.find? (fun c => c.nm == n)
def zdy (c : zd) : List Nm := if c.sup = [] then c.faces else c.sup :: c.faces
def zcr (L : List zd) (n : Nm) : List Nm := (zbi L n).elim [] zdy
def zdx (out : List Nm) : List Nm -> List Nm
 | [] => out
 | a :: r => zdx (if out.contains a then out else out ++ [a]) r
def bfs (ab : Nm -> List Nm) : Nat -> List Nm -> Nat -> List Nm
 | 0, out, _ => out
 | f + 1, out, i => match out[i]? with
   | none => out
   | some x => bfs ab f (zdx out (ab x)) (i + 1)
def zkf (L : List zd) (n : Nm) : List Nm := bfs (zcr L) 100 [n] 0
def every (L : List zd) (n : Nm) : List Nm := (zkf L n).mergeSort (fun x y => decide (x <= y))
def zcp (L : List zd) : Nat -> Nm -> List Nm
 | 0, _ => []
 | f + 1, n => match zbi L n with
   | none => []
   | some c => if c.sup = [] then [] else c.sup :: zcp L f c.sup
def zcx (L : List zd) (n : Nm) : List Nm := n :: zcp L 100 n
def zcd (L : List zd) (n : Nm) (face : Bool) : Int := (zbi L n).elim 3 fun c => if c.face = face then 0 else 7
def zio (L : List zd) (l : List Nm) (j : Nat) : Int := (l[j]?).elim 0 fun f => if (zbi L f).isSome then 0 else 3
def zfp (L : List zd) (l : List Nm) (j : Nat) : Int := (l[j]?).elim 0 fun f => zcd L f true
noncomputable def zb4 (L : List zd) (c : zd) : Int :=
 if c.sup = [] then 1
 else if (zbi L c.sup).isNone then 3
 else if zw (zio L c.faces) c.faces.length ≠ 0 then zw (zio L c.faces) c.faces.length
 else if zcd L c.sup false ≠ 0 then zcd L c.sup false
 else if zw (zfp L c.faces) c.faces.length ≠ 0 then zw (zfp L c.faces) c.faces.length
 else if c.face = true /\ c.sup ≠ zbq then 7
 else 0
def zhv (L : List zd) (n : Nm) : Bool := (zcr L n).any fun a => (every L a).contains n
noncomputable def zgq (l : List zd) (j : Nat) : Int := (l[j]?).elim 0 fun c => if za3 c ≠ 0 then za3 c else if (zbi (wl (l.take j)) c.nm).isSome then 5 else 0
noncomputable def zkk (l : List zd) (j : Nat) : Int := (l[j]?).elim 0 fun c => zb4 (wl l) c
def znb (l : List zd) (j : Nat) : Int := (l[j]?).elim 0 fun c => if zhv (wl l) c.nm then 6 else 0
noncomputable def zaq (l : List zd) : Int :=
 if 10 < l.length then 4
 else if zw (zgq l) l.length ≠ 0 then zw (zgq l) l.length
 else if zw (zkk l) l.length ≠ 0 then zw (zkk l) l.length
 else zw (znb l) l.length
theorem zfr {L : List zd} {n : Nm} {c : zd} (h : zbi L n = some c) : c.nm = n /\ c ∈ L := by
 unfold zbi at h
 have h1 := List.find?_some h
 have h2 := List.mem_of_find?_eq_some h
 exact ⟨by simpa using h1, h2⟩
theorem zn1 (as : List Nm) : ∀ out, ∃ r, zdx out as = out ++ r := by
 induction as with
 | nil => intro out; exact ⟨[], by simp [zdx]⟩
 | cons a r ih =>
   intro out
   unfold zdx
   by_cases h : out.contains a = true
   . rw [if_pos h]; exact ih out
   . rw [if_neg h]
     obtain ⟨s, hs⟩ := ih (out ++ [a])
     exact ⟨a :: s, by rw [hs]; simp⟩
theorem zhb (as : List Nm) : ∀ out x, x ∈ zdx out as ↔ x ∈ out \/ x ∈ as := by
 induction as with
 | nil => intro out x; simp [zdx]
 | cons a r ih =>
   intro out x
   unfold zdx
   rw [ih]
   by_cases h : out.contains a = true
   . rw [if_pos h]
     have : a ∈ out := by simpa using h
     constructor
     . rintro (h1 | h1)
       . exact Or.inl h1
       . exact Or.inr (by simp [h1])
     . rintro (h1 | h1)
       . exact Or.inl h1
       . rcases List.mem_cons.1 h1 with h2 | h2
         . left; rw [h2]; exact this
         . exact Or.inr h2
   . rw [if_neg h]
     simp [or_assoc]
theorem zrr (as : List Nm) : ∀ out, out.Nodup -> (zdx out as).Nodup := by
 induction as with
 | nil => intro out h; exact h
 | cons a r ih =>
   intro out h
   unfold zdx
   apply ih
   by_cases hc : out.contains a = true
   . rw [if_pos hc]; exact h
   . rw [if_neg hc]
     rw [List.nodup_append]
     refine ⟨h, by simp, ?_⟩
     intro x hx y hy e
     rw [List.mem_singleton] at hy
     subst hy
     subst e
     exact hc (by simpa using hx)
def zj3 (L : List zd) (U : List Nm) : Prop := ∀ x ∈ U, ∀ a ∈ zcr L x, a ∈ U
theorem zk4 {l U : List Nm} (hn : l.Nodup) (h : ∀ x ∈ l, x ∈ U) : l.length <= U.length := by
 induction l generalizing U with
 | nil => simp
 | cons a r ih =>
   rw [List.nodup_cons] at hn
   have ha := h a (by simp)
   have h1 := ih (U := U.erase a) hn.2 (fun x hx => (List.mem_erase_of_ne (by rintro rfl; exact hn.1 hx)).2 (h x (by simp [hx])))
   have h2 := List.length_erase_of_mem ha
   have h3 := List.length_pos_of_mem ha
   simp only [List.length_cons]
   omega
inductive Rc (L : List zd) (n : Nm) : Nm -> Prop
 | refl : Rc L n n
 | step {x a : Nm} : Rc L n x -> a ∈ zcr L x -> Rc L n a
structure zn6 (L : List zd) (U : List Nm) (n : Nm) (out : List Nm) (i : Nat) : Prop where
 nd : out.Nodup
 sub : ∀ x ∈ out, x ∈ U
 le : i <= out.length
 eq : bfs (zcr L) (100 - i) out i = zkf L n
 cl : ∀ j x, j < i -> out[j]? = some x -> ∀ a ∈ zcr L x, a ∈ out
 rc : ∀ x ∈ out, Rc L n x
 st : n ∈ out
theorem zn6.start {L : List zd} {U : List Nm} {n : Nm} (h : n ∈ U) : zn6 L U n [n] 0 :=
 ⟨by simp, by simpa using h, by simp, rfl, by omega, fun x hx => by rw [List.mem_singleton.1 hx]; exact .refl, by simp⟩
theorem zn6.len {L : List zd} {U : List Nm} {n : Nm} {out : List Nm} {i : Nat} (h : zn6 L U n out i) : out.length <= U.length := zk4 h.nd h.sub
theorem zn6.step {L : List zd} {U : List Nm} {n x : Nm} {out : List Nm} {i : Nat} (h : zn6 L U n out i) (hU : U.length <= 50) (hC : zj3 L U) (hx : out[i]? = some x) : zn6 L U n (zdx out (zcr L x)) (i + 1) := by
 have hl := h.len
 have hi := (List.getElem?_eq_some_iff.1 hx).1
 refine ⟨zrr _ _ h.nd, ?_, ?_, ?_, ?_, ?_, (zhb _ _ _).2 (Or.inl h.st)⟩
 . intro y hy
   rcases (zhb _ _ _).1 hy with h1 | h1
   . exact h.sub y h1
   . exact hC x (h.sub x (List.mem_of_getElem? hx)) y h1
 . obtain ⟨r, hr⟩ := zn1 (zcr L x) out
   rw [hr, List.length_append]; omega
 . have e := h.eq
   rw [show 100 - i = (100 - (i + 1)) + 1 by omega] at e
   unfold bfs at e
   rw [hx] at e
   exact e
 . intro j y hj hy a ha
   rw [zhb]
   obtain ⟨r, hr⟩ := zn1 (zcr L x) out
   rw [hr, List.getElem?_append_left (by omega)] at hy
   by_cases e : j = i
   . subst e
     rw [hx] at hy
     cases hy
     exact Or.inr ha
   . exact Or.inl (h.cl j y (by omega) hy a ha)
 . intro y hy
   rcases (zhb _ _ _).1 hy with h1 | h1
   . exact h.rc y h1
   . exact .step (h.rc x (List.mem_of_getElem? hx)) h1
theorem zn6.done {L : List zd} {U : List Nm} {n : Nm} {out : List Nm} (h : zn6 L U n out out.length) : zkf L n = out := by
 rw [<- h.eq]
 cases hf : 100 - out.length with
 | zero => rfl
 | succ f =>
   unfold bfs
   simp
theorem zn6.run {L : List zd} {U : List Nm} {n : Nm} (hU : U.length <= 50) (hC : zj3 L U) : ∀ (k : Nat) (out : List Nm) (i : Nat), zn6 L U n out i -> U.length - i <= k -> ∃ out, zn6 L U n out out.length
 | 0, out, i, h, hk => by
   have := h.len
   have hi : i = out.length := by have := h.le; omega
   subst hi
   exact ⟨out, h⟩
 | k + 1, out, i, h, hk => by
   by_cases hi : i = out.length
   . subst hi; exact ⟨out, h⟩
   . obtain ⟨x, hx⟩ : ∃ x, out[i]? = some x := ⟨_, List.getElem?_eq_getElem (by have := h.le; omega)⟩
     exact zn6.run hU hC k _ _ (h.step hU hC hx) (by omega)
theorem zlh {L : List zd} {U : List Nm} {n : Nm} (hU : U.length <= 50) (hC : zj3 L U) (hn : n ∈ U) : zn6 L U n (zkf L n) (zkf L n).length := by
 obtain ⟨out, h⟩ := zn6.run hU hC U.length [n] 0 (zn6.start hn) (by omega)
 rw [h.done]; exact h
theorem zqj {L : List zd} {n x : Nm} : x ∈ every L n ↔ x ∈ zkf L n := by unfold every; exact List.mem_mergeSort
theorem z1a {L : List zd} {U : List Nm} {n x : Nm} (hU : U.length <= 50) (hC : zj3 L U) (hn : n ∈ U) : x ∈ every L n ↔ Rc L n x := by
 have h := zlh hU hC hn
 rw [zqj]
 constructor
 . exact h.rc x
 . intro hr
   induction hr with
   | refl => exact h.st
   | step _ ha ih =>
     obtain ⟨j, hj, e⟩ := List.getElem_of_mem ih
     have hx := List.getElem?_eq_getElem hj
     rw [e] at hx
     exact h.cl j _ hj hx _ ha
def zbt (l : List zd) : List Nm := (wl l).map (·.nm)
theorem look_some {L : List zd} {n : Nm} : (zbi L n).isSome = true ↔ n ∈ L.map (·.nm) := by
 unfold zbi
 rw [List.find?_isSome, List.mem_map]
 constructor
 . rintro ⟨c, hc, h⟩; exact ⟨c, hc, by simpa using h⟩
 . rintro ⟨c, hc, h⟩; exact ⟨c, hc, by simpa using h⟩
theorem look_none {L : List zd} {n : Nm} (h : n ∉ L.map (·.nm)) : zbi L n = none := by
 cases hl : zbi L n with
 | none => rfl
 | some c => exact absurd (look_some.1 (by rw [hl]; rfl)) h
structure zdf (l : List zd) : Prop where
 len : l.length <= 10
 ok : ∀ c ∈ l, za3 c = 0
 new : ∀ j c, l[j]? = some c -> c.nm ∉ zbt (l.take j)
 join : ∀ c ∈ l, zb4 (wl l) c = 0
 round : ∀ c ∈ l, zhv (wl l) c.nm = false
theorem zua {l : List zd} {c : zd} (h : c ∈ l) : ∃ j, j < l.length /\ l[j]? = some c := by
 obtain ⟨j, hj, rfl⟩ := List.getElem_of_mem h
 exact ⟨j, hj, List.getElem?_eq_getElem hj⟩
theorem zuj {l : List zd} {j : Nat} {c : zd} (h : l[j]? = some c) : zgq l j = if za3 c ≠ 0 then za3 c else if (zbi (wl (l.take j)) c.nm).isSome then 5 else 0 := by unfold zgq; rw [h]; rfl
theorem zk0 {l : List zd} {j : Nat} {c : zd} (h : l[j]? = some c) : zkk l j = zb4 (wl l) c := by unfold zkk; rw [h]; rfl
theorem zok {l : List zd} {j : Nat} {c : zd} (h : l[j]? = some c) : znb l j = if zhv (wl l) c.nm then 6 else 0 := by unfold znb; rw [h]; rfl
theorem z52 {l : List zd} {j : Nat} {c : zd} (h : l[j]? = some c) : zgq l j = 0 ↔ za3 c = 0 /\ c.nm ∉ zbt (l.take j) := by
 rw [zuj h]
 by_cases h1 : za3 c = 0
 . rw [if_neg (by simp [h1])]
   by_cases h2 : (zbi (wl (l.take j)) c.nm).isSome = true
   . rw [if_pos h2]
     exact ⟨fun h => by omega, fun h => absurd (look_some.1 h2) h.2⟩
   . rw [if_neg h2]
     exact ⟨fun _ => ⟨h1, fun hm => h2 (look_some.2 hm)⟩, fun _ => rfl⟩
 . rw [if_pos h1]
   exact ⟨fun h => absurd h h1, fun h => absurd h.1 h1⟩
theorem zgs (l : List zd) : zaq l = 0 ↔ zdf l := by
 unfold zaq
 by_cases h1 : 10 < l.length
 . rw [if_pos h1]; exact ⟨fun h => by omega, fun h => by have := h.len; omega⟩
 rw [if_neg h1]
 by_cases h2 : zw (zgq l) l.length = 0
 . rw [if_neg (by simp [h2])]
   have h2' := (zx _ _).1 h2
   by_cases h3 : zw (zkk l) l.length = 0
   . rw [if_neg (by simp [h3])]
     have h3' := (zx _ _).1 h3
     rw [zx]
     constructor
     . intro h4
       refine ⟨by omega, ?_, ?_, ?_, ?_⟩
       . intro c hc
         obtain ⟨j, hj, hx⟩ := zua hc
         exact ((z52 hx).1 (h2' j hj)).1
       . intro j c hx
         exact ((z52 hx).1 (h2' j (List.getElem?_eq_some_iff.1 hx).1)).2
       . intro c hc
         obtain ⟨j, hj, hx⟩ := zua hc
         rw [<- zk0 hx]; exact h3' j hj
       . intro c hc
         obtain ⟨j, hj, hx⟩ := zua hc
         have := h4 j hj
         rw [zok hx] at this
         cases hr : zhv (wl l) c.nm with
         | false => rfl
         | true => rw [hr] at this; simp at this
     . intro hg j hj
       rw [zok (List.getElem?_eq_getElem hj), hg.round _ (List.getElem_mem hj)]
       rfl
   . rw [if_pos h3]
     exact ⟨fun h => absurd h h3, fun hg => absurd ((zx _ _).2 (fun j hj => by rw [zk0 (List.getElem?_eq_getElem hj)]; exact hg.join _ (List.getElem_mem hj))) h3⟩
 . rw [if_pos h2]
   exact ⟨fun h => absurd h h2, fun hg => absurd ((zx _ _).2 (fun j hj => (z52 (List.getElem?_eq_getElem hj)).2 ⟨hg.ok _ (List.getElem_mem hj), hg.new j _ (List.getElem?_eq_getElem hj)⟩)) h2⟩
theorem zjw {L : List zd} {c : zd} (h : zb4 L c = 0) : c.sup ≠ [] /\ (zbi L c.sup).isSome = true /\ (∀ f ∈ c.faces, (zbi L f).isSome = true) /\ zcd L c.sup false = 0 /\ (∀ f ∈ c.faces, zcd L f true = 0) /\ (c.face = true -> c.sup = zbq) := by
 unfold zb4 at h
 split at h
 . omega
 rename_i h1
 split at h
 . omega
 rename_i h2
 split at h
 . rename_i h3; exact absurd h h3
 rename_i h3
 split at h
 . rename_i h4; exact absurd h h4
 rename_i h4
 split at h
 . rename_i h5; exact absurd h h5
 rename_i h5
 split at h
 . omega
 rename_i h6
 refine ⟨h1, by cases hl : zbi L c.sup with | none => rw [hl] at h2; simp at h2 | some d => rfl, ?_, by omega, ?_, ?_⟩
 . intro f hf
   obtain ⟨j, hj, rfl⟩ := List.getElem_of_mem hf
   have := (zx _ _).1 (show zw (zio L c.faces) c.faces.length = 0 by omega) j hj
   unfold zio at this
   rw [List.getElem?_eq_getElem hj] at this
   simp only [Option.elim] at this
   split at this
   . assumption
   . omega
 . intro f hf
   obtain ⟨j, hj, rfl⟩ := List.getElem_of_mem hf
   have := (zx _ _).1 (show zw (zfp L c.faces) c.faces.length = 0 by omega) j hj
   unfold zfp at this
   rw [List.getElem?_eq_getElem hj] at this
   exact this
 . intro hf
   by_cases hs : c.sup = zbq
   . exact hs
   . exact absurd ⟨hf, hs⟩ h6
theorem zib {l : List zd} (hj : ∀ c ∈ l, zb4 (wl l) c = 0) (x : Nm) : ∀ a ∈ zcr (wl l) x, a ∈ zbt l := by
 intro a ha
 unfold zcr at ha
 cases hl : zbi (wl l) x with
 | none => rw [hl] at ha; simp at ha
 | some c =>
   rw [hl] at ha
   simp only [Option.elim] at ha
   obtain ⟨_, hm⟩ := zfr hl
   unfold wl at hm
   simp only [List.mem_cons] at hm
   rcases hm with rfl | rfl | hm
   . simp [zdy, zhy] at ha
   . simp [zdy, zoc, zbq] at ha
     rw [ha]
     simp [zbt, wl, zhy, zbq]
   . obtain ⟨_, h2, h3, _⟩ := zjw (hj c hm)
     unfold zdy at ha
     split at ha
     . exact look_some.1 (h3 a ha)
     . rcases List.mem_cons.1 ha with rfl | ha
       . exact look_some.1 h2
       . exact look_some.1 (h3 a ha)
theorem ze5 {l : List zd} (hj : ∀ c ∈ l, zb4 (wl l) c = 0) (n : Nm) : zj3 (wl l) (n :: zbt l) := fun x _ a ha => List.mem_cons_of_mem _ (zib hj x a ha)
theorem zpv (l : List zd) : (zbt l).length = l.length + 2 := by simp [zbt, wl]
inductive Rs (L : List zd) (n : Nm) : Nm -> Prop
 | refl : Rs L n n
 | step {x : Nm} {c : zd} : Rs L n x -> zbi L x = some c -> c.sup ≠ [] -> Rs L n c.sup
theorem Rs.trans {L : List zd} {a b c : Nm} (h : Rs L a b) (k : Rs L b c) : Rs L a c := by
 induction k with
 | refl => exact h
 | step _ h1 h2 ih => exact .step ih h1 h2
theorem zqo {L : List zd} {x : Nm} {c : zd} (h : zbi L x = some c) (hs : c.sup ≠ []) : c.sup ∈ zcr L x := by
 unfold zcr
 rw [h]
 simp [zdy, hs]
theorem Rs.rc {L : List zd} {n x : Nm} (h : Rs L n x) : Rc L n x := by
 induction h with
 | refl => exact .refl
 | step _ h1 h2 ih => exact .step ih (zqo h1 h2)
theorem zfl {l : List zd} (hg : zdf l) : (zbt l).length <= 12 := by rw [zpv]; have := hg.len; omega
theorem zwc {l : List zd} (hg : zdf l) (n x : Nm) : x ∈ every (wl l) n ↔ Rc (wl l) n x :=
 z1a (U := n :: zbt l) (by have := zfl hg; simp; omega) (ze5 hg.join n) (by simp)
theorem zto {l : List zd} (hj : ∀ c ∈ l, zb4 (wl l) c = 0) {n x : Nm} (h : Rc (wl l) n x) : x = n \/ x ∈ zbt l := by
 induction h with
 | refl => exact Or.inl rfl
 | step _ ha _ => exact Or.inr (zib hj _ _ ha)
theorem z36 {l : List zd} {x : Nm} (h : Rc (wl l) zbq x) : x = zbq := by
 induction h with
 | refl => rfl
 | step _ ha ih =>
   subst ih
   have e : zbi (wl l) zbq = some zhy := by simp [zbi, wl, zhy]
   unfold zcr at ha
   rw [e] at ha
   simp [zdy, zhy] at ha
theorem z5w {l : List zd} (hg : zdf l) {x a : Nm} (ha : a ∈ zcr (wl l) x) : ¬ Rc (wl l) a x := by
 intro hr
 have ha' := ha
 unfold zcr at ha'
 cases hl : zbi (wl l) x with
 | none => rw [hl] at ha'; simp at ha'
 | some c =>
   obtain ⟨hn, hm⟩ := zfr hl
   unfold wl at hm
   simp only [List.mem_cons] at hm
   rcases hm with rfl | rfl | hm
   . rw [hl] at ha'; simp [zdy, zhy] at ha'
   . rw [hl] at ha'
     simp [zdy, zoc, zbq] at ha'
     have : a = zbq := ha'
     subst this
     have := z36 hr
     rw [<- hn] at this
     simp [zoc, ztl, zbq] at this
   . have h1 := hg.round c hm
     unfold zhv at h1
     rw [List.any_eq_false] at h1
     rw [hn] at h1
     have h2 := h1 a ha
     rw [List.contains_iff_mem, zwc hg] at h2
     exact h2 hr
structure Ln (l : List zd) (n : Nm) (out : List Nm) (cur : Nm) : Prop where
 nd : out.Nodup
 sub : ∀ x ∈ out, x = n \/ x ∈ zbt l
 pos : 1 <= out.length
 eq : zcx (wl l) n = out ++ zcp (wl l) (101 - out.length) cur
 rs : ∀ x ∈ out, Rs (wl l) x cur
 from_ : ∀ x ∈ out, Rs (wl l) n x
 cm : cur ∈ out
 nx : ∀ x ∈ out, x = cur \/ ∀ c, zbi (wl l) x = some c -> c.sup ≠ [] -> c.sup ∈ out
theorem Ln.start (l : List zd) (n : Nm) : Ln l n [n] n := ⟨by simp, by simp, by simp, by simp [zcx], fun x hx => by rw [List.mem_singleton.1 hx]; exact .refl, fun x hx => by rw [List.mem_singleton.1 hx]; exact .refl, by simp, fun x hx => Or.inl (List.mem_singleton.1 hx)⟩
theorem Ln.len {l : List zd} {n cur : Nm} {out : List Nm} (hg : zdf l) (h : Ln l n out cur) : out.length <= 13 := by
 have := zk4 (U := n :: zbt l) h.nd (fun x hx => by rcases h.sub x hx with h1 | h1 <;> simp [h1])
 have := zfl hg
 simp at *
 omega
theorem Ln.step {l : List zd} {n cur : Nm} {out : List Nm} {c : zd} (hg : zdf l) (h : Ln l n out cur) (hc : zbi (wl l) cur = some c) (hs : c.sup ≠ []) : Ln l n (out ++ [c.sup]) c.sup := by
 have hl := h.len hg
 have hp := h.pos
 have hab := zqo hc hs
 refine ⟨?_, ?_, by simp, ?_, ?_, ?_, by simp, ?_⟩
 . rw [List.nodup_append]
   refine ⟨h.nd, by simp, ?_⟩
   intro x hx y hy e
   rw [List.mem_singleton] at hy
   subst hy
   subst e
   exact z5w hg hab (h.rs _ hx).rc
 . intro x hx
   rcases List.mem_append.1 hx with h1 | h1
   . exact h.sub x h1
   . rw [List.mem_singleton.1 h1]; exact Or.inr (zib hg.join _ _ hab)
 . rw [h.eq, List.length_append, List.length_singleton]
   rw [show 101 - out.length = (101 - (out.length + 1)) + 1 by omega]
   conv => lhs; unfold zcp
   rw [hc]
   simp only [hs, if_false]
   simp
 . intro x hx
   rcases List.mem_append.1 hx with h1 | h1
   . exact .step (h.rs x h1) hc hs
   . rw [List.mem_singleton.1 h1]; exact .refl
 . intro x hx
   rcases List.mem_append.1 hx with h1 | h1
   . exact h.from_ x h1
   . rw [List.mem_singleton.1 h1]; exact .step (h.from_ cur h.cm) hc hs
 . intro x hx
   rcases List.mem_append.1 hx with h1 | h1
   . right
     intro d hd hds
     rcases h.nx x h1 with e | e
     . subst e
       rw [hc] at hd
       cases hd
       simp
     . exact List.mem_append_left _ (e d hd hds)
   . exact Or.inl (List.mem_singleton.1 h1)
def zsl (L : List zd) (cur : Nm) : Prop := zbi L cur = none \/ ∃ c, zbi L cur = some c /\ c.sup = []
theorem Ln.done {l : List zd} {n cur : Nm} {out : List Nm} (hg : zdf l) (h : Ln l n out cur) (ht : zsl (wl l) cur) : zcx (wl l) n = out := by
 have hl := h.len hg
 rw [h.eq, show 101 - out.length = (100 - out.length) + 1 by omega]
 unfold zcp
 rcases ht with h1 | ⟨c, h1, h2⟩
 . rw [h1]; simp
 . rw [h1]; simp [h2]
theorem Ln.run {l : List zd} (hg : zdf l) {n : Nm} : ∀ (k : Nat) (out : List Nm) (cur : Nm), Ln l n out cur -> 13 - out.length <= k -> ∃ cur, Ln l n (zcx (wl l) n) cur /\ zsl (wl l) cur
 | 0, out, cur, h, hk => by
   have hl := h.len hg
   by_cases ht : zsl (wl l) cur
   . exact ⟨cur, by rw [h.done hg ht]; exact h, ht⟩
   . cases hlk : zbi (wl l) cur with
     | none => exact absurd (Or.inl hlk) ht
     | some c =>
       by_cases hs : c.sup = []
       . exact absurd (Or.inr ⟨c, hlk, hs⟩) ht
       . have := (h.step hg hlk hs).len hg
         simp at this
         omega
 | k + 1, out, cur, h, hk => by
   by_cases ht : zsl (wl l) cur
   . exact ⟨cur, by rw [h.done hg ht]; exact h, ht⟩
   . cases hlk : zbi (wl l) cur with
     | none => exact absurd (Or.inl hlk) ht
     | some c =>
       by_cases hs : c.sup = []
       . exact absurd (Or.inr ⟨c, hlk, hs⟩) ht
       . exact Ln.run hg k _ _ (h.step hg hlk hs) (by simp; omega)
theorem zky {l : List zd} (hg : zdf l) (n : Nm) : ∃ cur, Ln l n (zcx (wl l) n) cur /\ zsl (wl l) cur := Ln.run hg 13 [n] n (Ln.start l n) (by simp)
theorem zjk {l : List zd} (hg : zdf l) (n x : Nm) : x ∈ zcx (wl l) n ↔ Rs (wl l) n x := by
 obtain ⟨cur, h, ht⟩ := zky hg n
 constructor
 . exact h.from_ x
 . intro hr
   induction hr with
   | refl => unfold zcx; simp
   | step hxr h1 h2 ih =>
     rename_i x c
     rcases h.nx x ih with e | e
     . subst e
       rcases ht with h3 | ⟨d, h3, h4⟩
       . rw [h1] at h3; cases h3
       . rw [h1] at h3
         cases h3
         exact absurd h4 h2
     . exact e c h1 h2
def z8v (L : List zd) (us : List Nm) : List Nm := us.foldl (fun out u => zdx out (zcx L u).reverse) [zbq]
theorem ztn {l : List zd} (hg : zdf l) {n : Nm} (hn : n ∈ zbt l) : Rs (wl l) n zbq := by
 obtain ⟨cur, h, ht⟩ := zky hg n
 have hr := h.from_ cur h.cm
 have hc : cur ∈ zbt l := by
   rcases zto hg.join hr.rc with e | e
   . rw [e]; exact hn
   . exact e
 have hs := look_some.2 hc
 rcases ht with h1 | ⟨c, h1, h2⟩
 . unfold zbt at hc
   rw [h1] at hs
   cases hs
 . obtain ⟨e, hm⟩ := zfr h1
   unfold wl at hm
   simp only [List.mem_cons] at hm
   rcases hm with rfl | rfl | hm
   . have : cur = zbq := e.symm
     rw [<- this]; exact hr
   . simp [zoc, zbq] at h2
   . exact absurd h2 (zjw (hg.join c hm)).1
section
variable {l : List zd} {b : Nat} {B : zd} {s : Nm}
end
def OpK (x : zal) : Prop := x.op = 2 \/ x.op = 4 \/ x.op = 9 \/ x.op = 27
end Go.Proofs.YtbnkckjdgpiggaaGreatDoor
