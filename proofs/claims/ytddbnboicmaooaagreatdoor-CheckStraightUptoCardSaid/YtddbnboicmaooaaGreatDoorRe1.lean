import Derived.Test.YtddbnboicmaooaaGreatDoorBase
namespace Go.Proofs.YtddbnboicmaooaaGreatDoor
set_option maxRecDepth 100000
set_option maxHeartbeats 16000000
set_option linter.unusedVariables false
set_option linter.unusedSimpArgs false
open Go.Lib
def letC (c : Int) : Bool := (decide (97 ≤ c) && decide (c ≤ 122)) || (decide (65 ≤ c) && decide (c ≤ 90)) || c == 95
def digC (c : Int) : Bool := decide (48 ≤ c) && decide (c ≤ 57)
theorem letC_nat (b : UInt8) : letC (b.toNat : Int) = letB b := by
 rw [Bool.eq_iff_iff]; unfold letC letB; simp only [Bool.or_eq_true, Bool.and_eq_true, decide_eq_true_eq, beq_iff_eq]; omega
theorem digC_nat (b : UInt8) : digC (b.toNat : Int) = digB b := by
 rw [Bool.eq_iff_iff]; unfold digC digB; simp only [Bool.and_eq_true, decide_eq_true_eq]; omega
theorem name_long {s : List UInt8} (h : 20 < s.length) : nameOk s = false := by
 unfold nameOk
 rw [decide_eq_false (by omega)]; simp
theorem name_dig {s : List UInt8} (h0 : 0 < s.length) (h : digC (s[0].toNat : Int) = true) : nameOk s = false := by
 rw [digC_nat] at h
 cases s with
 | nil => simp at h0
 | cons b r =>
   unfold nameOk
   simp only [List.getElem_cons_zero] at h
   simp [headDig, h]
theorem name_mid {s : List UInt8} {k : Nat} (hk : k < s.length) (h : letC (s[k].toNat : Int) = false) (h2 : digC (s[k].toNat : Int) = false) : nameOk s = false := by
 rw [letC_nat] at h
 rw [digC_nat] at h2
 cases hn : nameOk s with
 | false => rfl
 | true =>
   unfold nameOk at hn
   simp only [Bool.and_eq_true] at hn
   have := List.all_eq_true.1 hn.1.2 s[k] (List.getElem_mem hk)
   rw [h, h2] at this
   cases this
theorem name_all {s : List UInt8} (h0 : 0 < s.length) (h20 : s.length ≤ 20) (hd : digC (s[0].toNat : Int) = false) (h : ∀ k, (hk : k < s.length) → (letC (s[k].toNat : Int) || digC (s[k].toNat : Int)) = true) : nameOk s = true := by
 rw [digC_nat] at hd
 unfold nameOk
 simp only [Bool.and_eq_true, decide_eq_true_eq, Bool.not_eq_true']
 refine ⟨⟨⟨?_, h20⟩, List.all_eq_true.2 fun b hb => ?_⟩, ?_⟩
 · cases s with
   | nil => simp at h0
   | cons b r => rfl
 · obtain ⟨k, hk, rfl⟩ := List.mem_iff_getElem.1 hb
   have := h k hk
   rw [letC_nat, digC_nat] at this
   exact this
 · cases s with
   | nil => simp at h0
   | cons b r => exact hd
def NameTo (s : List UInt8) (k : Nat) : Prop := ∀ j, (hj : j < s.length) → j < k → (letC (s[j].toNat : Int) || digC (s[j].toNat : Int)) = true
theorem NameTo.nil (s : List UInt8) : NameTo s 0 := fun j _ h => absurd h (by omega)
theorem NameTo.step {s : List UInt8} {k : Nat} (h : NameTo s k) (hk : k < s.length) (h1 : (letC (s[k].toNat : Int) || digC (s[k].toNat : Int)) = true) : NameTo s (k + 1) := fun j hj hjk => by
 by_cases e : j = k
 · subst e; exact h1
 · exact h j hj (by omega)
def LeadTo (s : List UInt8) (n k : Nat) : Prop := n ≤ k ∧ ∃ P X : List UInt8, s.drop n = P ++ X ∧ (∀ b ∈ P, b = 91) ∧ P.length = k - n ∧ X = s.drop k
theorem LeadTo.nil (s : List UInt8) (n : Nat) : LeadTo s n n := ⟨Nat.le_refl _, [], s.drop n, rfl, by simp, by simp, rfl⟩
theorem LeadTo.step {s : List UInt8} {n k : Nat} (h : LeadTo s n k) (hk : k < s.length) (h1 : (s[k].toNat : Int) = 91) : LeadTo s n (k + 1) := by
 obtain ⟨hn, P, X, e, hP, hl, hX⟩ := h
 have hb : s[k] = 91 := UInt8.toNat_inj.1 (by have : (91 : UInt8).toNat = 91 := rfl; omega)
 refine ⟨by omega, P ++ [91], s.drop (k + 1), ?_, ?_, by simp; omega, rfl⟩
 · rw [e, hX, List.drop_eq_getElem_cons hk, hb]; simp
 · intro b hb
   rcases List.mem_append.1 hb with hb | hb
   · exact hP b hb
   · exact List.mem_singleton.1 hb
def NoTy (s : List UInt8) (n : Nat) : Prop := ∀ t r, s.drop n = t ++ r → ¬ TypeOk t
def TyAt (s : List UInt8) (n k : Nat) : Prop := n < k ∧ k ≤ s.length ∧ TypeOk ((s.drop n).take (k - n))
theorem lead_no {s : List UInt8} {n k : Nat} (h : LeadTo s n k) (h91 : ∀ c r, s.drop k = c :: r → c ≠ 91)
   (hb : 3 < k - n ∨ s.drop k = [] ∨ (∃ c r, s.drop k = c :: r ∧ c ≠ 73 ∧ c ≠ 74 ∧ c ≠ 76) ∨ (∃ r, s.drop k = 76 :: r ∧ ∀ b ∈ r, b ≠ 59) ∨ ∃ m r, s.drop k = 76 :: (m ++ 59 :: r) ∧ (∀ b ∈ m, b ≠ 59) ∧ nameOk m = false) : NoTy s n := by
 obtain ⟨hn, P, X, e, hP, hl, hX⟩ := h
 intro t r e2 ht
 subst hX
 refine cut_excl ht (e2.symm.trans e) hP h91 ?_
 by_cases h3 : 3 < P.length
 · exact Or.inl h3
 · refine Or.inr ?_
   have h3 : P.length ≤ 3 := by omega
   rcases hb with hb | hb | hb | hb | hb
   · omega
   · exact Or.inl ⟨h3, hb⟩
   · exact Or.inr (Or.inl ⟨h3, hb⟩)
   · exact Or.inr (Or.inr (Or.inl ⟨h3, hb⟩))
   · exact Or.inr (Or.inr (Or.inr ⟨h3, hb⟩))
theorem lead_num {s : List UInt8} {n k : Nat} (h : LeadTo s n k) (h3 : k - n ≤ 3) (hk : k < s.length) (hc : (s[k].toNat : Int) = 73 ∨ (s[k].toNat : Int) = 74) : TyAt s n (k + 1) := by
 obtain ⟨hn, P, X, e, hP, hl, hX⟩ := h
 refine ⟨by omega, by omega, P, [s[k]], ?_, hP, by omega, ?_⟩
 · rw [e, hX, List.drop_eq_getElem_cons hk, show k + 1 - n = (P ++ [s[k]]).length by simp; omega, show P ++ s[k] :: s.drop (k + 1) = (P ++ [s[k]]) ++ s.drop (k + 1) by simp, List.take_left]
 · rcases hc with h | h
   · refine Or.inl ?_
     rw [show s[k] = 73 from UInt8.toNat_inj.1 (by have : (73 : UInt8).toNat = 73 := rfl; omega)]
   · refine Or.inr (Or.inl ?_)
     rw [show s[k] = 74 from UInt8.toNat_inj.1 (by have : (74 : UInt8).toNat = 74 := rfl; omega)]
def No59 (s : List UInt8) (k j : Nat) : Prop := ∀ b ∈ (s.drop k).take (j - k), b ≠ 59
theorem No59.nil (s : List UInt8) (k : Nat) : No59 s k k := fun b hb => by simp at hb
theorem take_more {s : List UInt8} {k j : Nat} (hkj : k ≤ j) (hj : j < s.length) : (s.drop k).take (j + 1 - k) = (s.drop k).take (j - k) ++ [s[j]] := by
 rw [show j + 1 - k = (j - k) + 1 by omega, List.take_succ_eq_append_getElem (by simp; omega)]
 simp [show k + (j - k) = j by omega]
theorem No59.step {s : List UInt8} {k j : Nat} (h : No59 s k j) (hkj : k ≤ j) (hj : j < s.length) (h1 : (s[j].toNat : Int) ≠ 59) : No59 s k (j + 1) := by
 intro b hb
 rw [take_more hkj hj] at hb
 rcases List.mem_append.1 hb with hb | hb
 · exact h b hb
 · rw [List.mem_singleton.1 hb]
   intro e
   rw [e] at h1
   exact h1 rfl
theorem lead_cls {s : List UInt8} {n k j : Nat} (h : LeadTo s n k) (h3 : k - n ≤ 3) (hk : k < s.length) (hc : (s[k].toNat : Int) = 76) (hkj : k + 1 ≤ j) (hj : j < s.length) (hc2 : (s[j].toNat : Int) = 59) (hn : nameOk ((s.drop (k + 1)).take (j - (k + 1))) = true) : TyAt s n (j + 1) := by
 obtain ⟨hnk, P, X, e, hP, hl, hX⟩ := h
 have e1 : s[k] = 76 := UInt8.toNat_inj.1 (by have : (76 : UInt8).toNat = 76 := rfl; omega)
 have e2 : s[j] = 59 := UInt8.toNat_inj.1 (by have : (59 : UInt8).toNat = 59 := rfl; omega)
 have e3 : s.drop k = 76 :: ((s.drop (k + 1)).take (j - (k + 1)) ++ [59] ++ s.drop (j + 1)) := by
   rw [List.drop_eq_getElem_cons hk, e1]
   have := List.take_append_drop (j + 1 - (k + 1)) (s.drop (k + 1))
   rw [take_more hkj hj, e2, List.drop_drop, show k + 1 + (j + 1 - (k + 1)) = j + 1 by omega] at this
   rw [this]
 refine ⟨by omega, by omega, P, 76 :: ((s.drop (k + 1)).take (j - (k + 1)) ++ [59]), ?_, hP, by omega, Or.inr (Or.inr ⟨_, hn, rfl⟩)⟩
 rw [e, hX, e3, show j + 1 - n = (P ++ 76 :: ((s.drop (k + 1)).take (j - (k + 1)) ++ [59])).length by simp; omega,
   show P ++ 76 :: ((s.drop (k + 1)).take (j - (k + 1)) ++ [59] ++ s.drop (j + 1)) = (P ++ 76 :: ((s.drop (k + 1)).take (j - (k + 1)) ++ [59])) ++ s.drop (j + 1) by simp, List.take_left]
theorem lead_badname {s : List UInt8} {k j : Nat} (hk : k < s.length) (hc : (s[k].toNat : Int) = 76) (hkj : k + 1 ≤ j) (hj : j < s.length) (hc2 : (s[j].toNat : Int) = 59) (h59 : No59 s (k + 1) j) (hn : nameOk ((s.drop (k + 1)).take (j - (k + 1))) = false) :
   ∃ m r, s.drop k = 76 :: (m ++ 59 :: r) ∧ (∀ b ∈ m, b ≠ 59) ∧ nameOk m = false := by
 have e1 : s[k] = 76 := UInt8.toNat_inj.1 (by have : (76 : UInt8).toNat = 76 := rfl; omega)
 have e2 : s[j] = 59 := UInt8.toNat_inj.1 (by have : (59 : UInt8).toNat = 59 := rfl; omega)
 refine ⟨(s.drop (k + 1)).take (j - (k + 1)), s.drop (j + 1), ?_, h59, hn⟩
 rw [List.drop_eq_getElem_cons hk, e1]
 have := List.take_append_drop (j + 1 - (k + 1)) (s.drop (k + 1))
 rw [take_more hkj hj, e2, List.drop_drop, show k + 1 + (j + 1 - (k + 1)) = j + 1 by omega] at this
 refine congrArg _ (this.symm.trans (by simp))
theorem lead_open {s : List UInt8} {k : Nat} (hk : k < s.length) (hc : (s[k].toNat : Int) = 76) (h59 : No59 s (k + 1) s.length) : ∃ r, s.drop k = 76 :: r ∧ ∀ b ∈ r, b ≠ 59 := by
 have e1 : s[k] = 76 := UInt8.toNat_inj.1 (by have : (76 : UInt8).toNat = 76 := rfl; omega)
 refine ⟨s.drop (k + 1), by rw [List.drop_eq_getElem_cons hk, e1], ?_⟩
 unfold No59 at h59
 rwa [List.take_of_length_le (by simp)] at h59
theorem drop_head {s : List UInt8} {k : Nat} (hk : k < s.length) (p : UInt8 → Prop) (h : p s[k]) : ∀ c r, s.drop k = c :: r → p c := by
 intro c r e
 rw [List.drop_eq_getElem_cons hk] at e
 cases e; exact h
theorem type_whole {s : List UInt8} : TypeOk s ↔ TyAt s 0 s.length := by
 unfold TyAt
 simp only [List.drop_zero, Nat.sub_zero, List.take_length]
 exact ⟨fun h => ⟨by have := (type_len h).1; omega, Nat.le_refl _, h⟩, fun h => h.2.2⟩
theorem tyAt_uniq {s : List UInt8} {n k j : Nat} (h : TyAt s n k) (h' : TyAt s n j) : k = j := by
 obtain ⟨h1, h2, h3⟩ := h
 obtain ⟨g1, g2, g3⟩ := h'
 have e := (List.take_append_drop (k - n) (s.drop n)).trans (List.take_append_drop (j - n) (s.drop n)).symm
 obtain ⟨e1, _⟩ := type_uniq h3 g3 e
 have := congrArg List.length e1
 simp at this; omega
theorem noTy_tyAt {s : List UInt8} {n k : Nat} (h : NoTy s n) (h' : TyAt s n k) : False := h _ _ (List.take_append_drop (k - n) (s.drop n)).symm h'.2.2
def ReadTo (s : List UInt8) (k : Nat) (A : List (List UInt8)) : Prop := 1 ≤ k ∧ k ≤ s.length ∧ (∀ t ∈ A, TypeOk t) ∧ s.take k = 40 :: A.flatten
theorem read_rest {s : List UInt8} {k : Nat} {A : List (List UInt8)} (h : ReadTo s k A) : s = 40 :: (A.flatten ++ s.drop k) := by
 have := List.take_append_drop k s
 rw [h.2.2.2] at this
 exact this.symm
theorem read_start {s : List UInt8} (h : 0 < s.length) (h40 : (s[0].toNat : Int) = 40) : ReadTo s 1 [] := by
 refine ⟨Nat.le_refl _, h, by simp, ?_⟩
 cases s with
 | nil => simp at h
 | cons b r =>
   simp only [List.getElem_cons_zero] at h40
   have : b = 40 := UInt8.toNat_inj.1 (by have : (40 : UInt8).toNat = 40 := rfl; omega)
   subst this; rfl
theorem read_more {s : List UInt8} {k j : Nat} {A : List (List UInt8)} (h : ReadTo s k A) (ht : TyAt s k j) : ReadTo s j (A ++ [(s.drop k).take (j - k)]) := by
 obtain ⟨h1, h2, h3, h4⟩ := h
 obtain ⟨t1, t2, t3⟩ := ht
 refine ⟨by omega, t2, fun t hm => ?_, ?_⟩
 · rcases List.mem_append.1 hm with hm | hm
   · exact h3 t hm
   · rw [List.mem_singleton.1 hm]; exact t3
 · have : s.take j = s.take k ++ (s.drop k).take (j - k) := by
     conv => lhs; rw [show j = k + (j - k) by omega, List.take_add]
   rw [this, h4]; simp
theorem read_len {s : List UInt8} {k : Nat} {A : List (List UInt8)} (h : ReadTo s k A) : A.length ≤ s.length := by
 have h1 := types_len A h.2.2.1
 have h2 := congrArg List.length h.2.2.2
 rw [List.length_take, List.length_cons] at h2; omega
theorem read_no {s : List UInt8} {k : Nat} {A : List (List UInt8)} (h : ReadTo s k A) (hn : NoTy s k) (h41 : ∀ g, s.drop k ≠ 41 :: g) : ∀ A' g', ¬ MethodOk s A' g' := by
 intro A' g'
 have e := read_rest h
 rw [e]
 exact method_none h.2.2.1 rfl hn h41 A' g'
theorem read_wrong {s : List UInt8} {k : Nat} {A : List (List UInt8)} (h : ReadTo s k A) (hk : k < s.length) (h41 : (s[k].toNat : Int) = 41) (hw : 5 < A.length ∨ ¬ GivesOk (s.drop (k + 1))) : ∀ A' g', ¬ MethodOk s A' g' := by
 intro A' g'
 have e := read_rest h
 have e1 : s[k] = 41 := UInt8.toNat_inj.1 (by have : (41 : UInt8).toNat = 41 := rfl; omega)
 rw [List.drop_eq_getElem_cons hk, e1] at e
 rw [e]
 exact method_wrong h.2.2.1 rfl hw A' g'
theorem read_right {s : List UInt8} {k : Nat} {A : List (List UInt8)} (h : ReadTo s k A) (hk : k < s.length) (h41 : (s[k].toNat : Int) = 41) (h5 : A.length ≤ 5) (hg : GivesOk (s.drop (k + 1))) : MethodOk s A (s.drop (k + 1)) := by
 have e := read_rest h
 have e1 : s[k] = 41 := UInt8.toNat_inj.1 (by have : (41 : UInt8).toNat = 41 := rfl; omega)
 rw [List.drop_eq_getElem_cons hk, e1] at e
 exact ⟨e, h.2.2.1, h5, hg⟩
theorem noTy_end {s : List UInt8} : NoTy s s.length := fun t r e ht => by
 have := (type_len ht).1
 have h2 := congrArg List.length e
 simp at h2; omega
theorem drop_no41 {s : List UInt8} {k : Nat} (hk : k < s.length) (h : (s[k].toNat : Int) ≠ 41) : ∀ g, s.drop k ≠ 41 :: g := by
 intro g e
 rw [List.drop_eq_getElem_cons hk] at e
 have e2 := (List.cons.inj e).1
 rw [e2] at h
 exact h rfl
open Go.RowKit Go.Shelf
def SomeB (w : World) (e : Ending) (w' : World) : Prop := (∃ b : Bool, e = .returned (.bool b)) ∧ Below w.heap.size w w'
def IsB (b : Bool) (w : World) (e : Ending) (w' : World) : Prop := e = .returned (.bool b) ∧ Below w.heap.size w w'
def SomeN (lo hi : Int) (w : World) (e : Ending) (w' : World) : Prop := (∃ n : Int, lo ≤ n ∧ n ≤ hi ∧ e = .returned (.int .i64 n)) ∧ Below w.heap.size w w'
theorem rdigit_calls (c : Int) (w : World) : Calls Tryz.prog 114 #[.int .u8 c] w (IsB (digC c) w) := by
 go_enter Tryz.func114, Tryz.ntmps114
 go_wp2_with fail
 all_goals (go_ret; exact ⟨ret_bool (by unfold digC; simp <;> omega), Below.refl _ _⟩)
theorem rletter_calls (c : Int) (w : World) : Calls Tryz.prog 115 #[.int .u8 c] w (IsB (letC c) w) := by
 go_enter Tryz.func115, Tryz.ntmps115
 go_wp2_with fail
 all_goals (go_ret; exact ⟨ret_bool (by rw [Bool.eq_iff_iff]; unfold letC; simp only [Bool.or_eq_true, Bool.and_eq_true, decide_eq_true_eq, beq_iff_eq, Bool.false_eq_true, iff_true, iff_false, false_iff, true_iff] <;> omega), Below.refl _ _⟩)
theorem rdeep_calls (s : List UInt8) (w : World) (hs : s.length ≤ 8388608) : Calls Tryz.prog 263 #[.string ⟨⟨s⟩⟩] w (SomeN 0 s.length w) := by
 go_enter Tryz.func263, Tryz.ntmps263
 go_wp2_with fail
 go_loopw [3] (fun i wr => ∃ k : Nat, k ≤ s.length ∧ i = .int .i64 k ∧ Below w.heap.size w wr) (fun i _ => s.length - (RowKit.intOf i).toNat)
 case atStart => exact ⟨0, by omega, rfl, Below.refl _ _⟩
 case round =>
   obtain ⟨k, hk, rfl, hb⟩ := hrel
   have HB := Hd hb
   clear hb
   have i0 : (0 : Int) ≤ k := Int.natCast_nonneg _
   by_cases he : k < s.length
   · have i1 : (k : Int) < s.length := by omega
     have hwr : wrap64 ((k : Int) + 1) = (k : Int) + 1 := IntWalk.wrap64_in _ (by omega)
     go_wp2_with fail
     · go_roundw
       case rel => exact ⟨k + 1, by omega, by simp, HB.out⟩
       case measure => simp [RowKit.intOf]; omega
     · go_ret
       exact ⟨⟨_, i0, by omega, rfl⟩, HB.out⟩
   · obtain rfl : k = s.length := by omega
     go_wp2_with fail
     go_ret
     exact ⟨⟨_, i0, by omega, rfl⟩, HB.out⟩
theorem rname_calls (s : List UInt8) (w : World) : Calls Tryz.prog 64 #[.string ⟨⟨s⟩⟩] w (IsB (nameOk s) w) := by
 have HL := Hd (fun c W => rletter_calls c W)
 have HD := Hd (fun c W => rdigit_calls c W)
 obtain ⟨N, hN⟩ : ∃ N, N = nameOk s := ⟨_, rfl⟩
 rw [← hN]
 have HN := Hd hN
 clear hN
 by_cases h0 : s.length = 0
 · obtain rfl : s = [] := List.eq_nil_of_length_eq_zero h0
   clear h0
   go_enter Tryz.func64, Tryz.ntmps64
   go_wp2_with fail
   go_ret
   exact ⟨ret_bool HN.out.symm, Below.refl _ _⟩
 have h1 : (0 : Int) < s.length := by omega
 have h1n : 0 < s.length := by omega
 have h2 : ((s.length : Int) == 0) = false := by rw [beq_eq_false_iff_ne]; omega
 by_cases h20 : 20 < s.length
 · have i20 : (20 : Int) < s.length := by omega
   go_enter Tryz.func64, Tryz.ntmps64
   go_wp2_with fail
   go_ret
   exact ⟨ret_bool (by rw [HN.out, name_long h20]), Below.refl _ _⟩
 · have i20 : ¬ (20 : Int) < s.length := by omega
   go_enter Tryz.func64, Tryz.ntmps64
   go_wp2_with fail
   refine (HD.out _ _).mono ?_
   rintro e w1 ⟨rfl, hb1⟩
   have HB1 := Hd hb1
   clear hb1
   cases hdg : digC (s[0].toNat : Int) with
   | true =>
     have HDG := Hd hdg
     clear hdg
     go_wp2_with fail
     go_ret
     exact ⟨ret_bool (by rw [HN.out, name_dig h1n HDG.out]), HB1.out⟩
   | false =>
     have HDG := Hd hdg
     clear hdg
     go_wp2_with fail
     go_loopw [3] (fun i wr => ∃ k : Nat, k ≤ s.length ∧ i = .int .i64 k ∧ Below w.heap.size w wr ∧ Hid (NameTo s k)) (fun i _ => s.length - (RowKit.intOf i).toNat)
     case atStart => exact ⟨0, by omega, rfl, HB1.out, Hd (NameTo.nil s)⟩
     case round =>
       obtain ⟨k, hk, rfl, hb, HNo⟩ := hrel
       have HB := Hd hb
       clear hb
       have i0 : (0 : Int) ≤ k := Int.natCast_nonneg _
       by_cases he : k < s.length
       · have i1 : (k : Int) < s.length := by omega
         have hwr : wrap64 ((k : Int) + 1) = (k : Int) + 1 := IntWalk.wrap64_in _ (by omega)
         go_wp2_with fail
         refine (HL.out _ _).mono ?_
         rintro e w2 ⟨rfl, hb2⟩
         have HB2 := Hd (bl_trans HB.out hb2)
         clear hb2
         cases hl2 : letC (s[k].toNat : Int) with
         | true =>
           have HL2 := Hd hl2
           clear hl2
           go_wp2_with fail
           go_roundw
           case rel => exact ⟨k + 1, by omega, by simp, HB2.out, Hd (HNo.out.step he (by rw [HL2.out]; rfl))⟩
           case measure => simp [RowKit.intOf]; omega
         | false =>
           have HL2 := Hd hl2
           clear hl2
           go_wp2_with fail
           refine (HD.out _ _).mono ?_
           rintro e w3 ⟨rfl, hb3⟩
           have HB3 := Hd (bl_trans HB2.out hb3)
           clear hb3
           cases hl3 : digC (s[k].toNat : Int) with
           | true =>
             have HL3 := Hd hl3
             clear hl3
             go_wp2_with fail
             go_roundw
             case rel => exact ⟨k + 1, by omega, by simp, HB3.out, Hd (HNo.out.step he (by rw [HL3.out]; simp))⟩
             case measure => simp [RowKit.intOf]; omega
           | false =>
             have HL3 := Hd hl3
             clear hl3
             go_wp2_with fail
             go_ret
             exact ⟨ret_bool (by rw [HN.out, name_mid he HL2.out HL3.out]), HB3.out⟩
       · obtain rfl : k = s.length := by omega
         go_wp2_with fail
         go_ret
         exact ⟨ret_bool (by rw [HN.out, name_all h1n (by omega) HDG.out (fun j hj => HNo.out j hj hj)]), HB.out⟩
def AtRes (s : List UInt8) (n : Nat) (w : World) (e : Ending) (w' : World) : Prop := (∃ k : Nat, ((k = 0 ∧ NoTy s n) ∨ TyAt s n k) ∧ e = .returned (.int .i64 k)) ∧ Below w.heap.size w w'
theorem AtRes.no {s : List UInt8} {n : Nat} {w w' : World} (h : NoTy s n) (hb : Below w.heap.size w w') : AtRes s n w (.returned (.int .i64 0)) w' := ⟨⟨0, Or.inl ⟨rfl, h⟩, rfl⟩, hb⟩
theorem rtypeAt_calls (s : List UInt8) (n : Nat) (w : World) (hs : s.length ≤ 8388608) (hn : n ≤ s.length) : Calls Tryz.prog 27 #[.string ⟨⟨s⟩⟩, .int .i64 n] w (AtRes s n w) := by
 have HN := Hd (fun (t : List UInt8) W => rname_calls t W)
 go_enter Tryz.func27, Tryz.ntmps27
 go_wp2_with fail
 go_loopw [5] (fun i wr => ∃ k : Nat, n ≤ k ∧ k ≤ s.length ∧ i = .int .i64 k ∧ Below w.heap.size w wr ∧ Hid (LeadTo s n k)) (fun i _ => s.length - (RowKit.intOf i).toNat)
 case atStart => exact ⟨n, by omega, by omega, rfl, Below.refl _ _, Hd (LeadTo.nil s n)⟩
 case round =>
   obtain ⟨k, hnk, hk, rfl, hb, HNo⟩ := hrel
   have HB := Hd hb
   clear hb
   have i0 : (0 : Int) ≤ k := Int.natCast_nonneg _
   have j0 : (0 : Int) ≤ n := Int.natCast_nonneg _
   have hsub : wrap64 ((k : Int) - n) = (k : Int) - n := IntWalk.wrap64_in _ (by omega)
   have hwr : wrap64 ((k : Int) + 1) = (k : Int) + 1 := IntWalk.wrap64_in _ (by omega)
   by_cases he : k < s.length
   · have i1 : (k : Int) < s.length := by omega
     cases q91 : ((s[k].toNat : Int) == 91) with
     | true =>
       have H91 := Hd (show (s[k].toNat : Int) = 91 by simpa using q91)
       go_wp2_with fail
       go_roundw
       case rel => exact ⟨k + 1, by omega, by omega, by simp, HB.out, Hd (HNo.out.step he H91.out)⟩
       case measure => simp [RowKit.intOf]; omega
     | false =>
     have H91 := Hd (show ∀ c r, s.drop k = c :: r → c ≠ 91 from drop_head he (fun c => c ≠ 91) (fun e => by rw [e] at q91; cases q91))
     by_cases h3 : k - n ≤ 3
     · have i3 : decide ((k : Int) - n > 3) = false := decide_eq_false (by omega)
       have i4 : decide (3 < (k : Int) - n) = false := decide_eq_false (by omega)
       by_cases hw : (s[k].toNat : Int) = 73 ∨ (s[k].toNat : Int) = 74
       · have HRES := Hd (show AtRes s n w (.returned (.int .i64 ((k : Int) + 1))) w from ⟨⟨k + 1, Or.inr (lead_num HNo.out h3 he hw), rfl⟩, Below.refl _ _⟩)
         have HT := Hd (lead_num HNo.out h3 he hw)
         rcases hw with hw | hw
         · have q1 : ((s[k].toNat : Int) == 73) = true := by rw [hw]; rfl
           clear hw
           go_wp2_with fail
           go_ret
           exact ⟨⟨k + 1, Or.inr HT.out, by simp⟩, HB.out⟩
         · have q1 : ((s[k].toNat : Int) == 74) = true := by rw [hw]; rfl
           have q2 : ((s[k].toNat : Int) == 73) = false := by rw [hw]; rfl
           clear hw
           go_wp2_with fail
           go_ret
           exact ⟨⟨k + 1, Or.inr HT.out, by simp⟩, HB.out⟩
       · have q1 : ((s[k].toNat : Int) == 73) = false := by rw [beq_eq_false_iff_ne]; exact fun e => hw (Or.inl e)
         have q2 : ((s[k].toNat : Int) == 74) = false := by rw [beq_eq_false_iff_ne]; exact fun e => hw (Or.inr e)
         have HW := Hd hw
         clear hw
         cases q76 : ((s[k].toNat : Int) == 76) with
         | false =>
           have q77 : ((s[k].toNat : Int) != 76) = true := by rw [bne, q76]; rfl
           have HNT := Hd (show NoTy s n from lead_no HNo.out H91.out (Or.inr (Or.inr (Or.inl ⟨s[k], _, List.drop_eq_getElem_cons he, fun e => HW.out (Or.inl (by rw [e]; rfl)), fun e => HW.out (Or.inr (by rw [e]; rfl)), fun e => by rw [e] at q76; cases q76⟩))))
           go_wp2_with fail
           go_ret
           exact AtRes.no HNT.out HB.out
         | true =>
           have q77 : ((s[k].toNat : Int) != 76) = false := by rw [bne, q76]; rfl
           have H76 := Hd (show (s[k].toNat : Int) = 76 by simpa using q76)
           go_wp2_with fail
           go_loopw [6] (fun i wr => ∃ j : Nat, k + 1 ≤ j ∧ j ≤ s.length ∧ i = .int .i64 j ∧ Below w.heap.size w wr ∧ Hid (No59 s (k + 1) j)) (fun i _ => s.length - (RowKit.intOf i).toNat)
           case atStart => exact ⟨k + 1, by omega, by omega, by simp, HB.out, Hd (No59.nil _ _)⟩
           case round =>
             obtain ⟨j, hkj, hj, rfl, hb, H59⟩ := hrel
             have HBr := Hd hb
             clear hb
             have jj0 : (0 : Int) ≤ j := Int.natCast_nonneg _
             have hwr2 : wrap64 ((j : Int) + 1) = (j : Int) + 1 := IntWalk.wrap64_in _ (by omega)
             by_cases hje : j < s.length
             · have jj1 : (j : Int) < s.length := by omega
               have jk : (k : Int) + 1 ≤ j := by omega
               have hk1 : (0 : Int) ≤ (k : Int) + 1 := by omega
               have hjl : (j : Int) ≤ s.length := by omega
               have hjne : ((j : Int) == (s.length : Int)) = false := by rw [beq_eq_false_iff_ne]; omega
               cases q59 : ((s[j].toNat : Int) == 59) with
               | false =>
                 have q60 : ((s[j].toNat : Int) != 59) = true := by rw [bne, q59]; rfl
                 have HNN := Hd (H59.out.step hkj hje (by simpa using q59))
                 go_wp2_with fail
                 go_roundw
                 case rel => exact ⟨j + 1, by omega, by omega, by simp, HBr.out, HNN⟩
                 case measure => simp [RowKit.intOf]; omega
               | true =>
                 have q60 : ((s[j].toNat : Int) != 59) = false := by rw [bne, q59]; rfl
                 have HJ := Hd (show (s[j].toNat : Int) = 59 by simpa using q59)
                 go_wp2_with fail
                 refine (HN.out _ _).mono ?_
                 rintro e w2 ⟨rfl, hb2⟩
                 have HB2 := Hd (bl_trans HBr.out hb2)
                 clear hb2
                 cases hnm : nameOk ((s.drop (k + 1)).take (j - (k + 1))) with
                 | true =>
                   have HNM := Hd (lead_cls HNo.out h3 he H76.out hkj hje HJ.out hnm)
                   clear hnm
                   go_wp2_with fail
                   go_ret
                   exact ⟨⟨j + 1, Or.inr HNM.out, by simp⟩, HB2.out⟩
                 | false =>
                   have HNT := Hd (show NoTy s n from lead_no HNo.out H91.out (Or.inr (Or.inr (Or.inr (Or.inr (lead_badname he H76.out hkj hje HJ.out H59.out hnm))))))
                   clear hnm
                   go_wp2_with fail
                   go_ret
                   exact AtRes.no HNT.out HB2.out
             · obtain rfl : j = s.length := by omega
               have HNT := Hd (show NoTy s n from lead_no HNo.out H91.out (Or.inr (Or.inr (Or.inr (Or.inl (lead_open he H76.out H59.out))))))
               go_wp2_with fail
               go_ret
               exact AtRes.no HNT.out HBr.out
     · have i3 : 3 < (k : Int) - n := by omega
       have HNT := Hd (show NoTy s n from lead_no HNo.out H91.out (Or.inl (by omega)))
       go_wp2_with fail
       go_ret
       exact AtRes.no HNT.out HB.out
   · obtain rfl : k = s.length := by omega
     have HNT := Hd (show NoTy s n from lead_no HNo.out (by simp) (Or.inr (Or.inl (by simp))))
     go_wp2_with fail
     · go_ret
       exact AtRes.no HNT.out HB.out
     · go_ret
       exact AtRes.no HNT.out HB.out
def TyRes (s : List UInt8) (w : World) (e : Ending) (w' : World) : Prop := (∃ b : Bool, (b = true ↔ TypeOk s) ∧ e = .returned (.bool b)) ∧ Below w.heap.size w w'
theorem rtype_calls (s : List UInt8) (w : World) (hs : s.length ≤ 8388608) : Calls Tryz.prog 28 #[.string ⟨⟨s⟩⟩] w (TyRes s w) := by
 have HT := Hd (fun W => (show Calls Tryz.prog 27 #[.string ⟨⟨s⟩⟩, .int .i64 0] W (AtRes s 0 W) from rtypeAt_calls s 0 W hs (by omega)))
 go_enter Tryz.func28, Tryz.ntmps28
 go_wp2_with fail
 · refine (HT.out _).mono ?_
   rintro e w1 ⟨⟨k, hk, rfl⟩, hb1⟩
   have HB1 := Hd hb1
   have HK := Hd hk
   clear hb1 hk
   go_wp2_with fail
   go_ret
   refine ⟨⟨_, ?_, rfl⟩, HB1.out⟩
   rw [type_whole]
   simp only [beq_iff_eq, Int.natCast_inj]
   constructor
   · rintro rfl
     rcases HK.out with ⟨h, _⟩ | h
     · omega
     · exact h
   · intro h
     rcases HK.out with ⟨_, h2⟩ | h2
     · exact absurd h (noTy_tyAt h2)
     · exact tyAt_uniq h2 h
 · go_ret
   refine ⟨⟨_, ?_, rfl⟩, Below.refl _ _⟩
   rw [type_whole]
   simp only [Bool.false_eq_true, false_iff]
   intro h
   have := h.1
   omega
theorem rword_calls (s : List UInt8) (w : World) : Calls Tryz.prog 110 #[.string ⟨⟨s⟩⟩] w (SomeB w) := by
 go_enter Tryz.func110, Tryz.ntmps110
 go_wp2_with fail
 all_goals (go_ret; exact ⟨⟨_, rfl⟩, Below.refl _ _⟩)
theorem rref_calls (s : List UInt8) (w : World) (hs : s.length ≤ 8388608) : Calls Tryz.prog 264 #[.string ⟨⟨s⟩⟩] w (SomeB w) := by
 have HT := Hd (fun W => rtype_calls s W hs)
 have HW := Hd (fun W => rword_calls s W)
 go_enter Tryz.func264, Tryz.ntmps264
 go_wp2_with fail
 refine (HT.out _).mono ?_
 rintro e w1 ⟨⟨b, hbq, rfl⟩, hb1⟩
 have HB1 := Hd hb1
 clear hb1 hbq
 cases b with
 | false =>
   go_wp2_with fail
   go_ret
   exact ⟨⟨_, rfl⟩, HB1.out⟩
 | true =>
   go_wp2_with fail
   refine (HW.out _).mono ?_
   rintro e w2 ⟨⟨b, rfl⟩, hb2⟩
   have HB2 := Hd (bl_trans HB1.out hb2)
   clear hb2
   go_wp2_with fail
   go_ret
   exact ⟨⟨_, rfl⟩, HB2.out⟩
def MoRel (s : List UInt8) (B : Nat) (w : World) (k : Nat) (v : Value) (wr : World) : Prop :=
 Below B w wr ∧ ∃ A : List (List UInt8), wr.ownsRow B 9 1 v A.length (A.map strV) ∧ ReadTo s k A
def MoRes (s : List UInt8) (w : World) (e : Ending) (w' : World) : Prop :=
 Below w.heap.size w w' ∧ ((e = .returned (.tuple #[.slice none 0 0, .string ⟨#[]⟩, .bool false]) ∧ ∀ A g, ¬ MethodOk s A g) ∨
   ∃ v A g, e = .returned (.tuple #[v, .string ⟨⟨g⟩⟩, .bool true]) ∧ MethodOk s A g ∧ w'.ownsRow w.heap.size 9 1 v A.length (A.map strV))
theorem MoRes.no {s : List UInt8} {w w' : World} (hb : Below w.heap.size w w') (h : ∀ A g, ¬ MethodOk s A g) : MoRes s w (.returned (.tuple #[.slice none 0 0, .string ⟨#[]⟩, .bool false])) w' := ⟨hb, Or.inl ⟨rfl, h⟩⟩
theorem methodOf_calls (s : List UInt8) (hs : s.length ≤ 8388608) (w : World) : Calls Tryz.prog 9 #[.string ⟨⟨s⟩⟩] w (MoRes s w) := by
 obtain ⟨i0, hi, hz0, hz1, hz2⟩ := info_parts info_str
 obtain ⟨B, hB⟩ : ∃ B, B = w.heap.size := ⟨_, rfl⟩
 have HB := Hd hB
 clear hB
 by_cases h0 : s.length = 0
 · obtain rfl : s = [] := List.eq_nil_of_length_eq_zero h0
   clear h0 hs
   go_enter Tryz.func9, Tryz.ntmps9
   go_wp2_with fail
   go_ret3
   exact .no (Below.refl _ _) (fun A g h => by have := h.1; cases this)
 have h1 : (0 : Int) < s.length := by omega
 have h1n : 0 < s.length := by omega
 have h2 : ((s.length : Int) == 0) = false := by rw [beq_eq_false_iff_ne]; omega
 cases q40 : ((s[0].toNat : Int) == 40) with
 | false =>
   have q41 : ((s[0].toNat : Int) != 40) = true := by rw [bne, q40]; rfl
   have HNO := Hd (show ∀ A g, ¬ MethodOk s A g from fun A g h => by
     have e := h.1
     subst e
     simp at q40)
   go_enter Tryz.func9, Tryz.ntmps9
   go_wp2_with fail
   go_ret3
   exact .no (Below.refl _ _) HNO.out
 | true =>
 have q41 : ((s[0].toNat : Int) != 40) = false := by rw [bne, q40]; rfl
 have HST := Hd (read_start h1n (by simpa using q40))
 have HAT := Hd (fun k W (hk : k ≤ s.length) => rtypeAt_calls s k W hs hk)
 go_enter Tryz.func9, Tryz.ntmps9
 go_wp2_with fail
 clear q40 q41
 go_loopw [5, 6] (fun v i wr => ∃ k : Nat, i = .int .i64 k ∧ MoRel s B w k v wr) (fun _ i _ => s.length - (RowKit.intOf i).toNat)
 case atStart => exact ⟨1, rfl, Below.refl _ _, [], by simpa using World.ownsRow_nil w B _ 1, HST.out⟩
 case round =>
   obtain ⟨k, rfl, hw, A, hown, hrd⟩ := hrel
   have hAl := read_len hrd
   have hk := hrd.2.1
   have hk1 := hrd.1
   have HW := Hd hw
   have HRD := Hd hrd
   obtain ⟨av, cv, rfl, _⟩ := slice_of_own hown
   have HO := Hd hown
   have i0' : (0 : Int) ≤ k := Int.natCast_nonneg _
   clear hw hrd hown
   by_cases he : k < s.length
   · have i1 : (k : Int) < s.length := by omega
     cases q : ((s[k].toNat : Int) == 41) with
     | false =>
       have q2 : ((s[k].toNat : Int) != 41) = true := by rw [bne, q]; rfl
       have HQ := Hd (show (s[k].toNat : Int) ≠ 41 by simpa using q)
       clear q
       go_wp2_with fail
       refine (HAT.out k wr hk).mono ?_
       rintro e w1 ⟨⟨j, hj, rfl⟩, hb1⟩
       rcases hj with ⟨rfl, hno⟩ | hj
       · have HNO := Hd (read_no HRD.out hno (drop_no41 he HQ.out))
         have HB1 := Hd hb1
         clear hno hb1
         go_wp2_with fail
         go_ret3
         have h := HB.out
         subst h
         exact .no (HW.out.trans (HB1.out.mono HW.out.size)) HNO.out
       · have hjk := hj.1
         have hjl := hj.2.1
         have HJ := Hd hj
         have hown1 : w1.ownsRow B 9 1 (.slice av A.length cv) A.length (A.map strV) := own_below HO.out hb1
         have hs1 : B ≤ w1.heap.size := by have := hb1.size; have := HW.out.size; have := HB.out; omega
         have HB1 := Hd hb1
         have j0 : ((j : Int) == 0) = false := by rw [beq_eq_false_iff_ne]; omega
         have j1 : (k : Int) ≤ j := by omega
         have j2 : (j : Int) ≤ s.length := by omega
         clear hb1 hj q2
         go_wp2_with (at_builtin; refine wpList_append_own _ rfl _ _ 35 rfl B 9 i0 (.string ByteArray.empty) 1 16 Tryz.underlying35 hi hz0 hz1 hz2 rfl (by decide) _ _ _ rfl (hown1.alloc _) ⟨w1.heap.size, 0, none⟩ 1 1 [strV ((s.drop k).take (j - k))] rfl rfl ?c1 ?c2 ?c3 ?c4 ?c5 ?_)
         case c1 => exact fun i v hi => new_cells w1 [strV ((s.drop k).take (j - k))] 9 i v hi
         case c2 => intro x hx; simp only [List.mem_cons, List.mem_nil_iff, or_false] at hx; rcases hx with rfl; rfl
         case c3 => unfold maxLen; omega
         case c4 => omega
         case c5 => simp; omega
         intro v' w2 ho hg _
         have HN := Hd (show MoRel s B w j v' w2 from ⟨((HW.out.trans (HB1.out.mono (by have := HW.out.size; have := HB.out; omega))).alloc hs1 _).grown hg (by simp; omega) (fun i hi => (hown1.lt i hi).1), _, by simpa using ho, read_more HRD.out HJ.out⟩)
         clear ho hg hown1 HW HRD HJ HB1 HO
         go_wp2_with fail
         go_roundw
         case rel => exact ⟨j, rfl, HN.out⟩
         case measure => simp [RowKit.intOf]; omega
     | true =>
       have HQ := Hd (show (s[k].toNat : Int) = 41 by simpa using q)
       have q2 : ((s[k].toNat : Int) != 41) = false := by rw [bne, q]; rfl
       clear q
       by_cases h5 : 5 < A.length
       · have i5 : (5 : Int) < A.length := by omega
         have HNO := Hd (read_wrong HRD.out he HQ.out (Or.inl h5))
         go_wp2_with fail
         go_ret3
         have h := HB.out
         subst h
         exact .no HW.out HNO.out
       · have i5 : ¬ (5 : Int) < A.length := by omega
         obtain ⟨g, hg⟩ : ∃ g, g = s.drop (k + 1) := ⟨_, rfl⟩
         have HG := Hd hg
         have HGL := Hd (show g.length ≤ 8388608 by rw [hg, List.length_drop]; omega)
         have htk : List.take (s.length - (k + 1)) (List.drop (k + 1) s) = g := by rw [hg]; exact List.take_of_length_le (by simp)
         clear hg
         by_cases hV : g = [86]
         · have HGO := Hd (show MethodOk s A g by have := read_right HRD.out he HQ.out (by omega) (Or.inl (HG.out.symm.trans hV)); rw [HG.out]; exact this)
           clear HG HGL
           subst hV
           go_wp2_with fail
           go_ret3
           have h := HB.out
           subst h
           exact ⟨HW.out, Or.inr ⟨_, A, _, rfl, HGO.out, HO.out⟩⟩
         · have hq : (g == [86]) = false := by rw [beq_eq_false_iff_ne]; exact hV
           have HV := Hd hV
           have HTY := Hd (fun W => rtype_calls g W HGL.out)
           clear hV
           go_wp2_with fail
           refine (HTY.out wr).mono ?_
           rintro e w1 ⟨⟨b, hbt, rfl⟩, hb1⟩
           have HB1 := Hd hb1
           have HBT := Hd hbt
           have HO1 := Hd (own_below HO.out hb1)
           clear hb1 hbt
           cases b with
           | true =>
             have HGO := Hd (show MethodOk s A g by have := read_right HRD.out he HQ.out (by omega) (Or.inr (HG.out ▸ HBT.out.1 rfl)); rw [HG.out]; exact this)
             clear HBT
             go_wp2_with fail
             go_ret3
             have h := HB.out
             subst h
             exact ⟨HW.out.trans (HB1.out.mono HW.out.size), Or.inr ⟨_, A, _, rfl, HGO.out, HO1.out⟩⟩
           | false =>
             have HNO := Hd (read_wrong HRD.out he HQ.out (Or.inr (fun h => by
               rw [← HG.out] at h
               exact h.elim HV.out (fun h2 => by have := HBT.out.2 h2; cases this))))
             clear HBT
             go_wp2_with fail
             go_ret3
             have h := HB.out
             subst h
             exact .no (HW.out.trans (HB1.out.mono HW.out.size)) HNO.out
   · obtain rfl : k = s.length := by omega
     have HNO := Hd (read_no HRD.out noTy_end (by simp))
     go_wp2_with fail
     go_ret3
     have h := HB.out
     subst h
     exact .no HW.out HNO.out
def SomeQ (w : World) (e : Ending) (w' : World) : Prop := (∃ b : Bool, e = .returned (.bool b)) ∧ w = w'
def IsQ (b : Bool) (w : World) (e : Ending) (w' : World) : Prop := e = .returned (.bool b) ∧ w = w'
theorem rword32_calls (n : Int) (w : World) : Calls Tryz.prog 111 #[.int .i64 n] w (SomeQ w) := by
 go_enter Tryz.func111, Tryz.ntmps111
 go_wp2_with fail
 all_goals (go_ret; exact ⟨⟨_, rfl⟩, rfl⟩)
theorem rends_calls (n : Int) (w : World) : Calls Tryz.prog 225 #[.int .i64 n] w (SomeB w) := by
 go_enter Tryz.func225, Tryz.ntmps225
 go_wp2_with fail
 all_goals (go_ret; exact ⟨⟨_, rfl⟩, Below.refl _ _⟩)
theorem rjumps_calls (n : Int) (w : World) : Calls Tryz.prog 40 #[.int .i64 n] w (IsQ (jumpsB n) w) := by
 go_enter Tryz.func40, Tryz.ntmps40
 go_wp2_with fail
 all_goals (go_ret; exact ⟨ret_bool (by rw [Bool.eq_iff_iff]; unfold jumpsB; simp only [Bool.and_eq_true, decide_eq_true_eq, Bool.or_eq_true, beq_iff_eq, Bool.false_eq_true, iff_true, iff_false, false_iff, true_iff]; omega), rfl⟩)
end Go.Proofs.YtddbnboicmaooaaGreatDoor
