/-
  The walks of package desc: cut, Check.
-/
import Derived.Test.YtokomofjcnefaaaDoorName
import Derived.Test.YtokomofjcnefaaaDoorPDesc
namespace Go.Proofs.YtokomofjcnefaaaDoor
set_option linter.unusedVariables false
set_option linter.unusedSimpArgs false
open Go.RowKit Go.Shelf Go.Lib

@[go_sem] theorem extract_mk (l : List UInt8) (a b : Nat) : (⟨⟨l⟩⟩ : ByteArray).extract a b = ⟨⟨(l.drop a).take (b - a)⟩⟩ := by
  have h := extract_data ⟨⟨l⟩⟩ a b
  cases hx : (⟨⟨l⟩⟩ : ByteArray).extract a b with
  | mk x =>
    rw [hx] at h
    cases x
    simp only at h
    rw [h]
@[go_sem] theorem append_mk (a b : List UInt8) : (⟨⟨a⟩⟩ : ByteArray) ++ ⟨⟨b⟩⟩ = ⟨⟨a ++ b⟩⟩ := by
  rw [ByteArray.mk_append_mk]

@[go_sem] theorem get_mk (l : List UInt8) (i : Nat) (h : i < (⟨⟨l⟩⟩ : ByteArray).size) : (⟨⟨l⟩⟩ : ByteArray)[i]'h = l[i]'h := rfl

theorem ret_cut {a b c d : List UInt8} (h1 : a = c) (h2 : b = d) : Ending.returned (.tuple #[.string ⟨⟨a⟩⟩, .string ⟨⟨b⟩⟩, .bool true]) = .returned (.tuple #[.string ⟨⟨c⟩⟩, .string ⟨⟨d⟩⟩, .bool true]) := by rw [h1, h2]

theorem trimLeft_lead (P X : List UInt8) (hP : ∀ b ∈ P, b = 91) (hX : ∀ c r, X = c :: r → c ≠ 91) (w : World) :
    Calls Tryd.prog 81 #[.string ⟨⟨P ++ X⟩⟩, .string ⟨#[91]⟩] w fun e w' => e = .returned (.string ⟨⟨X⟩⟩) ∧ w = w' := by
  have h := Tryd.strings_TrimLeft_one ⟨⟨P ++ X⟩⟩ 91 (by decide) w
  rw [show (⟨⟨P ++ X⟩⟩ : ByteArray).data.toList = P ++ X from rfl, dropWhile_lead P X hP hX] at h
  exact h.mono fun e w' ⟨h1, h2⟩ => ⟨h1, h2.symm⟩

theorem index59 (l : List UInt8) (v : Int) (h : indexByte l 59 = v) (w : World) : Calls Tryd.prog 24 #[.string ⟨⟨l⟩⟩, .int .u8 59] w fun e w' => e = .returned (.int .i64 v) ∧ w = w' := by
  have h1 := Tryd.strings_IndexByte ⟨⟨l⟩⟩ 59 w
  exact h1.mono fun e w' ⟨h2, h3⟩ => ⟨by rw [h2, ← h]; rfl, h3.symm⟩
theorem no59_cons {n : List UInt8} (h : ∀ b ∈ n, b ≠ 59) : ∀ b ∈ (76 :: n), b ≠ 59 := by
  intro b hb
  rcases List.mem_cons.1 hb with h1 | h1
  · rw [h1]; decide
  · exact h b h1

set_option maxRecDepth 100000 in
set_option maxHeartbeats 400000 in
theorem cut_yes_word (c : UInt8) (hc : c = 73 ∨ c = 74) (P r : List UInt8) (hP : ∀ b ∈ P, b = 91) (h3 : P.length ≤ 3) (hr : r.length ≤ 4611686018427387904) (w : World) :
    Calls Tryd.prog 65 #[.string ⟨⟨P ++ c :: r⟩⟩] w fun e w' => e = .returned (.tuple #[.string ⟨⟨P ++ [c]⟩⟩, .string ⟨⟨r⟩⟩, .bool true]) ∧ Below w.heap.size w w' := by
  have ht := fun w => trimLeft_lead P (c :: r) hP (by intro c' r' e; cases e; rcases hc with rfl | rfl <;> decide) w
  have HT := Lib.hid ht
  clear ht hP
  rcases hc with rfl | rfl
  all_goals
    go_enter Tryd.func65, Tryd.ntmps65
    go_wp2_with fail
    refine (HT.out _).mono ?_
    rintro e w1 ⟨rfl, rfl⟩
    go_wp2_with fail
    go_region
    go_wp2_with fail
    go_ret3
    refine ⟨ret_cut (List.take_length_add_append 1) (List.take_of_length_le (by omega)), (Below.refl _ _).drew⟩

set_option maxRecDepth 100000 in
set_option maxHeartbeats 400000 in
theorem cut_yes_class (n P r : List UInt8) (hn : nameOk n = true) (hP : ∀ b ∈ P, b = 91) (h3 : P.length ≤ 3) (hr : r.length ≤ 4611686018427387904) (w : World) :
    Calls Tryd.prog 65 #[.string ⟨⟨P ++ 76 :: (n ++ 59 :: r)⟩⟩] w fun e w' => e = .returned (.tuple #[.string ⟨⟨P ++ 76 :: (n ++ [59])⟩⟩, .string ⟨⟨r⟩⟩, .bool true]) ∧ Below w.heap.size w w' := by
  have ht := fun w => trimLeft_lead P (76 :: (n ++ 59 :: r)) hP (by intro c' r' e; cases e; decide) w
  have HT := Lib.hid ht
  have hi := fun w => index59 (76 :: (n ++ 59 :: r)) ((n.length : Int) + 1) (by simpa using indexByte_at (76 :: n) r 59 (no59_cons (name_no59 hn))) w
  have HI := Lib.hid hi
  have hl := name_len hn
  have hl1 := hl.1
  have hl2 := hl.2
  have HN : ∀ w, Hid (Calls Tryd.prog 15 #[.string ⟨⟨n⟩⟩] w fun e w' => e = .returned .nilIface ∧ Below w.heap.size w w') := fun w => name_ok ⟨⟨n⟩⟩ w hn
  clear ht hP hi hn hl
  have e1 : List.take (n.length + (r.length + 1)) (n ++ 59 :: r) = n ++ 59 :: r := List.take_of_length_le (by simp)
  go_enter Tryd.func65, Tryd.ntmps65
  go_wp2_with fail
  refine (HT.out _).mono ?_
  rintro e w1 ⟨rfl, rfl⟩
  go_wp2_with fail
  refine (HI.out _).mono ?_
  rintro e w1 ⟨rfl, rfl⟩
  go_wp2_with fail
  refine (HN _).out.mono ?_
  rintro e w1 ⟨rfl, hb⟩
  go_wp2_with fail
  go_region
  go_wp2_with fail
  go_ret3
  refine ⟨ret_cut ?_ ?_, hb.drew⟩
  · rw [show n.length + 1 + 1 = (76 :: (n ++ [59])).length by simp, List.take_length_add_append, show 76 :: (n ++ 59 :: r) = (76 :: (n ++ [59])) ++ r by simp, List.take_left]
  · rw [show P.length + (n.length + 1 + 1) = (P ++ (76 :: (n ++ [59]))).length by simp, show P ++ 76 :: (n ++ 59 :: r) = (P ++ (76 :: (n ++ [59]))) ++ r by simp, List.drop_left]
    exact List.take_of_length_le (by simp; omega)

theorem ret_cutno {b d : List UInt8} (h2 : b = d) : Ending.returned (.tuple #[.string ⟨#[]⟩, .string ⟨⟨b⟩⟩, .bool false]) = .returned (.tuple #[.string ⟨#[]⟩, .string ⟨⟨d⟩⟩, .bool false]) := by rw [h2]

def NoCut (l : List UInt8) (w : World) : Prop := Calls Tryd.prog 65 #[.string ⟨⟨l⟩⟩] w fun e w' => e = .returned (.tuple #[.string ⟨#[]⟩, .string ⟨⟨l⟩⟩, .bool false]) ∧ Below w.heap.size w w'

set_option maxRecDepth 100000 in
set_option maxHeartbeats 400000 in
theorem cut_no_deep (P X : List UInt8) (hP : ∀ b ∈ P, b = 91) (hX : ∀ c r, X = c :: r → c ≠ 91) (hl : (P ++ X).length ≤ 4611686018427387904) (h3 : 3 < P.length) (w : World) : NoCut (P ++ X) w := by
  have ht := fun w => trimLeft_lead P X hP hX w
  have HT := Lib.hid ht
  rw [List.length_append] at hl
  clear ht hP hX
  unfold NoCut
  go_enter Tryd.func65, Tryd.ntmps65
  go_wp2_with fail
  refine (HT.out _).mono ?_
  rintro e w1 ⟨rfl, rfl⟩
  go_wp2_with fail
  all_goals go_ret3
  all_goals exact ⟨ret_cutno rfl, Below.refl _ _⟩

set_option maxRecDepth 100000 in
set_option maxHeartbeats 400000 in
theorem cut_no_nil (P : List UInt8) (hP : ∀ b ∈ P, b = 91) (h3 : P.length ≤ 3) (w : World) : NoCut P w := by
  have ht := fun w => trimLeft_lead P [] hP (by simp) w
  simp only [List.append_nil] at ht
  have HT := Lib.hid ht
  clear ht hP
  unfold NoCut
  go_enter Tryd.func65, Tryd.ntmps65
  go_wp2_with fail
  refine (HT.out _).mono ?_
  rintro e w1 ⟨rfl, rfl⟩
  go_wp2_with fail
  all_goals go_ret3
  all_goals exact ⟨ret_cutno rfl, Below.refl _ _⟩

set_option maxRecDepth 100000 in
set_option maxHeartbeats 400000 in
theorem cut_no_head (c : UInt8) (P r : List UInt8) (hP : ∀ b ∈ P, b = 91) (hc : c ≠ 91) (h3 : P.length ≤ 3) (hr : r.length ≤ 4611686018427387904) (c1 : c ≠ 73) (c2 : c ≠ 74) (c3 : c ≠ 76) (w : World) : NoCut (P ++ c :: r) w := by
  have ht := fun w => trimLeft_lead P (c :: r) hP (by intro c' r' e; cases e; exact hc) w
  have HT := Lib.hid ht
  have d1 : ((c.toNat : Int) == 73) = false := by
    rw [beq_eq_false_iff_ne]; intro e; apply c1; apply UInt8.toNat_inj.1; exact Int.ofNat.inj e
  have d2 : ((c.toNat : Int) == 74) = false := by
    rw [beq_eq_false_iff_ne]; intro e; apply c2; apply UInt8.toNat_inj.1; exact Int.ofNat.inj e
  have d3 : ((c.toNat : Int) == 76) = false := by
    rw [beq_eq_false_iff_ne]; intro e; apply c3; apply UInt8.toNat_inj.1; exact Int.ofNat.inj e
  clear ht hP hc c1 c2 c3
  unfold NoCut
  go_enter Tryd.func65, Tryd.ntmps65
  go_wp2_with fail
  refine (HT.out _).mono ?_
  rintro e w1 ⟨rfl, rfl⟩
  go_wp2_with fail
  all_goals go_ret3
  all_goals exact ⟨ret_cutno rfl, Below.refl _ _⟩

set_option maxRecDepth 100000 in
set_option maxHeartbeats 400000 in
theorem cut_no_open (P r : List UInt8) (hP : ∀ b ∈ P, b = 91) (h3 : P.length ≤ 3) (hr : r.length ≤ 4611686018427387904) (hn : ∀ b ∈ r, b ≠ 59) (w : World) : NoCut (P ++ 76 :: r) w := by
  have ht := fun w => trimLeft_lead P (76 :: r) hP (by intro c' r' e; cases e; decide) w
  have HT := Lib.hid ht
  have hi := fun w => index59 (76 :: r) (-1) (indexByte_not _ 59 (no59_cons hn)) w
  have HI := Lib.hid hi
  clear ht hP hn hi
  unfold NoCut
  go_enter Tryd.func65, Tryd.ntmps65
  go_wp2_with fail
  refine (HT.out _).mono ?_
  rintro e w1 ⟨rfl, rfl⟩
  go_wp2_with fail
  refine (HI.out _).mono ?_
  rintro e w1 ⟨rfl, rfl⟩
  go_wp2_with fail
  go_ret3
  exact ⟨ret_cutno rfl, Below.refl _ _⟩

set_option maxRecDepth 100000 in
set_option maxHeartbeats 400000 in
theorem cut_no_name (n P r : List UInt8) (hn : nameOk n = false) (hs : ∀ b ∈ n, b ≠ 59) (hP : ∀ b ∈ P, b = 91) (h3 : P.length ≤ 3) (hl : n.length ≤ 4611686018427387904) (hr : r.length ≤ 4611686018427387904) (w : World) :
    NoCut (P ++ 76 :: (n ++ 59 :: r)) w := by
  have ht := fun w => trimLeft_lead P (76 :: (n ++ 59 :: r)) hP (by intro c' r' e; cases e; decide) w
  have HT := Lib.hid ht
  have hi := fun w => index59 (76 :: (n ++ 59 :: r)) ((n.length : Int) + 1) (by simpa using indexByte_at (76 :: n) r 59 (no59_cons hs)) w
  have HI := Lib.hid hi
  have HN : ∀ w, Hid (Calls Tryd.prog 15 #[.string ⟨⟨n⟩⟩] w fun e w' => e = .returned (errV 1) ∧ Below w.heap.size w w') := fun w => name_bad ⟨⟨n⟩⟩ w hn
  clear ht hP hi hn hs
  have e1 : List.take (n.length + (r.length + 1)) (n ++ 59 :: r) = n ++ 59 :: r := List.take_of_length_le (by simp)
  unfold NoCut
  go_enter Tryd.func65, Tryd.ntmps65
  go_wp2_with fail
  refine (HT.out _).mono ?_
  rintro e w1 ⟨rfl, rfl⟩
  go_wp2_with fail
  refine (HI.out _).mono ?_
  rintro e w1 ⟨rfl, rfl⟩
  go_wp2_with fail
  refine (HN _).out.mono ?_
  rintro e w1 ⟨rfl, hb⟩
  go_wp2_with fail
  go_ret3
  exact ⟨ret_cutno rfl, hb⟩

/-- cut, where the text begins with a type -/
theorem cut_yes (t r : List UInt8) (ht : TypeOk t) (hr : r.length ≤ 4611686018427387904) (w : World) :
    Calls Tryd.prog 65 #[.string ⟨⟨t ++ r⟩⟩] w fun e w' => e = .returned (.tuple #[.string ⟨⟨t⟩⟩, .string ⟨⟨r⟩⟩, .bool true]) ∧ Below w.heap.size w w' := by
  obtain ⟨P, X, rfl, hP, h3, rfl | rfl | ⟨n, hn, rfl⟩⟩ := ht
  · have := cut_yes_word 73 (Or.inl rfl) P r hP h3 hr w
    simpa using this
  · have := cut_yes_word 74 (Or.inr rfl) P r hP h3 hr w
    simpa using this
  · have := cut_yes_class n P r hn hP h3 hr w
    simpa using this

/-- cut, where it does not -/
theorem cut_no (l : List UInt8) (h : ∀ t r, l = t ++ r → ¬ TypeOk t) (hl : l.length ≤ 4611686018427387904) (w : World) : NoCut l w := by
  rcases cut_ways l with ⟨t, r, e, ht⟩ | ⟨P, X, rfl, hP, hX, hc⟩
  · exact absurd ht (h t r e)
  · rw [List.length_append] at hl
    rcases hc with h3 | ⟨h3, rfl⟩ | ⟨h3, c, r, rfl, c1, c2, c3⟩ | ⟨h3, r, rfl, hr⟩ | ⟨h3, n, r, rfl, hn, hb⟩
    · exact cut_no_deep P X hP hX (by rw [List.length_append]; exact hl) h3 w
    · rw [List.append_nil]; exact cut_no_nil P hP h3 w
    · exact cut_no_head c P r hP (hX c r rfl) h3 (by simp at hl; omega) c1 c2 c3 w
    · exact cut_no_open P r hP h3 (by simp at hl; omega) hr w
    · exact cut_no_name n P r hb hn hP h3 (by simp at hl; omega) (by simp at hl; omega) w

set_option maxRecDepth 100000 in
theorem check_ok (t : List UInt8) (h : TypeOk t) (w : World) : Calls Tryd.prog 42 #[.string ⟨⟨t⟩⟩] w fun e w' => e = .returned .nilIface ∧ Below w.heap.size w w' := by
  have hc := fun w => cut_yes t [] h (by simp) w
  simp only [List.append_nil] at hc
  have HC := Lib.hid hc
  clear hc
  go_enter Tryd.func42, Tryd.ntmps42
  go_wp2_with fail
  refine (HC.out _).mono ?_
  rintro e w1 ⟨rfl, hb⟩
  go_wp2_with fail
  go_ret
  exact ⟨rfl, hb⟩

set_option maxRecDepth 100000 in
theorem check_bad (l : List UInt8) (h : ¬ TypeOk l) (hl : l.length ≤ 4611686018427387904) (w : World) : Calls Tryd.prog 42 #[.string ⟨⟨l⟩⟩] w fun e w' => e = .returned (errV 1) ∧ Below w.heap.size w w' := by
  by_cases hx : ∃ t r, l = t ++ r ∧ TypeOk t
  · obtain ⟨t, r, rfl, ht⟩ := hx
    cases r with
    | nil => rw [List.append_nil] at h; exact absurd ht h
    | cons x r =>
      simp only [List.length_append] at hl
      have hc := fun w => cut_yes t (x :: r) ht (by omega) w
      have HC := Lib.hid hc
      clear hc h
      go_enter Tryd.func42, Tryd.ntmps42
      go_wp2_with fail
      refine (HC.out _).mono ?_
      rintro e w1 ⟨rfl, hb⟩
      go_wp2_with fail
      go_ret
      exact ⟨rfl, hb⟩
  · have hc := fun w => cut_no l (fun t r e ht => hx ⟨t, r, e, ht⟩) hl w
    unfold NoCut at hc
    have HC := Lib.hid hc
    clear hc h
    go_enter Tryd.func42, Tryd.ntmps42
    go_wp2_with fail
    refine (HC.out _).mono ?_
    rintro e w1 ⟨rfl, hb⟩
    go_wp2_with fail
    go_ret
    exact ⟨rfl, hb⟩
end Go.Proofs.YtokomofjcnefaaaDoor
