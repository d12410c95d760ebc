/-
  NameLetters: the walk of the law.
-/
import Derived.Test.YtnamnihdbemkhaaDoorName
import Derived.Deep.DeepFit
import Derived.Laws.BytesArg
import Derived.Lib.SmallJoins
import Derived.Lib.IndexBytes
namespace Go.Proofs.YtnamnihdbemkhaaDoor
open Go.RowKit Go.Shelf Go.Lib
set_option linter.unusedVariables false

theorem turn_lt (a : Int) (n : Nat) (h0 : 0 < n) (h1 : n ≤ 9223372036854775807) : ∃ k : Nat, k < n ∧ wrap64 ((IntKind.u64.wrap a).tmod ↑n) = (k : Int) := by
  have hw : 0 ≤ IntKind.u64.wrap a := by rw [IntKind.wrap_u64]; omega
  have h2 : (IntKind.u64.wrap a).tmod ↑n = (IntKind.u64.wrap a) % ↑n := Int.tmod_eq_emod_of_nonneg hw
  have h3 : 0 ≤ (IntKind.u64.wrap a) % (n : Int) := Int.emod_nonneg _ (by omega)
  have h4 : (IntKind.u64.wrap a) % (n : Int) < n := Int.emod_lt_of_pos _ (by omega)
  refine ⟨((IntKind.u64.wrap a) % (n : Int)).toNat, by omega, ?_⟩
  rw [h2, Int.toNat_of_nonneg h3]
  exact IntWalk.wrap64_in _ (by omega)

theorem conv_one (W : World) (c : Int) : (convert 27 9 (.slice (some ⟨W.heap.size, 0, none⟩) 1 1)).run Tryd.prog ((W.alloc (.cells #[.int .u8 c] 5)).drew) = .ok (.string ⟨#[UInt8.ofNat c.toNat]⟩) ((W.alloc (.cells #[.int .u8 c] 5)).drew) := by
  refine run_convert_bytes_arg (P := Tryd.prog) ((W.alloc (.cells #[.int .u8 c] 5)).drew) 27 5 Tryd.underlying27 Tryd.underlying5 W.heap.size 0 1 1 [c] rfl ?_ 9 Tryd.underlying9
  intro i hi
  obtain rfl : i = 0 := by omega
  rw [World.cell?_drew]
  exact World.cell?_alloc_new _ _ _ _

theorem tail_data (s : ByteArray) (k : Nat) (c : UInt8) : (s.extract 0 k ++ ⟨#[c]⟩ ++ s.extract (k + 1) s.size).data.toList = s.data.toList.take k ++ [c] ++ s.data.toList.drop (k + 1) := by
  rw [Joins.data_append, Joins.data_append, extract_data, extract_to_end]
  simp

def Classy (c : Int) : Prop := (0 ≤ c ∧ c < 48) ∨ (48 ≤ c ∧ c ≤ 57) ∨ (57 < c ∧ c < 65) ∨ (65 ≤ c ∧ c ≤ 90) ∨ (90 < c ∧ c < 95) ∨ c = 95 ∨ c = 96 ∨ (97 ≤ c ∧ c ≤ 122) ∨ (122 < c ∧ c ≤ 255)
theorem classy (c : Int) (h0 : 0 ≤ c) (h1 : c ≤ 255) : Classy c := by unfold Classy; omega

set_option maxHeartbeats 400000 in
theorem nameLetters_bad (s : ByteArray) (pos c : Int) (w : World) (h : nameOk s.data.toList = false) :
    Calls Tryd.prog 3 #[.string s, .int .i64 pos, .int .u8 c] w fun e w' => e = .returned (.bool true) ∧ Below w.heap.size w w' := by
  have H := Lib.hid h
  clear h
  go_enter Tryd.func3, Tryd.ntmps3
  go_wp2_with fail
  refine (named_true _).mono ?_
  rintro e w1 ⟨rfl, hb⟩
  go_wp2_with fail
  refine (name_bad _ _ H.out).mono ?_
  rintro e w2 ⟨rfl, hb2⟩
  go_wp2_with fail
  go_ret
  exact ⟨rfl, hb.trans (hb2.mono hb.size)⟩

/-- what the law's last line says of the new byte -/
def letZ (c : Int) : Bool := (decide (97 ≤ c) && decide (c ≤ 122)) || (decide (65 ≤ c) && decide (c ≤ 90)) || c == 95
def digZ (c : Int) : Bool := decide (48 ≤ c) && decide (c ≤ 57)
theorem letZ_eq (c : Int) (h0 : 0 ≤ c) (h1 : c ≤ 255) : letB (UInt8.ofNat c.toNat) = letZ c := by
  obtain ⟨n, rfl⟩ := Int.eq_ofNat_of_zero_le h0
  have : (UInt8.ofNat (n : Int).toNat).toNat = n := by simp [UInt8.toNat_ofNat']; omega
  unfold letB letZ
  rw [this, Bool.eq_iff_iff]
  simp
  omega
theorem digZ_eq (c : Int) (h0 : 0 ≤ c) (h1 : c ≤ 255) : digB (UInt8.ofNat c.toNat) = digZ c := by
  obtain ⟨n, rfl⟩ := Int.eq_ofNat_of_zero_le h0
  have : (UInt8.ofNat (n : Int).toNat).toNat = n := by simp [UInt8.toNat_ofNat']; omega
  unfold digB digZ
  rw [this, Bool.eq_iff_iff]
  simp
  omega

set_option maxRecDepth 100000 in
set_option maxHeartbeats 4000000 in
theorem nameLetters_ok (s : ByteArray) (pos c : Int) (w : World) (h : nameOk s.data.toList = true) (hc0 : 0 ≤ c) (hc1 : c ≤ 255) :
    Calls Tryd.prog 3 #[.string s, .int .i64 pos, .int .u8 c] w fun e w' => e = .returned (.bool true) ∧ Below w.heap.size w w' := by
  have hl : s.size = s.data.toList.length := Array.length_toList.symm
  have hz : 0 < s.size := by
    obtain ⟨b, r, hr, _⟩ := nameOk_true h
    rw [hr] at hl
    simp at hl
    omega
  have hz20 : s.size ≤ 20 := by
    obtain ⟨b, r, hr, h20, _⟩ := nameOk_true h
    rw [hr] at hl
    omega
  obtain ⟨k, hk, e⟩ := turn_lt pos s.size hz (by omega)
  have hset := nameOk_set s.data.toList k (UInt8.ofNat c.toNat) h (by omega)
  rw [← tail_data s k, letZ_eq c hc0 hc1, digZ_eq c hc0 hc1] at hset
  have HS := Lib.hid hset
  have E := Lib.hid e
  have H := Lib.hid h
  clear h hset e hl
  have hkp : (decide (0 < k)) = decide ((0 : Int) < (k : Int)) := by rw [decide_eq_decide]; omega
  by_cases hv : (letZ c || (digZ c && decide (0 < k))) = true
  · have HP : Hid ((97 ≤ c ∧ c ≤ 122) ∨ (65 ≤ c ∧ c ≤ 90) ∨ c = 95 ∨ (48 ≤ c ∧ c ≤ 57 ∧ 0 < k)) := by
      simp only [letZ, digZ, Bool.or_eq_true, Bool.and_eq_true, decide_eq_true_eq, beq_iff_eq] at hv
      show _ ∨ _
      omega
    have HV : Hid (nameOk (s.extract 0 k ++ ⟨#[UInt8.ofNat c.toNat]⟩ ++ s.extract (k + 1) s.size).data.toList = true) := by rw [HS.out]; exact hv
    clear hv hkp HS
    go_enter Tryd.func3, Tryd.ntmps3
    go_wp2_with fail
    refine (named_true _).mono ?_
    rintro e w1 ⟨rfl, hb⟩
    go_wp2_with fail
    refine (name_ok _ _ H.out).mono ?_
    rintro e w2 ⟨rfl, hb2⟩
    go_wp2_with fail
    rw [E.out]
    have hcv := conv_one w2 c
    go_region
    go_wp2_with fail
    all_goals (refine (name_ok _ _ HV.out).mono ?_; rintro e w3 ⟨rfl, hb3⟩; go_wp2_with fail)
    all_goals go_ret
    all_goals
      refine ⟨ret_bool ?_, bl_trans (bl_alloc (bl_trans hb hb2) _).drew hb3⟩
      have hp := HP.out
      clear HP HV H E
      simp <;> omega
  · have HP : Hid (¬ ((97 ≤ c ∧ c ≤ 122) ∨ (65 ≤ c ∧ c ≤ 90) ∨ c = 95 ∨ (48 ≤ c ∧ c ≤ 57 ∧ 0 < k))) := by
      simp only [letZ, digZ, Bool.or_eq_true, Bool.and_eq_true, decide_eq_true_eq, beq_iff_eq] at hv
      show ¬ _
      omega
    have HV : Hid (nameOk (s.extract 0 k ++ ⟨#[UInt8.ofNat c.toNat]⟩ ++ s.extract (k + 1) s.size).data.toList = false) := by rw [HS.out]; exact Bool.eq_false_iff.2 hv
    clear hv hkp HS
    go_enter Tryd.func3, Tryd.ntmps3
    go_wp2_with fail
    refine (named_true _).mono ?_
    rintro e w1 ⟨rfl, hb⟩
    go_wp2_with fail
    refine (name_ok _ _ H.out).mono ?_
    rintro e w2 ⟨rfl, hb2⟩
    go_wp2_with fail
    rw [E.out]
    have hcv := conv_one w2 c
    go_region
    go_wp2_with fail
    all_goals (refine (name_bad _ _ HV.out).mono ?_; rintro e w3 ⟨rfl, hb3⟩; go_wp2_with fail)
    all_goals go_ret
    all_goals
      refine ⟨ret_bool ?_, bl_trans (bl_alloc (bl_trans hb hb2) _).drew hb3⟩
      have hp := HP.out
      clear HP HV H E
      simp <;> omega
theorem nameLetters.walk (s : ByteArray) (hs : s.size ≤ maxLen) (pos : Int) (hat : (Lit.int .i64 pos).wf = true) (c : Int) (hc : (Lit.int .u8 c).wf = true) (w : World) {L S : Prop} (_ : L) (_ : S) :
    Calls Tryd.prog 3 #[.string s, .int .i64 pos, .int .u8 c] w fun e w' => e = .returned (.bool true) ∧ Below w.heap.size w w' := by
  have hb : 0 ≤ c ∧ c ≤ 255 := by simpa [Lit.wf, IntKind.min, IntKind.max, IntKind.signed, IntKind.bits] using hc
  cases h : nameOk s.data.toList with
  | true => exact nameLetters_ok s pos c w h hb.1 hb.2
  | false => exact nameLetters_bad s pos c w h
end Go.Proofs.YtnamnihdbemkhaaDoor
