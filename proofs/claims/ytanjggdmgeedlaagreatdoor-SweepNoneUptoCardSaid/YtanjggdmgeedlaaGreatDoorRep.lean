/-
  slices.Repeat of one text, up to ten times.
-/
import Derived.Test.YtanjggdmgeedlaaGreatDoorBase
import Derived.Test.YtanjggdmgeedlaaGreatDoorBlkG
import Derived.Laws.CopyOwn
namespace Go.Proofs.YtanjggdmgeedlaaGreatDoor
set_option linter.unusedVariables false
set_option linter.unusedSimpArgs false
open Go.RowKit Go.Shelf Go.Lib Go.Sort

theorem info_str1 : (Tryz.prog.info? 9).map (fun i => (i.zero, i.size, i.bytes)) = some (some (.string ByteArray.empty), 1, 16) := by kernel_rfl
theorem size_str1 : (Tryz.prog.info? 9).map (·.size) = some 1 := by kernel_rfl

def repC (t : List UInt8) (n c : Nat) : List Value := List.replicate c (strV t) ++ List.replicate (n - c) (.string ByteArray.empty)
theorem repC_len (t : List UInt8) {n c : Nat} (h : c ≤ n) : (repC t n c).length = n := by unfold repC; simp; omega
theorem rep_splice (t : List UInt8) {n c m : Nat} (h : c + m ≤ n) : splice (repC t n c) c (List.replicate m (strV t)) = repC t n (c + m) := by
  unfold splice repC
  rw [List.length_replicate, List.take_append_of_le_length (by simp), List.take_of_length_le (by simp), List.drop_append, List.drop_of_length_le (by simp)]
  simp only [List.nil_append, List.length_replicate, List.drop_replicate]
  rw [← List.append_assoc, List.replicate_append_replicate]
  congr 2
  omega
def RepRes (t : List UInt8) (n : Nat) (w : World) (e : Ending) (w' : World) : Prop := (∃ a, e = .returned (.slice a n n) ∧ SRow w' a n (List.replicate n t)) ∧ Below w.heap.size w w'

set_option maxRecDepth 100000 in
set_option maxHeartbeats 2000000 in
theorem repeat_calls (t : List UInt8) (s n : Nat) (w : World) (hs : Blk w s 9 #[strV t]) (hn : n ≤ 10) :
    Calls Tryz.prog 107 #[.slice (some ⟨s, 0, none⟩) 1 1, .int .i64 n] w (RepRes t n w) := by
  have HM := Lib.hid (show ∀ w, Calls Tryz.prog 147 #[.int .u64 1, .int .u64 n] w fun e w' => e = .returned (.tuple #[.int .u64 0, .int .u64 n]) ∧ w' = w from fun w => (Tryz.bits_Mul 1 n (by omega) (by omega) w).mono (fun e w' ⟨he, hw⟩ => ⟨by
    rw [he]
    have h1 : 1 * n / 18446744073709551616 = 0 := by omega
    have h2 : 1 * n % 18446744073709551616 = n := by omega
    rw [h1, h2]
    rfl, hw⟩))
  have hs0 := hs.cell 0
  have hsl := hs.lt
  have HS := Lib.hid hs
  clear hs
  go_enter Tryz.func107, Tryz.ntmps107
  go_wp2_with fail
  refine (HM.out _).mono ?_
  rintro e w1 ⟨rfl, rfl⟩
  go_wp2_with (at_make; refine wpList_make_ones Tryz.underlying46 info_str1 rfl (by decide) rfl _ _ rfl w1.heap.size _ _ n rfl rfl ?c1 ?c2 ?c3 ?c4 ?_)
  case c1 => rfl
  case c2 => rfl
  case c3 => omega
  case c4 => exact Nat.le_refl _
  intro w2 ho hg
  obtain ⟨cur, hcur, hcs⟩ : ∃ cur, w2.heap[w1.heap.size]? = some (.cells cur 9 (0, 0)) ∧ cur = (repC t n 0).toArray := by
    rcases ho.2 with ⟨h, _⟩ | ⟨g, cap, cur, hv, _, hgg, hle, _, hsz, htk⟩
    · cases h
    · simp only [Value.slice.injEq, Option.some.injEq, Addr.mk.injEq, and_true, true_and] at hv
      obtain ⟨rfl, rfl⟩ := hv
      refine ⟨cur, hgg, ?_⟩
      rw [List.take_of_length_le (by simp; omega)] at htk
      apply Array.toList_inj.1
      rw [htk]
      simp [repC]
  subst hcs
  have hb2 : Below w1.heap.size w1 w2 := (Below.refl _ _).grown hg (Nat.le_refl _) (by intro k hk; cases hk)
  have hsG : s ≠ w1.heap.size := by omega
  have hs2 : w2.cell? ⟨s, 0, none⟩ = some (strV t) := (hb2.cell (p := ⟨s, 0, none⟩) hsl).trans hs0
  have hsz2 := hb2.size
  obtain ⟨G, hG⟩ : ∃ G, G = w1.heap.size := ⟨_, rfl⟩
  rw [← hG] at hcur hb2 hsG ⊢
  have HGE := Lib.hid hG
  have HCUR := Lib.hid hcur
  have HB2 := Lib.hid hb2
  have HS2 := Lib.hid hs2
  clear ho hg hs0 hs2 hG hcur hb2 HS
  obtain ⟨m, hm⟩ : ∃ m, m = Nat.min 1 n := ⟨_, rfl⟩
  have hmn : m ≤ n ∧ m ≤ 1 ∧ (n = 0 ∨ m = 1) := by rw [hm]; simp only [Nat.min_def]; split <;> omega
  have HME := Lib.hid hm
  clear hm
  go_wp2_with (with_reducible refine wpList_copy_splice rfl _ _ _ _ rfl 9 Tryz.underlying46 size_str1 _ _ _ _ _ _ rfl rfl G 0 (repC t n 0) 9 HCUR.out (List.replicate m (strV t)) ?c1 ?c2 ?c3 ?c4 G w1 HB2.out ?c5 ?_)
  case c1 => rw [List.length_replicate]; exact HME.out
  case c2 =>
    intro _
    refine fun j v hj => ?_
    obtain ⟨hj1, hj2⟩ := List.getElem?_eq_some_iff.1 hj
    rw [List.length_replicate] at hj1
    obtain rfl : j = 0 := by omega
    simp at hj2
    rw [← hj2]
    exact HS2.out
  case c3 => rw [repC_len t (Nat.zero_le _), List.length_replicate]; omega
  case c4 => intro v hv; rw [(List.mem_replicate.1 hv).2]; rfl
  case c5 => exact Nat.le_refl _
  intro w3 hg3 hb3
  rw [rep_splice t (by omega), Nat.zero_add] at hg3
  have HG3 := Lib.hid hg3.out
  have HB3 := Lib.hid hb3
  clear hg3 hb3 HCUR HS2
  go_wp2_with fail
  go_loopw [8] (fun c wr => ∃ j : Nat, c = .int .i64 j ∧ j ≤ n ∧ (n = 0 ∨ 1 ≤ j) ∧ Hid (wr.heap[G]? = some (.cells (repC t n j).toArray 9 (0, 0))) ∧ Below G w1 wr) (fun c _ => n - (RowKit.intOf c).toNat)
  case atStart => exact ⟨m, rfl, by omega, by omega, HG3, HB3.out⟩
  case round =>
    obtain ⟨j, rfl, hj, hj1, HG, hbr⟩ := hrel
    have HBR := Lib.hid hbr
    clear hbr
    by_cases hjn : j < n
    · obtain ⟨k, hk⟩ : ∃ k, k = Nat.min j (n - j) := ⟨_, rfl⟩
      have hkk : 1 ≤ k ∧ j + k ≤ n ∧ k ≤ j := by rw [hk]; simp only [Nat.min_def]; split <;> omega
      have HKE := Lib.hid hk
      have hcell : ∀ (i : Nat) (v : Value), (List.replicate k (strV t))[i]? = some v → wr.cell? ⟨G, i, none⟩ = some v := by
        intro i v hi
        obtain ⟨hi1, hi2⟩ := List.getElem?_eq_some_iff.1 hi
        rw [List.length_replicate] at hi1
        have hb : Blk wr G 9 (repC t n j).toArray := HG.out
        rw [hb.cell, List.getElem?_toArray]
        unfold repC
        rw [List.getElem?_append_left (by simp; omega), List.getElem?_replicate_of_lt (by omega)]
        simp at hi2
        rw [← hi2]
      have HC := Lib.hid hcell
      clear hk hcell
      go_wp2_with fail
      have HC2 := Lib.hid (show ∀ (i : Nat) (v : Value), (List.replicate k (strV t))[i]? = some v → wr.cell? ((⟨G, 0, none⟩ : Addr).add i) = some v from fun i v hi => by
        have e : (⟨G, 0, none⟩ : Addr).add i = ⟨G, i, none⟩ := by unfold Addr.add; split <;> simp_all
        rw [e]; exact HC.out i v hi)
      have HL := Lib.hid (show (List.replicate k (strV t)).length = Nat.min j (n - j) by rw [List.length_replicate]; exact HKE.out)
      have HF := Lib.hid (show j + (List.replicate k (strV t)).length ≤ (repC t n j).length by rw [repC_len t hj, List.length_replicate]; omega)
      have H1 := Lib.hid (show ∀ v ∈ List.replicate k (strV t), v.oneCell' = true from fun v hv => by rw [(List.mem_replicate.1 hv).2]; rfl)
      have hrun := run_copy_row (P := Tryz.prog) wr.drew 46 46 3 9 G j (n - j) (n - j) ⟨G, 0, none⟩ j n (repC t n j).toArray 9 (List.replicate k (strV t)) Tryz.underlying46 size_str1 HG.out HL.out HC2.out (by simpa using HF.out) H1.out
      obtain ⟨w4, hw4⟩ : ∃ w4, w4 = wr.drew.setRow G ((repC t n j).toArray.toList.take j ++ (List.replicate k (strV t)) ++ (repC t n j).toArray.toList.drop (j + (List.replicate k (strV t)).length)).toArray := ⟨_, rfl⟩
      rw [← hw4] at hrun
      have hg4 : w4.heap[G]? = some (.cells (repC t n (j + k)).toArray 9 (0, 0)) := by
        rw [hw4, ← rep_splice t (by omega)]
        have := setRow_heap wr.drew G (repC t n j).toArray (splice (repC t n j) j (List.replicate k (strV t))).toArray 9 (0, 0) HG.out
        simpa [splice] using this
      have HB4 := Lib.hid (show Below G w1 w4 by rw [hw4]; exact below_setRow (Below.drew HBR.out) (Nat.le_refl _) _)
      have HG4 := Lib.hid hg4
      rw [List.length_replicate] at hrun
      simp only [goInt] at hrun
      clear hw4 hg4 HC HC2 HL H1 HF HG HBR
      go_region
      go_wp2_with fail
      go_roundw
      case rel => exact ⟨j + k, by go_num, by omega, by omega, HG4, HB4.out⟩
      case measure => simp [RowKit.intOf]; omega
    · obtain rfl : j = n := by omega
      go_wp2_with fail
      go_ret
      have hb : Blk wr G 9 (repC t j j).toArray := HG.out
      refine ⟨⟨_, rfl, by simp, Or.inr ⟨G, 0, rfl, hb.lt, fun i x hi => ?_⟩⟩, ?_⟩
      · rw [hb.cell, List.getElem?_toArray, Nat.zero_add]
        unfold repC
        rw [Nat.sub_self, List.replicate_zero, List.append_nil]
        obtain ⟨hi1, hi2⟩ := List.getElem?_eq_some_iff.1 hi
        rw [List.length_replicate] at hi1
        rw [List.getElem?_replicate_of_lt hi1]
        simp at hi2
        rw [hi2]
      · have := HBR.out
        rw [HGE.out] at this
        exact this
end Go.Proofs.YtanjggdmgeedlaaGreatDoor
