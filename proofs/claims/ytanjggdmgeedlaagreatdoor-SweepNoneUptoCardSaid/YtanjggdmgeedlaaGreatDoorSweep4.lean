/-
  The walk of the literal that moves values to their places anew.
-/
import Derived.Test.YtanjggdmgeedlaaGreatDoorHeap6
import Derived.Test.YtanjggdmgeedlaaGreatDoorIMap
namespace Go.Proofs.YtanjggdmgeedlaaGreatDoor
set_option linter.unusedVariables false
set_option linter.unusedSimpArgs false
open Go.RowKit Go.Shelf Go.Lib

theorem valsL_snoc (l : List ValR) (v : ValR) : valsL (l ++ [v]) = valsL l ++ vCells v := by unfold valsL; simp
/-- where each reference stays where it is -/
def Stay (f : Int → Option Value) (v : ValR) : Prop := v.kind = 3 → (Lit.int .i64 v.n).wf = true ∧ (f v.n = some (.int .i64 v.n) ∨ (f v.n = none ∧ v.n = 0))
theorem stay_look {w : World} {mb N : Nat} {f : Int → Option Value} (hm : IMap w mb N f) {z : Int} (hz : (Lit.int .i64 z).wf = true) (hf : f z = some (.int .i64 z) ∨ (f z = none ∧ z = 0)) :
    (Instr.lookup 89 (.map (some mb)) (.int .i64 z) false).run Tryz.prog w = .ok (.int .i64 z) w := by
  rcases hf with hf | ⟨hf, rfl⟩
  · have := IMap.look_some (P := Tryz.prog) (w := w) Tryz.underlying3 Tryz.underlying89 hm hz hf false
    simpa using this
  · have := IMap.look_none (P := Tryz.prog) (w := w) Tryz.underlying3 Tryz.underlying89 hm hz hf (zv := .int .i64 0) (by kernel_rfl) false
    simpa using this

set_option maxRecDepth 100000 in
set_option maxHeartbeats 4000000 in
theorem moved_calls (f : Int → Option Value) (N mb c : Nat) (l : List ValR) (p : HA) (w : World) (hl : HasAt w l p) (hll : l.length ≤ 100000) (hm : IMap w mb N f) (hc : Blk w c 89 #[.map (some mb)]) (hf : ∀ v ∈ l, Stay f v) :
    Calls Tryz.prog 34 #[.slice p.1 l.length p.2, .pointer (some ⟨c, 0, none⟩)] w fun e w' => ∃ q : HA, e = .returned (.slice q.1 l.length q.2) ∧ OwnV w' w.heap.size l q ∧ Below w.heap.size w w' := by
  have HL := Lib.hid hl
  have HM := Lib.hid hm
  have HC := Lib.hid hc
  have HF := Lib.hid hf
  clear hl hm hc hf
  go_enter Tryz.func34, Tryz.ntmps34
  go_wp2_with fail
  go_loopw [4, 9] (fun v i wr => ∃ (j : Nat) (A : Option Addr) (C : Nat), j ≤ l.length ∧ i = .int .i64 j ∧ v = .slice A j C ∧ wr.ownsRow w.heap.size 37 2 (.slice A j C) j (valsL (l.take j)) ∧ Below w.heap.size w wr) (fun _ i _ => l.length - (RowKit.intOf i).toNat)
  case atStart => exact ⟨0, none, 0, by omega, rfl, rfl, ⟨rfl, Or.inl ⟨rfl, rfl⟩⟩, Below.refl _ _⟩
  case round =>
    obtain ⟨j, A, C, hj, rfl, rfl, ho, hbr⟩ := hrel
    have HBR := Lib.hid hbr
    have hsz := hbr.size
    by_cases hlj : j < l.length
    · obtain ⟨⟨kd, n⟩, hv⟩ : ∃ v, l[j]? = some v := ⟨_, List.getElem?_eq_getElem hlj⟩
      obtain ⟨b5, off5, hp5, hlt5, f0, f1⟩ := (HL.out.below hbr).cells hv
      have HST := Lib.hid (HF.out _ (List.mem_of_getElem? hv))
      have HTK := Lib.hid (show valsL (l.take (j + 1)) = valsL (l.take j) ++ [.int .i64 kd, .int .i64 n] by rw [List.take_add_one, hv, Option.toList, valsL_snoc]; rfl)
      have hji : (j : Int) < (l.length : Int) := by omega
      have hj0 : (0 : Int) ≤ (j : Int) := Int.natCast_nonneg _
      rw [hp5]
      obtain ⟨w2, hw2⟩ : ∃ w2, w2 = wr.alloc (.cells #[.int .i64 kd, .int .i64 n] 37) := ⟨_, rfl⟩
      have HB2 := Lib.hid (show Below w.heap.size w w2 by rw [hw2]; exact bl_alloc hbr _)
      have HV2 := Lib.hid (show Blk w2 wr.heap.size 37 #[.int .i64 kd, .int .i64 n] by rw [hw2]; exact blk_new _ _ _ _ rfl)
      have HO2 := Lib.hid (show w2.ownsRow w.heap.size 37 2 (.slice A j C) j (valsL (l.take j)) by rw [hw2]; exact ho.alloc _)
      have HVN := Lib.hid (show (Value.slice A j C).ownBlock ≠ some wr.heap.size from fun e => by have := (ho.lt _ e).2; omega)
      clear hbr hv ho
      by_cases h3 : kd = 3
      · subst h3
        obtain ⟨hwf, hst⟩ := HST.out rfl
        have hlk := stay_look (HM.out.below HB2.out) hwf hst
        have d0 := (HC.out.below HB2.out).cell 0
        have d1 := (HC.out.below HB2.out).lt
        have v0 := HV2.out.cell 0
        have v1 := HV2.out.cell 1
        have v2 := HV2.out.frozen 1
        have v3 := HV2.out.lt
        clear hwf hst
        go_upto_region 5 with fail
        rw [← hw2]
        clear hw2 f0 f1
        have HV3 := Lib.hid (show Blk (w2.setCell ⟨wr.heap.size, 1, none⟩ (.int .i64 n)) wr.heap.size 37 #[.int .i64 3, .int .i64 n] from blk_set HV2.out 1 (.int .i64 n))
        have HO3 := Lib.hid (own_set (j := 1) HO2.out HVN.out (.int .i64 n))
        have HB3 := Lib.hid (HB2.out.setCell (p := ⟨wr.heap.size, 1, none⟩) hsz (.int .i64 n))
        go_upto_region 7 with fail
        obtain ⟨w3, hw3⟩ : ∃ w3, w3 = w2.setCell ⟨wr.heap.size, 1, none⟩ (.int .i64 n) := ⟨_, rfl⟩
        rw [← hw3] at HV3 HO3 HB3 ⊢
        clear hw3 hlk d0 d1 v0 v1 v2 v3
        have v0 := HV3.out.cell 0
        have v1 := HV3.out.cell 1
        have v3 := HV3.out.lt
        have hsz3 := HB3.out.size
        go_wp2_with (at_builtin; refine wpList_append_one rowVal rfl _ _ rfl w.heap.size _ j (valsL (l.take j)) rfl ?c0 [.int .i64 3, .int .i64 n] rfl ?c1 _ rfl ?cg ?c2 ?c3 ?c4 ?_)
        case c0 => exact HO3.out
        case c1 => exact fun u hu => vCells_one ⟨3, n⟩ u hu
        case cg => simp
        case c2 => omega
        case c3 => omega
        case c4 => exact hsz3
        intro v4 w4 ho4 hg4
        have hb4 := Lib.hid (HB3.out.trans (grown_below hsz3 HO3.out hg4))
        rw [← HTK.out] at ho4
        obtain ⟨A4, C4, rfl, _⟩ := slice_of_own ho4
        have HO4 := Lib.hid ho4
        clear ho4 hg4
        go_wp2_with fail
        go_roundw
        case rel => exact ⟨j + 1, A4, C4, by omega, by go_num, rfl, HO4.out, hb4.out⟩
        case measure => simp [RowKit.intOf]; omega
      · have q3 : (kd == 3) = false := by rw [beq_eq_false_iff_ne]; exact h3
        have v0 := HV2.out.cell 0
        have v1 := HV2.out.cell 1
        have v3 := HV2.out.lt
        have hsz2 := HB2.out.size
        go_upto_region 5 with fail
        rw [← hw2]
        clear hw2 f0 f1
        go_wp2_with (at_builtin; refine wpList_append_one rowVal rfl _ _ rfl w.heap.size _ j (valsL (l.take j)) rfl ?c0 [.int .i64 kd, .int .i64 n] rfl ?c1 _ rfl ?cg ?c2 ?c3 ?c4 ?_)
        case c0 => exact HO2.out
        case c1 => exact fun u hu => vCells_one ⟨kd, n⟩ u hu
        case cg => simp
        case c2 => omega
        case c3 => omega
        case c4 => exact hsz2
        intro v4 w4 ho4 hg4
        have hb4 := Lib.hid (HB2.out.trans (grown_below hsz2 HO2.out hg4))
        rw [← HTK.out] at ho4
        obtain ⟨A4, C4, rfl, _⟩ := slice_of_own ho4
        have HO4 := Lib.hid ho4
        clear ho4 hg4
        go_wp2_with fail
        go_roundw
        case rel => exact ⟨j + 1, A4, C4, by omega, by go_num, rfl, HO4.out, hb4.out⟩
        case measure => simp [RowKit.intOf]; omega
    · obtain rfl : j = l.length := by omega
      rw [List.take_length] at ho
      have HO := Lib.hid ho
      clear ho hbr
      go_wp2_with fail
      go_ret
      exact ⟨(A, C), rfl, HO.out, HBR.out⟩
end Go.Proofs.YtanjggdmgeedlaaGreatDoor
