/-
  The walk of sweep.live.
-/
import Derived.Test.YtanjggdmgeedlaaGreatDoorSweep2
import Derived.Laws.EntriesVeiled
namespace Go.Proofs.YtanjggdmgeedlaaGreatDoor
set_option linter.unusedVariables false
set_option linter.unusedSimpArgs false
open Go.RowKit Go.Shelf Go.Lib

theorem info_bool1 : (Tryz.prog.info? 4).map (fun i => (i.zero, i.size, i.bytes)) = some (some (.bool false), 1, 1) := by kernel_rfl
def LiveRes (n : Nat) (l : List ValR) (w : World) (e : Ending) (w' : World) : Prop :=
  ∃ g t, e = .returned (.slice (some ⟨g, 0, none⟩) (n + 1) (n + 1)) ∧ Marks l (List.replicate (n + 1) false) t ∧ Blk w' g 4 (boolC t) ∧ Below w.heap.size w w'

set_option maxRecDepth 100000 in
set_option maxHeartbeats 4000000 in
theorem live_calls (X : List ThingR) (ps : List HA) (a : Option Addr) (cap : Nat) (l : List ValR) (p : HA) (w : World) (hT : ThingsAt w a cap X ps) (hX : X.length ≤ 50) (hI : ∀ x ∈ X, ∀ v ∈ x.has, InR X.length v) (hxl : ∀ x ∈ X, x.has.length ≤ 1000000) (hl : HasAt w l p) (hin : ∀ v ∈ l, InR X.length v) (hll : l.length ≤ 1000000) :
    Calls Tryz.prog 33 #[.agg #[.slice a X.length cap], .slice p.1 l.length p.2] w (LiveRes X.length l w) := by
  have hmf : ∀ (fn : Fn) (first cap : Array Value) (w : World), (Instr.makeFunc fn first cap).run Tryz.prog w = .ok (.func fn first cap) w := fun _ _ _ _ => rfl
  have HMK := Lib.hid (fun g c1 c2 c3 W hs hb hm hw => mark_calls X ps a cap g c1 c2 c3 w hT hX hI (X.length + 1) l p (List.replicate (X.length + 1) false) W hs hl hin hll hxl (List.length_replicate) hb hm hw)
  clear hT hI hxl hl hin
  obtain ⟨w1, hw1⟩ : ∃ w1, w1 = w.alloc (.cells #[.slice a X.length cap] 25) := ⟨_, rfl⟩
  have HB1 := Lib.hid (show Below w.heap.size w w1 by rw [hw1]; exact bl_alloc (Below.refl _ _) _)
  have HX := Lib.hid (show Blk w1 w.heap.size 25 #[.slice a X.length cap] by rw [hw1]; exact blk_new _ _ _ _ rfl)
  have hs1 : w1.heap.size = w.heap.size + 1 := by rw [hw1]; simp
  go_enter Tryz.func33, Tryz.ntmps33
  go_wp2_with (at_make; refine wpList_make_ones Tryz.underlying90 info_bool1 rfl (by decide) rfl _ _ rfl w.heap.size _ _ (X.length + 1) rfl rfl ?c1 ?c2 ?c3 ?c4 ?_)
  case c1 => go_num
  case c2 => go_num
  case c3 => omega
  case c4 => simp
  rw [← hw1]
  intro w2 ho hg
  clear hw1
  have hgb : Blk w2 (w.heap.size + 1) 4 (boolC (List.replicate (X.length + 1) false)) := by
    rcases ho.2 with ⟨h, _⟩ | ⟨g, cap, cur, hv, _, hgg, hle, _, hsz, htk⟩
    · cases h
    · simp only [Value.slice.injEq, Option.some.injEq, Addr.mk.injEq, and_true, true_and] at hv
      obtain ⟨rfl, rfl⟩ := hv
      rw [List.take_of_length_le (by simp; omega)] at htk
      unfold Blk
      rw [hgg]
      have : cur = boolC (List.replicate (X.length + 1) false) := by
        apply Array.toList_inj.1
        rw [htk]
        simp [boolC, boolV]
      rw [this]
  have hb2 : Below w1.heap.size w1 w2 := (Below.refl _ _).grown hg (Nat.le_refl _) (by intro k hk; cases hk)
  have hgs := hb2.size
  have hgl := hgb.lt
  clear ho hg
  obtain ⟨w3, hw3⟩ : ∃ w3, w3 = (w2.alloc (.cells #[.slice (some ⟨w.heap.size + 1, 0, none⟩) (X.length + 1) (X.length + 1)] 90)).alloc (.cells #[.nilFunc] 126) := ⟨_, rfl⟩
  have hb3 : Below w2.heap.size w2 w3 := by rw [hw3]; exact bl_alloc (bl_alloc (Below.refl _ _) _) _
  have hc1 : Blk w3 w2.heap.size 90 #[.slice (some ⟨w.heap.size + 1, 0, none⟩) (X.length + 1) (X.length + 1)] := by rw [hw3]; exact (blk_new _ _ _ _ rfl).alloc _
  have hc2 : Blk w3 (w2.heap.size + 1) 126 #[.nilFunc] := by rw [hw3]; exact blk_new _ _ _ _ (by simp)
  have f0 := hc2.cell 0
  have f1 := hc2.frozen 0
  have f2 := hc2.lt
  go_upto_region 3 with fail
  rw [← hw3]
  clear hw3
  have HB2 := Lib.hid (bl_trans HB1.out (bl_trans hb2 hb3))
  have HG3 := Lib.hid (hgb.below hb3)
  have HX3 := Lib.hid ((HX.out.below hb2).below hb3)
  have HC1 := Lib.hid hc1
  have HC2 := Lib.hid hc2
  clear hgb hb2 hb3 hc1 hc2 HX HB1
  go_upto_region 4 with fail
  obtain ⟨w4, hw4⟩ : ∃ w4, w4 = w3.setCell ⟨w2.heap.size + 1, 0, none⟩ (.func (.func 65) #[] #[.pointer (some ⟨w2.heap.size, 0, none⟩), .pointer (some ⟨w2.heap.size + 1, 0, none⟩), .pointer (some ⟨w.heap.size, 0, none⟩)]) := ⟨_, rfl⟩
  have hg4 : w3.grownBy w4 (some (w2.heap.size + 1)) := by rw [hw4]; exact gb_set (gb_refl _ _) _ _
  have hc1 : Blk w4 w2.heap.size 90 #[.slice (some ⟨w.heap.size + 1, 0, none⟩) (X.length + 1) (X.length + 1)] := gb_blk hg4 HC1.out (by omega)
  have hc2 : Blk w4 (w2.heap.size + 1) 126 #[.func (.func 65) #[] #[.pointer (some ⟨w2.heap.size, 0, none⟩), .pointer (some ⟨w2.heap.size + 1, 0, none⟩), .pointer (some ⟨w.heap.size, 0, none⟩)]] := by rw [hw4]; exact blk_set HC2.out 0 _
  have HC := Lib.hid (show MarkAt w4 w.heap.size X.length a cap (w.heap.size + 1) w2.heap.size (w2.heap.size + 1) w.heap.size from ⟨hc1, hc2, gb_blk hg4 HX3.out (by omega), by omega, by omega, by omega, by omega⟩)
  have HG4 := Lib.hid (show Blk w4 (w.heap.size + 1) 4 (boolC (List.replicate (X.length + 1) false)) from gb_blk hg4 HG3.out (by omega))
  have HB4 := Lib.hid (gb_to_below HB2.out hg4 (by omega))
  rw [← hw4]
  have k0 := hc2.cell 0
  have k1 := hc2.lt
  have k2 := hc1.cell 0
  clear hw4 hg4 hc1 hc2 f0 f1 f2
  go_wp2_with fail
  refine (HMK.out _ _ _ _ _ (by unfold unmk; simp) HG4.out HC.out HB4.out).mono ?_
  rintro e w5 ⟨rfl, t, hm, hb, hg⟩
  have HB5 := Lib.hid (gb_to_below HB4.out hg (by omega))
  have hc := (HC.out.grown hg).b1
  have k3 := hc.cell 0
  have k4 := hc.lt
  have HM := Lib.hid hm
  have HBT := Lib.hid hb
  clear hm hb hg hc k0 k1 k2
  go_wp2_with fail
  go_ret
  exact ⟨_, t, rfl, HM.out, HBT.out, HB5.out⟩
end Go.Proofs.YtanjggdmgeedlaaGreatDoor
