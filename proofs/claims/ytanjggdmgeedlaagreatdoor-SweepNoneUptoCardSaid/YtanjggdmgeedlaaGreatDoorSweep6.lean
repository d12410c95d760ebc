/-
  The walks of coffeehousesame.Values and coffeehousesame.Heap: at values and heaps that are the same.
-/
import Derived.Test.YtanjggdmgeedlaaGreatDoorHeapAt
import Derived.Test.YtanjggdmgeedlaaGreatDoorHeap5
import Derived.BigQuiet
import Derived.Deep.QuietTactic
import Derived.Laws.StructEq
namespace Go.Proofs.YtanjggdmgeedlaaGreatDoor
set_option linter.unusedVariables false
set_option linter.unusedSimpArgs false
open Go.RowKit Go.Shelf Go.Lib Go.Sort

set_option maxRecDepth 100000 in
set_option maxHeartbeats 1000000 in
theorem vals_same (l : List ValR) (a a' : Option Addr) (c c' : Nat) (w : World) (h : HasAt w l (a, c)) (h' : HasAt w l (a', c')) (hl : l.length ≤ 1000000) :
    Calls Tryz.prog 14 #[.slice a l.length c, .slice a' l.length c'] w fun e w' => e = .returned (.bool true) ∧ Below w.heap.size w w' := by
  have HR := Lib.hid h
  have HR' := Lib.hid h'
  clear h h'
  go_enter Tryz.func14, Tryz.ntmps14
  go_wp2_with fail
  go_loopw [5] (fun i wr => ∃ k : Nat, k ≤ l.length ∧ i = .int .i64 k ∧ Below w.heap.size w wr) (fun i _ => l.length - (RowKit.intOf i).toNat)
  case atStart => exact ⟨0, by omega, rfl, Below.refl _ _⟩
  case round =>
    obtain ⟨k, hk, rfl, hwr⟩ := hrel
    by_cases hlk : k < l.length
    · obtain ⟨⟨kd, n⟩, hx⟩ : ∃ x, l[k]? = some x := ⟨_, List.getElem?_eq_getElem hlk⟩
      obtain ⟨b, off, e1, hlt, c0, c1⟩ := (HR.out.below hwr).cells hx
      obtain ⟨b', off', e2, hlt', d0, d1⟩ := (HR'.out.below hwr).cells hx
      dsimp only at e1 e2 c0 c1 d0 d1
      rw [e1, e2]
      have HW := Lib.hid hwr
      have i0 : (0 : Int) ≤ (k : Int) := by omega
      have i1 : (k : Int) < (l.length : Int) := by omega
      clear hx hwr HR HR' e1 e2
      go_wp2_with fail
      go_quiet (fail)
      go_wp2_with fail
      go_roundw
      case rel => exact ⟨k + 1, by omega, by go_num, HW.out.trans ⟨rfl, rfl, rfl, Nat.le_refl _, fun _ _ => rfl⟩⟩
      case measure => simp [RowKit.intOf]; omega
    · obtain rfl : k = l.length := by omega
      have HW := Lib.hid hwr
      clear hwr
      go_wp2_with fail
      go_ret
      exact ⟨rfl, HW.out⟩

set_option maxRecDepth 100000 in
set_option maxHeartbeats 4000000 in
theorem heap_same (X : List ThingR) (ps ps' : List HA) (a a' : Option Addr) (c c' : Nat) (w : World) (h : ThingsAt w a c X ps) (h' : ThingsAt w a' c' X ps') (hX : X.length ≤ 1000000) (hH : ∀ x ∈ X, x.has.length ≤ 1000000) :
    Calls Tryz.prog 13 #[.agg #[.slice a X.length c], .agg #[.slice a' X.length c']] w fun e w' => e = .returned (.bool true) ∧ Below w.heap.size w w' := by
  obtain ⟨w1, hw1⟩ : ∃ w1, w1 = (w.alloc (.cells #[.slice a X.length c] 25)).alloc (.cells #[.slice a' X.length c'] 25) := ⟨_, rfl⟩
  have hb1 : Below w.heap.size w w1 := by rw [hw1]; exact bl_alloc (bl_alloc (Below.refl _ _) _) _
  have HD2 := Lib.hid (show Blk w1 w.heap.size 25 #[.slice a X.length c] by rw [hw1]; exact (blk_new _ _ _ _ rfl).alloc _)
  have HD3 := Lib.hid (show Blk w1 (w.heap.size + 1) 25 #[.slice a' X.length c'] by rw [hw1]; exact blk_new _ _ _ _ (by simp))
  have HR := Lib.hid (h.below hb1)
  have HR' := Lib.hid (h'.below hb1)
  have HB1 := Lib.hid hb1
  have HH := Lib.hid hH
  clear h h' hb1 hH
  go_enter Tryz.func13, Tryz.ntmps13
  go_upto_region 1 with fail
  rw [← hw1]
  clear hw1
  have e0 := HD2.out.cell 0
  have e1 := HD3.out.cell 0
  have e2 := HD3.out.lt
  have e3 := HD2.out.lt
  go_wp2_with fail
  go_loopw [5] (fun i wr => ∃ k : Nat, k ≤ X.length ∧ i = .int .i64 k ∧ Below w1.heap.size w1 wr) (fun i _ => X.length - (RowKit.intOf i).toNat)
  case atStart => exact ⟨0, by omega, rfl, Below.refl _ _⟩
  case round =>
    obtain ⟨k, hk, rfl, hwr⟩ := hrel
    have HWR := Lib.hid hwr
    have x2 := (HD2.out.below hwr).cell 0
    have x3 := (HD3.out.below hwr).cell 0
    have x4 := (HD3.out.below hwr).lt
    have x5 := (HD2.out.below hwr).lt
    by_cases hlk : k < X.length
    · obtain ⟨x, hx⟩ : ∃ x, X[k]? = some x := ⟨_, List.getElem?_eq_getElem hlk⟩
      obtain ⟨b, off, p, ea, hlt, _, hhas, c0, c1⟩ := (HR.out.below hwr).cells hx
      obtain ⟨b', off', p', ea', hlt', _, hhas', d0, d1⟩ := (HR'.out.below hwr).cells hx
      have HHX := Lib.hid (HH.out x (List.mem_of_getElem? hx))
      have HVS := Lib.hid (show ∀ W, Below wr.heap.size wr W → Calls Tryz.prog 14 #[.slice p.1 x.has.length p.2, .slice p'.1 x.has.length p'.2] W fun e w' => e = .returned (.bool true) ∧ Below W.heap.size W w' from fun W hw => vals_same x.has p.1 p'.1 p.2 p'.2 W (hhas.below hw) (hhas'.below hw) HHX.out)
      have i0 : (0 : Int) ≤ (k : Int) := by omega
      have i1 : (k : Int) < (X.length : Int) := by omega
      have HG := Lib.hid (fun (d : Nat) (os : Array Obj) => below_regrown wr d os)
      have g0 := fun (d : Nat) (os : Array Obj) => (show (grow (redrawn wr d) os).cell? ⟨w.heap.size, 0, none⟩ = some (.slice (some ⟨b, off, none⟩) X.length c) from by have := ((HD2.out.below hwr).below (HG.out d os)).cell 0; rw [ea] at this; exact this)
      have g1 := fun (d : Nat) (os : Array Obj) => (show (grow (redrawn wr d) os).cell? ⟨w.heap.size + 1, 0, none⟩ = some (.slice (some ⟨b', off', none⟩) X.length c') from by have := ((HD3.out.below hwr).below (HG.out d os)).cell 0; rw [ea'] at this; exact this)
      have g2 := fun (d : Nat) (os : Array Obj) => (show (grow (redrawn wr d) os).cell? ⟨b, off + k * 2, none⟩ = some (.string ⟨⟨x.ty⟩⟩) from (World.cell?_of_block ((HG.out d os).block b hlt)).trans c0)
      have g3 := fun (d : Nat) (os : Array Obj) => (show (grow (redrawn wr d) os).cell? ⟨b, off + k * 2 + 1, none⟩ = some (.slice p.1 x.has.length p.2) from (World.cell?_of_block ((HG.out d os).block b hlt)).trans c1)
      have g4 := fun (d : Nat) (os : Array Obj) => (show (grow (redrawn wr d) os).cell? ⟨b', off' + k * 2, none⟩ = some (.string ⟨⟨x.ty⟩⟩) from (World.cell?_of_block ((HG.out d os).block b' hlt')).trans d0)
      have g5 := fun (d : Nat) (os : Array Obj) => (show (grow (redrawn wr d) os).cell? ⟨b', off' + k * 2 + 1, none⟩ = some (.slice p'.1 x.has.length p'.2) from (World.cell?_of_block ((HG.out d os).block b' hlt')).trans d1)
      clear hx hwr HR HR' hhas hhas' ea ea'
      go_upto_region 6 with fail
      clear x2 x3 x4 x5 c0 c1 d0 d1 e0 e1 e2 e3
      refine wp_region_quiet_below (by kernel_rfl) (by kernel_rfl) ?_
      repeat (first | go_big_quiet_step (with_reducible exact Calls.regrown_of (HVS.out _ (HG.out _ _))) | quiet_step (with_reducible exact Calls.regrown_of (HVS.out _ (HG.out _ _))))
      refine wpQuiet_nil ?_
      intro _ hw'
      obtain ⟨⟨dq, osq⟩, hw''⟩ := hw'
      subst hw''
      have HB5 := Lib.hid (bl_trans HWR.out (HG.out dq osq))
      clear g0 g1 g2 g3 g4 g5
      go_wp2_with fail
      go_roundw
      case rel => exact ⟨k + 1, by omega, by go_num, HB5.out⟩
      case measure => simp [RowKit.intOf]; omega
    · obtain rfl : k = X.length := by omega
      have HW := Lib.hid (bl_trans HB1.out hwr)
      clear hwr
      go_wp2_with fail
      go_ret
      exact ⟨rfl, HW.out⟩
end Go.Proofs.YtanjggdmgeedlaaGreatDoor
