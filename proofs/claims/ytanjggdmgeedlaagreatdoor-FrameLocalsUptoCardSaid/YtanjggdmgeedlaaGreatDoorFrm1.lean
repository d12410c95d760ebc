/-
  The walks of slices.Grow at nil, of slices.Concat at two slices of texts.
-/
import Derived.Test.YtanjggdmgeedlaaGreatDoorWBase
import Derived.Test.YtanjggdmgeedlaaGreatDoorBlk
import Derived.Lib.AppendZerosOnto
import Derived.Lib.AppendZeros
namespace Go.Proofs.YtanjggdmgeedlaaGreatDoor
set_option linter.unusedVariables false
set_option linter.unusedSimpArgs false
open Go.RowKit Go.Shelf Go.Lib

theorem grow_row {w : World} {n cap : Nat} (hn : n ≤ cap) (hc : cap ≤ maxLen) :
    (w.drew.alloc (.cells ((([] : List Value).toArray ++ Builtin.zeroCells #[.string ⟨#[]⟩] n) ++ Builtin.zeroCells #[.string ⟨#[]⟩] (cap - n)) 9)).ownsRow w.heap.size 9 1 (.slice (some ⟨w.heap.size, 0, none⟩) 0 cap) 0 [] := by
  refine ⟨by simp, Or.inr ⟨w.heap.size, cap, _, rfl, Nat.le_refl _, (MapKept.heap_alloc w.drew _).1, Nat.zero_le _, hc, ?_, by simp⟩⟩
  have hz : ∀ k, (Builtin.zeroCells #[.string ⟨#[]⟩] k).size = k := fun k => by simp [Builtin.zeroCells]
  simp only [Array.size_append, hz, List.size_toArray, List.length_nil]
  omega

def GrowRes (w : World) (e : Ending) (w' : World) : Prop := ∃ v, e = .returned v ∧ w'.ownsRow w.heap.size 9 1 v 0 [] ∧ Below w.heap.size w w'

set_option maxRecDepth 100000 in
set_option maxHeartbeats 2000000 in
theorem grow_calls (n : Nat) (w : World) (hn : n ≤ 1000000) : Calls Tryz.prog 119 #[.slice none 0 0, .int .i64 n] w (GrowRes w) := by
  have h1 : ¬ ((n : Int) < 0) := by omega
  have h3 : wrap64 ((n : Int) - 0) = (n : Int) := by unfold wrap64; omega
  rcases Nat.eq_zero_or_pos n with rfl | hp
  · go_enter Tryz.func119, Tryz.ntmps119
    go_wp2_with fail
    go_ret
    exact ⟨_, rfl, ⟨rfl, Or.inl ⟨rfl, rfl⟩⟩, Below.refl _ _⟩
  · have h4 : (n : Int) > 0 := by omega
    obtain ⟨i0, z, hi0, hz0, hsz, hby, _⟩ := rowStr.info
    have hzc : z = .string ⟨#[]⟩ := by
      have : (Tryz.prog.info? 9).map (·.zero) = some (some (.string ⟨#[]⟩)) := by kernel_rfl
      rw [hi0, Option.map_some, hz0] at this
      simpa using this
    subst hzc
    have hold : (Builtin.firstCells i0.size 0 (.slice none 0 0)).run Tryz.prog w.drew = .ok ([] : List Value).toArray w.drew := run_firstCells_none w.drew i0.size 0 0 0
    have hrz : ∀ ty, (Builtin.append_ #[46, 3] ty #[.slice none 0 0, .int .i64 (n : Int)]).run Tryz.prog w =
        .ok (.slice (some ⟨w.heap.size, 0, none⟩) n (grownCap w n 0 9)) (w.drew.alloc (.cells ((([] : List Value).toArray ++ Builtin.zeroCells #[.string ⟨#[]⟩] n) ++ Builtin.zeroCells #[.string ⟨#[]⟩] (grownCap w n 0 9 - n)) 9)) := fun ty => by
      have hg : Builtin.nextslicecap (0 + n) 0 * i0.bytes ≤ 281474976710656 := growslice_fits (by omega) (by rw [hby]; omega)
      have h := Lib.run_append_grow_zeros w 46 3 ty 9 i0 (.string ⟨#[]⟩) .i64 .i64 (by kernel_rfl) (by kernel_rfl) hi0 hz0 none 0 0 [] hold n hp (by rw [hsz]; decide) (by omega) (by omega)
        (by rw [hby]; omega) hg
      rw [Nat.zero_add] at h
      exact h
    have hGn : n ≤ grownCap w n 0 9 := grownCap_ge w _ _ _
    have hGm : grownCap w n 0 9 ≤ maxLen := grownCap_le_maxLen w n 0 _ (by unfold maxLen; omega)
    generalize grownCap w n 0 9 = G at *
    have HR := Lib.hid (grow_row (w := w) hGn hGm)
    have HB := Lib.hid (((Below.refl w.heap.size w).drew).alloc (Nat.le_refl _) (.cells ((([] : List Value).toArray ++ Builtin.zeroCells #[.string ⟨#[]⟩] n) ++ Builtin.zeroCells #[.string ⟨#[]⟩] (G - n)) 9))
    have hG63 : G ≤ 9223372036854775807 := by unfold maxLen at hGm; omega
    clear hold hGm
    generalize hww : (w.drew.alloc (.cells ((([] : List Value).toArray ++ Builtin.zeroCells #[.string ⟨#[]⟩] n) ++ Builtin.zeroCells #[.string ⟨#[]⟩] (G - n)) 9)) = ww at *
    go_enter Tryz.func119, Tryz.ntmps119
    go_wp2_with (at_builtin; refine Lib.wpList_append_run _ rfl _ _ _ _ rfl _ _ rfl rfl _ _ (hrz _) ?_)
    go_ret
    exact ⟨_, rfl, HR.out, HB.out⟩

def ConRes (A B : List Nm) (w : World) (e : Ending) (w' : World) : Prop := ∃ v, e = .returned v ∧ w'.ownsRow w.heap.size 9 1 v (A.length + B.length) ((A ++ B).map strV) ∧ Below w.heap.size w w'

theorem own_grown_below {W w w' : World} {e : TypeId} {v : Value} {n : Nat} {xs : List Value} (hb : Below w.heap.size w W) (hown : W.ownsRow w.heap.size e 1 v n xs) (hg : W.grownBy w' v.ownBlock) : Below w.heap.size w w' := hb.grown hg hb.size (fun k hk => (hown.lt k hk).1)

set_option maxRecDepth 100000 in
set_option maxHeartbeats 4000000 in
theorem concat_calls (A B : List Nm) (a b : Option Addr) (ca cb g : Nat) (w : World) (hA : SRow w a ca A) (hB : SRow w b cb B) (hg : g < w.heap.size) (h0 : w.cell? ⟨g, 0, none⟩ = some (.slice a A.length ca)) (h1 : w.cell? ⟨g, 1, none⟩ = some (.slice b B.length cb)) (ha : A.length ≤ 100000) (hb : B.length ≤ 100000) :
    Calls Tryz.prog 70 #[.slice (some ⟨g, 0, none⟩) 2 2] w (ConRes A B w) := by
  have HA := Lib.hid (fun W (hW : Below w.heap.size w W) => src_of_strs (hA.below hW))
  have HB := Lib.hid (fun W (hW : Below w.heap.size w W) => src_of_strs (hB.below hW))
  have HC := Lib.hid (fun W (hW : Below w.heap.size w W) => (show g < W.heap.size ∧ W.cell? ⟨g, 0, none⟩ = some (.slice a A.length ca) ∧ W.cell? ⟨g, 1, none⟩ = some (.slice b B.length cb) from ⟨Nat.lt_of_lt_of_le hg hW.size, (hW.cell (p := ⟨g, 0, none⟩) hg).trans h0, (hW.cell (p := ⟨g, 1, none⟩) hg).trans h1⟩))
  have HG := Lib.hid (grow_calls (A.length + B.length) w (by omega))
  clear hA hB
  have w1 : wrap64 ((0 : Int) + (A.length : Int)) = (A.length : Int) := by unfold wrap64; omega
  have w2 : wrap64 ((A.length : Int) + (B.length : Int)) = ((A.length + B.length : Nat) : Int) := by unfold wrap64; omega
  have n1 : ¬ ((A.length : Int) < 0) := by omega
  have n2 : ¬ (((A.length + B.length : Nat) : Int) < 0) := by omega
  go_enter Tryz.func70, Tryz.ntmps70
  go_wp2_with fail
  go_loopw [3, 11] (fun s i wr => w = wr ∧ ((i = .int .i64 0 ∧ s = .int .i64 0) ∨ (i = .int .i64 1 ∧ s = .int .i64 (A.length : Int)) ∨ (i = .int .i64 2 ∧ s = .int .i64 ((A.length + B.length : Nat) : Int)))) (fun _ i _ => 2 - (RowKit.intOf i).toNat)
  case atStart => exact ⟨rfl, Or.inl ⟨rfl, rfl⟩⟩
  case round =>
    obtain ⟨rfl, ⟨rfl, rfl⟩ | ⟨rfl, rfl⟩ | ⟨rfl, rfl⟩⟩ := hrel
    · go_wp2_with fail
      go_roundw
      case rel => exact ⟨trivial, Or.inr (Or.inl ⟨by go_num, by go_num⟩)⟩
      case measure => simp [RowKit.intOf]
    · go_wp2_with fail
      go_roundw
      case rel => exact ⟨trivial, Or.inr (Or.inr ⟨by go_num, by go_num⟩)⟩
      case measure => simp [RowKit.intOf]
    · go_wp2_with fail
      refine HG.out.mono ?_
      rintro e w3 ⟨v3, rfl, ho3, hb3⟩
      have HB3 := Lib.hid hb3
      clear HG hb3 h0 h1
      have HO3 := Lib.hid ho3
      clear ho3
      go_wp2_with fail
      go_loopw [6, 27] (fun v i wr => Below w.heap.size w wr ∧ ((i = .int .i64 0 ∧ wr.ownsRow w.heap.size 9 1 v 0 []) ∨ (i = .int .i64 1 ∧ wr.ownsRow w.heap.size 9 1 v A.length (A.map strV)) ∨ (i = .int .i64 2 ∧ wr.ownsRow w.heap.size 9 1 v (A.length + B.length) ((A ++ B).map strV)))) (fun _ i _ => 2 - (RowKit.intOf i).toNat)
      case atStart => exact ⟨HB3.out, Or.inl ⟨rfl, HO3.out⟩⟩
      case round =>
        obtain ⟨hb4, ⟨rfl, ho4⟩ | ⟨rfl, ho4⟩ | ⟨rfl, ho4⟩⟩ := hrel
        · have HB4 := Lib.hid hb4
          obtain ⟨hlt, c0, c1⟩ := HC.out _ hb4
          have HO4 := Lib.hid ho4
          clear ho4 hb4
          go_wp2_with (at_builtin; refine wpList_append_src0 rowStr rfl _ _ rfl w.heap.size _ 0 [] rfl HO4.out _ A.length (A.map strV) rfl (HA.out _ HB4.out) (by omega) (by omega) HB4.out.size ?_)
          intro v5 w5 ho5 hg5
          have HB5 := Lib.hid (own_grown_below HB4.out HO4.out hg5)
          have HO5 := Lib.hid ho5
          clear hg5 ho5
          go_wp2_with fail
          go_roundw
          case rel => exact ⟨HB5.out, Or.inr (Or.inl ⟨by go_num, HO5.out⟩)⟩
          case measure => simp [RowKit.intOf]
        · have HB4 := Lib.hid hb4
          obtain ⟨hlt, c0, c1⟩ := HC.out _ hb4
          have HO4 := Lib.hid ho4
          clear ho4 hb4
          go_wp2_with (at_builtin; refine wpList_append_src0 rowStr rfl _ _ rfl w.heap.size _ A.length (A.map strV) rfl HO4.out _ B.length (B.map strV) rfl (HB.out _ HB4.out) (by omega) (by omega) HB4.out.size ?_)
          intro v5 w5 ho5 hg5
          have HB5 := Lib.hid (own_grown_below HB4.out HO4.out hg5)
          have HO5 := Lib.hid ho5
          clear hg5 ho5
          go_wp2_with fail
          go_roundw
          case rel => exact ⟨HB5.out, Or.inr (Or.inr ⟨by go_num, by have := HO5.out; rw [List.map_append]; exact this⟩)⟩
          case measure => simp [RowKit.intOf]
        · have HB4 := Lib.hid hb4
          have HO4 := Lib.hid ho4
          clear ho4 hb4
          go_wp2_with fail
          go_ret
          exact ⟨_, rfl, HO4.out, HB4.out⟩
end Go.Proofs.YtanjggdmgeedlaaGreatDoor
