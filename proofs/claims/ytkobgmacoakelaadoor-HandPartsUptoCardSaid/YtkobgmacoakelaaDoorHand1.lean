/-
  Handles in memory; the walk of hand.count.
-/
import Derived.Test.YtkobgmacoakelaaDoorPHand
import Derived.Test.YtkobgmacoakelaaDoorBase
namespace Go.Proofs.YtkobgmacoakelaaDoor
set_option linter.unusedVariables false
set_option linter.unusedSimpArgs false
open Go.RowKit Go.Shelf Go.Lib

def hdCells (h : Hd) : List Value := [.int .i64 h.kind, .string ⟨⟨h.ty⟩⟩, .int .i64 h.a, .slice h.pa h.pos.length h.pc, .slice h.sa h.subs.length h.sc]
def hdV (h : Hd) : Value := .agg #[.int .i64 h.kind, .string ⟨⟨h.ty⟩⟩, .int .i64 h.a, .slice h.pa h.pos.length h.pc, .slice h.sa h.subs.length h.sc]

inductive HdOk (w : World) : Hd → Prop
  | mk (h : Hd) (hp : ValsAt w h.pa h.pc (h.pos.map (fun k => .int .i64 k))) (hs : RowsAt w 5 h.sa h.sc (h.subs.map hdCells)) (ht : h.ty.length ≤ 8388608) (hl : h.subs.length ≤ 8388608) (hm : h.pos.length ≤ 8388608) (hk : -9223372036854775808 ≤ h.kind ∧ h.kind ≤ 9223372036854775807) (hsub : ∀ s ∈ h.subs, HdOk w s) : HdOk w h

theorem HdOk.moved {w w' : World} {h : Hd} (H : HdOk w h) (hb : Below w.heap.size w w') : HdOk w' h := by
  induction H with
  | mk h hp hs ht hl hm hk hsub ih => exact ⟨h, hp.below hb, hs.below hb, ht, hl, hm, hk, ih⟩
theorem HdOk.pos {w : World} {h : Hd} (H : HdOk w h) : ValsAt w h.pa h.pc (h.pos.map (fun k => .int .i64 k)) := by cases H; assumption
theorem HdOk.row {w : World} {h : Hd} (H : HdOk w h) : RowsAt w 5 h.sa h.sc (h.subs.map hdCells) := by cases H; assumption
theorem HdOk.ty {w : World} {h : Hd} (H : HdOk w h) : h.ty.length ≤ 8388608 := by cases H; assumption
theorem HdOk.len {w : World} {h : Hd} (H : HdOk w h) : h.subs.length ≤ 8388608 := by cases H; assumption
theorem HdOk.plen {w : World} {h : Hd} (H : HdOk w h) : h.pos.length ≤ 8388608 := by cases H; assumption
theorem HdOk.knd {w : World} {h : Hd} (H : HdOk w h) : -9223372036854775808 ≤ h.kind ∧ h.kind ≤ 9223372036854775807 := by cases H; assumption
theorem HdOk.subs {w : World} {h : Hd} (H : HdOk w h) : ∀ s ∈ h.subs, HdOk w s := by cases H; assumption

/-- the cells of one sub-handle, as the walk spells them -/
theorem subs_cells {w : World} {a : Option Addr} {cap : Nat} {L : List Hd} (h : RowsAt w 5 a cap (L.map hdCells)) {k : Nat} {x : Hd} (hx : L[k]? = some x) : ∃ b off, a = some ⟨b, off, none⟩ ∧ b < w.heap.size ∧
    w.cell? ⟨b, off + k * 5, none⟩ = some (.int .i64 x.kind) ∧ w.cell? ⟨b, off + k * 5 + 1, none⟩ = some (.string ⟨⟨x.ty⟩⟩) ∧ w.cell? ⟨b, off + k * 5 + 2, none⟩ = some (.int .i64 x.a) ∧
    w.cell? ⟨b, off + k * 5 + 3, none⟩ = some (.slice x.pa x.pos.length x.pc) ∧ w.cell? ⟨b, off + k * 5 + 4, none⟩ = some (.slice x.sa x.subs.length x.sc) := by
  obtain ⟨_, h2 | ⟨b, off, rfl, hlt, hc⟩⟩ := h
  · have : L = [] := by simpa using h2
    subst this; simp at hx
  · have hk : (L.map hdCells)[k]? = some (hdCells x) := by rw [List.getElem?_map, hx]; rfl
    have hh := hc k _ hk
    exact ⟨b, off, rfl, hlt, hh 0 _ rfl, hh 1 _ rfl, hh 2 _ rfl, hh 3 _ rfl, hh 4 _ rfl⟩

def cntF (k n : Nat) : Nat := min n (k + 1)

set_option maxRecDepth 100000 in
set_option maxHeartbeats 2000000 in
theorem count_calls {w0 : World} {h : Hd} (H : HdOk w0 h) : ∀ (k : Nat) (z : Int) (w : World), z = k → k ≤ 1000 → Below w0.heap.size w0 w →
    Calls Tryd.prog 8 #[hdV h, .int .i64 z] w fun e w' => e = .returned (.int .i64 (cntF k h.size)) ∧ Below w.heap.size w w' := by
  induction H with
  | mk h hp hs ht hl hm hkn hsub ih =>
    intro k z w hz hk hb
    subst hz
    have HS := Lib.hid (hs.below hb)
    have HIH := Lib.hid (fun (i : Nat) (s : Hd) (hi : h.subs[i]? = some s) => ih s (List.mem_of_getElem? hi))
    have HB := Lib.hid hb
    have HSZ := Lib.hid (size_eq h)
    clear hp hs ht hm hkn hsub ih hb
    unfold hdV
    go_enter Tryd.func8, Tryd.ntmps8
    go_wp2_with fail
    obtain ⟨w1, hw1⟩ : ∃ w1, w1 = w.alloc (.cells #[.int .i64 h.kind, .string ⟨⟨h.ty⟩⟩, .int .i64 h.a, .slice h.pa h.pos.length h.pc, .slice h.sa h.subs.length h.sc] 25) := ⟨_, rfl⟩
    have HB1 := Lib.hid (show Below w.heap.size w w1 by rw [hw1]; exact bl_alloc (Below.refl _ _) _)
    rw [← hw1]
    clear hw1
    go_loopw [5, 11] (fun n i wr => ∃ j : Nat, j ≤ h.subs.length ∧ i = .int .i64 j ∧ n = .int .i64 ((cntF k (1 + sizes (h.subs.take j)) : Nat) : Int) ∧ Below w1.heap.size w1 wr) (fun _ i _ => h.subs.length - (RowKit.intOf i).toNat)
    case atStart => exact ⟨0, by omega, rfl, by simp [cntF, sizes], Below.refl _ _⟩
    case round =>
      obtain ⟨j, hj, rfl, rfl, hbr⟩ := hrel
      have HBR := Lib.hid (bl_trans HB1.out hbr)
      have HBR1 := Lib.hid hbr
      have hsr := hbr.size
      clear hbr
      by_cases hlj : j < h.subs.length
      · obtain ⟨x, hx⟩ : ∃ x, h.subs[j]? = some x := ⟨_, List.getElem?_eq_getElem hlj⟩
        obtain ⟨b, off, hsa, hlt, c0, c1, c2, c3, c4⟩ := subs_cells (HS.out.below HBR.out) hx
        have HSS := Lib.hid (sizes_succ hx)
        have HI := Lib.hid (HIH.out j x hx)
        rw [hsa]
        clear hx hsa
        obtain ⟨N, hN⟩ : ∃ N, N = cntF k (1 + sizes (h.subs.take j)) := ⟨_, rfl⟩
        rw [← hN]
        have HN := Lib.hid hN
        have hNk : N ≤ k + 1 := by rw [hN]; unfold cntF; omega
        clear hN
        by_cases hn : N ≤ k
        · have hn2 : (N : Int) ≤ (k : Int) := by omega
          have HC := Lib.hid (fun (w' : World) (hb : Below w0.heap.size w0 w') => HI.out (k - N) ((k : Int) - (N : Int)) w' (by omega) (by omega) hb)
          obtain ⟨q, hq⟩ : ∃ q, q = cntF (k - N) x.size := ⟨_, rfl⟩
          have hqk : q ≤ k - N + 1 := by rw [hq]; unfold cntF; omega
          have HNN := Lib.hid (show N + q = cntF k (1 + sizes (h.subs.take (j + 1))) by
            have h1 := HN.out
            have h2 := HSS.out
            rw [hq, h2]
            unfold cntF at h1 ⊢
            omega)
          rw [← hq] at HC
          unfold hdV at HC
          clear hq hn
          go_wp2_with fail
          refine (HC.out _ ?_).mono ?_
          · exact (HB.out.trans (HBR.out.mono HB.out.size)).alloc (by have := HB.out.size; have := HBR.out.size; omega) _
          rintro e w4 ⟨rfl, hb4⟩
          have HB4 := Lib.hid ((HBR1.out.alloc hsr _).trans (hb4.mono (by simp; omega)))
          clear hb4
          go_wp2_with fail
          go_roundw
          case rel => exact ⟨j + 1, by omega, by go_num, by rw [← HNN.out]; go_num, HB4.out⟩
          case measure => simp [RowKit.intOf]; omega
        · have hn2 : ¬ (N : Int) ≤ (k : Int) := by omega
          have HNN := Lib.hid (show N = cntF k (1 + sizes (h.subs.take (j + 1))) by
            have h1 := HN.out
            have h2 := HSS.out
            rw [h2]
            unfold cntF at h1 ⊢
            omega)
          go_wp2_with fail
          go_roundw
          case rel => exact ⟨j + 1, by omega, by go_num, by rw [← HNN.out], HBR1.out.alloc hsr _⟩
          case measure => simp [RowKit.intOf]; omega
      · obtain rfl : j = h.subs.length := by omega
        rw [List.take_length, ← HSZ.out]
        obtain ⟨N, hN⟩ : ∃ N, N = cntF k h.size := ⟨_, rfl⟩
        rw [← hN]
        have HN := Lib.hid hN
        clear hN
        go_wp2_with fail
        go_ret
        exact ⟨by rw [← HN.out]; rfl, HBR.out⟩
end Go.Proofs.YtkobgmacoakelaaDoor
