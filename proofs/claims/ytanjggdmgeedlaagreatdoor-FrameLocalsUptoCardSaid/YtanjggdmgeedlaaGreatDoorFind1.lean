/-
  The walk of find.own.
-/
import Derived.Test.YtanjggdmgeedlaaGreatDoorBlk
import Derived.Test.YtanjggdmgeedlaaGreatDoorPFind
namespace Go.Proofs.YtanjggdmgeedlaaGreatDoor
set_option linter.unusedVariables false
set_option linter.unusedSimpArgs false
open Go.RowKit Go.Shelf Go.Lib

theorem find_at {α : Type} {f : α → Bool} {l : List α} {j : Nat} {x : α} (h0 : ∀ y ∈ l.take j, f y = false) (hx : l[j]? = some x) (hf : f x = true) : l.find? f = some x := by
  obtain ⟨hk, he⟩ := List.getElem?_eq_some_iff.1 hx
  rw [← List.take_append_drop j l, List.find?_append, List.find?_eq_none.2 (fun y hy => by simp [h0 y hy]), List.drop_eq_getElem_cons hk, he]
  simp [hf]
theorem find_none {α : Type} {f : α → Bool} {l : List α} (h0 : ∀ y ∈ l, f y = false) : l.find? f = none := List.find?_eq_none.2 (fun y hy => by simp [h0 y hy])

def OwnRes (c : ClassR) (p : CAddr) (n k : Nm) (w : World) (e : Ending) (w' : World) : Prop :=
  Below w.heap.size w w' ∧ ((ownM c n k = none ∧ e = .returned (.tuple #[methV zeroMR nilM, .bool false])) ∨
    ∃ (j : Nat) (m : MethR) (q : MAddr), c.meths[j]? = some m ∧ p.ps[j]? = some q ∧ ownM c n k = some m ∧ e = .returned (.tuple #[methV m q, .bool true]))

set_option maxRecDepth 100000 in
set_option maxHeartbeats 2000000 in
theorem own_calls (c : ClassR) (p : CAddr) (n k : Nm) (w : World) (hC : ClassAt w c p) (hl : c.meths.length ≤ 100) :
    Calls Tryz.prog 197 #[classV c p, .string ⟨⟨n⟩⟩, .string ⟨⟨k⟩⟩] w (OwnRes c p n k w) := by
  obtain ⟨fa, fc, ga, gc, ma, mc, pms⟩ := p
  have HM := Lib.hid hC.2.2
  simp only at HM
  clear hC
  unfold classV
  simp only
  go_enter Tryz.func197, Tryz.ntmps197
  go_wp2_with fail
  go_loopw [13] (fun i wr => ∃ j : Nat, j ≤ c.meths.length ∧ i = .int .i64 j ∧ Below w.heap.size w wr ∧ Blk wr (w.heap.size + 1) 63 (mArr zeroMR nilM) ∧ Hid (∀ m ∈ c.meths.take j, mHit n k m = false)) (fun i _ => c.meths.length - (RowKit.intOf i).toNat)
  case atStart => exact ⟨0, by omega, rfl, ((Below.refl _ _).alloc (Nat.le_refl _) _).alloc (by simp) _, blk_new _ _ _ _ (by simp), Lib.hid (by simp)⟩
  case round =>
    obtain ⟨j, hj, rfl, hb, hz, HA⟩ := hrel
    have HB := Lib.hid hb
    have HZ := Lib.hid hz
    have hsz := hb.size
    have hzl := hz.lt
    by_cases hlk : j < c.meths.length
    · obtain ⟨m, hm⟩ : ∃ m, c.meths[j]? = some m := ⟨_, List.getElem?_eq_getElem hlk⟩
      obtain ⟨b, off, q, rfl, hlt, hq, hma, c0, c1, c2, c3, c4, c5, c6, c7⟩ := (HM.out.below hb).cells hm
      have HMA := Lib.hid hq
      have HX := Lib.hid hm
      clear hb hq hma hm
      cases h1 : m.nm == n with
      | false =>
        have HZ2 := Lib.hid (take_all_succ (P := fun m => mHit n k m = false) HA.out HX.out (by unfold mHit; rw [h1]; rfl))
        go_wp2_with fail
        go_roundw
        case rel => exact ⟨j + 1, by omega, by go_num, HB.out.alloc hsz _, HZ.out.below ((Below.refl _ _).alloc (Nat.le_refl _) _), HZ2⟩
        case measure => simp [RowKit.intOf]; omega
      | true =>
        cases h2 : m.ty == k with
        | false =>
          have HZ2 := Lib.hid (take_all_succ (P := fun m => mHit n k m = false) HA.out HX.out (by unfold mHit; rw [h1, h2]; rfl))
          go_wp2_with fail
          go_roundw
          case rel => exact ⟨j + 1, by omega, by go_num, HB.out.alloc hsz _, HZ.out.below ((Below.refl _ _).alloc (Nat.le_refl _) _), HZ2⟩
          case measure => simp [RowKit.intOf]; omega
        | true =>
          have HO := Lib.hid (show ownM c n k = some m from find_at HA.out HX.out (by unfold mHit; rw [h1, h2]; rfl))
          have e1 := eq_of_beq h1
          have e2 := eq_of_beq h2
          clear h1 h2
          subst e1 e2
          go_wp2_with (refine wpList_store_blk (x := .tmp 6) (y := .tmp 27) (ty := 63) (g := w.heap.size + 1) (cells := mArr m q) (by rfl) (by rfl) (by rfl) (by rfl) (HZ.out.below ((Below.refl _ _).alloc (Nat.le_refl _) _)) info_meth rfl (mArr_one m q) ?_)
          intro W2 hbk hgr
          obtain ⟨d0, d1, d2, d3, d4, d5, d6, d7⟩ := mblk_cells hbk
          have HB2 := Lib.hid (below_grown (HB.out.alloc hsz _) hgr (by omega) (by simp; omega))
          clear hbk hgr
          go_wp2_with fail
          exact bodyPost_ret (v := .tuple #[methV m q, .bool true]) (by simp [results, Tryz.results197, go_sem, d0, d1, d2, d3, d4, d5, d6, d7, methV]) rfl ⟨HB2.out, Or.inr ⟨j, m, q, HX.out, HMA.out, HO.out, rfl⟩⟩
    · obtain rfl : j = c.meths.length := by omega
      have HO := Lib.hid (show ownM c n k = none from find_none (by have := HA.out; rwa [List.take_length] at this))
      clear hb hz
      go_wp2_with (refine wpList_store_blk (x := .tmp 6) (y := .tmp 29) (ty := 63) (g := w.heap.size + 1) (cells := mArr zeroMR nilM) (by rfl) (by rfl) (by rfl) (by rfl) HZ.out info_meth rfl (mArr_one zeroMR nilM) ?_)
      intro W2 hbk hgr
      obtain ⟨d0, d1, d2, d3, d4, d5, d6, d7⟩ := mblk_cells hbk
      have HB2 := Lib.hid (below_grown HB.out hgr (by omega) hsz)
      clear hbk hgr
      go_wp2_with fail
      exact bodyPost_ret (v := .tuple #[methV zeroMR nilM, .bool false]) (by simp [results, Tryz.results197, go_sem, d0, d1, d2, d3, d4, d5, d6, d7, methV]) rfl ⟨HB2.out, Or.inl ⟨HO.out, rfl⟩⟩
end Go.Proofs.YtanjggdmgeedlaaGreatDoor
