/-
  The walk of fold.once where nothing is folded.
-/
import Derived.Test.YtimkingebjhemaaDoorFold4
namespace Go.Proofs.YtimkingebjhemaaDoor
set_option linter.unusedVariables false
set_option linter.unusedSimpArgs false
open Go.RowKit Go.Shelf Go.Lib

/-- where fold.known finds nothing -/
def Dull : List InsR → Prop
  | [] => True
  | x :: r => (r = [] ∨ x.op ≠ 2 ∨ ∃ v y r', x = pushI v ∧ r = y :: r' ∧ (y = nopR ∨ y = addI ∨ y = giveI)) ∧ Dull r

theorem dull_drop : ∀ (l : List InsR) (i : Nat), Dull l → Dull (l.drop i)
  | l, 0, h => h
  | [], i + 1, h => by simp [Dull]
  | x :: r, i + 1, h => dull_drop r i h.2
theorem dull_known {l : List InsR} (h : Dull l) (h0 : l ≠ []) (a : Option Addr) (cap : Nat) (w : World) (hC : CodeAt w a cap l) : Calls Tryd.prog 32 #[.slice a l.length cap] w (KnRes zeroI 0 w) := by
  cases l with
  | nil => exact absurd rfl h0
  | cons x r =>
    rcases h.1 with h1 | h1 | ⟨v, y, r', rfl, rfl, hy⟩
    · exact known_not x r a cap w hC (Or.inl h1)
    · exact known_not x r a cap w hC (Or.inr h1)
    · exact known_next v y hy r' a cap w hC

theorem goes_new (w : World) : GoesAt ((w.alloc (.map #[] 0)).alloc (.cells #[.map (some w.heap.size)] 66)) (w.heap.size + 1) :=
  ⟨w.heap.size, by simp, by simp, (IMap.made w).below ((Below.refl _ _).alloc (Nat.le_refl _) _)⟩

set_option maxRecDepth 100000 in
set_option maxHeartbeats 4000000 in
theorem once_none (l : List InsR) (b off cap : Nat) (w : World) (hC : CodeAt w (some ⟨b, off, none⟩) cap l) (hd : Dull l) (hj : ∀ x ∈ l, jumpsB x.op = false) (h0 : l ≠ []) (hl : l.length ≤ 1000) :
    Calls Tryd.prog 17 #[.slice (some ⟨b, off, none⟩) l.length cap] w fun e w' => ∃ v, e = .returned (.tuple #[v, .bool false]) ∧ w'.ownsRow w.heap.size 36 6 v l.length (l.map insCells).flatten ∧ Below w.heap.size w w' := by
  have HC := Lib.hid hC
  have HD := Lib.hid hd
  have HJ := Lib.hid hj
  have HG0 := Lib.hid (goes_new w)
  have HB0 := Lib.hid (bl_alloc (bl_alloc (Below.refl w.heap.size w) (.map #[] 0)) (.cells #[.map (some w.heap.size)] 66))
  have hcap : l.length ≤ cap := by have := hC.1; simpa using this
  have hblt : b < w.heap.size := by
    obtain ⟨x, hx⟩ : ∃ x, l[0]? = some x := ⟨_, List.getElem?_eq_getElem (List.length_pos_iff.2 h0)⟩
    obtain ⟨b', o', e, hlt, _⟩ := hC.cells hx
    simp only [Option.some.injEq, Addr.mk.injEq, and_true] at e
    rw [e.1]; exact hlt
  clear hC hd hj
  obtain ⟨w0, hw0⟩ : ∃ w0, w0 = (w.alloc (.map #[] 0)).alloc (.cells #[.map (some w.heap.size)] 66) := ⟨_, rfl⟩
  rw [← hw0] at HG0 HB0
  have m1 := run_makeMap (P := Tryd.prog) 66
  go_enter Tryd.func17, Tryd.ntmps17
  go_wp2_with fail
  rw [← hw0]
  clear hw0 m1
  go_loopw [14] (fun i wr => ∃ k : Nat, k ≤ l.length ∧ i = .int .i64 k ∧ Below w0.heap.size w0 wr) (fun i _ => l.length - (RowKit.intOf i).toNat)
  case atStart => exact ⟨0, by omega, rfl, Below.refl _ _⟩
  case round =>
    obtain ⟨k, hk, rfl, hb⟩ := hrel
    have HB := Lib.hid hb
    have hsr := hb.size
    by_cases hlk : k < l.length
    · obtain ⟨x, hx⟩ : ∃ x, l[k]? = some x := ⟨_, List.getElem?_eq_getElem hlk⟩
      obtain ⟨b', off', he, hlt, c0, c1, c2, c3, c4, c5⟩ := (HC.out.below (bl_trans HB0.out hb)).cells hx
      simp only [Option.some.injEq, Addr.mk.injEq, and_true] at he
      obtain ⟨rfl, rfl⟩ := he
      have HJX := Lib.hid (show ∀ w, Calls Tryd.prog 30 #[.int .i64 x.op] w fun e w' => e = .returned (.bool false) ∧ w = w' from fun w => by have := jumps_same x.op w; rw [HJ.out x (List.mem_of_getElem? hx)] at this; exact this)
      clear hb hx
      go_wp2_with fail
      refine (HJX.out _).mono ?_
      rintro e w3 ⟨rfl, rfl⟩
      go_wp2_with fail
      go_roundw
      case rel => exact ⟨k + 1, by omega, by go_num, HB.out.alloc hsr _⟩
      case measure => simp [RowKit.intOf]; omega
    · obtain rfl : k = l.length := by omega
      obtain ⟨wa, hwa⟩ : ∃ wa, wa = wr := ⟨wr, rfl⟩
      subst hwa
      clear hb hlk hk
      have HBA := Lib.hid (bl_trans HB0.out HB.out)
      have hsa := HBA.out.size
      go_wp2_with fail
      go_loopw [28] (fun i wr => ∃ k : Nat, k ≤ l.length ∧ i = .int .i64 k ∧ Below wa.heap.size wa wr) (fun i _ => l.length - (RowKit.intOf i).toNat)
      case atStart => exact ⟨0, by omega, rfl, Below.refl _ _⟩
      case round =>
        obtain ⟨k, hk, rfl, hb⟩ := hrel
        have HBR := Lib.hid (bl_trans HBA.out hb)
        have hsr2 := hb.size
        have hsw := HBR.out.size
        have HBR2 := Lib.hid hb
        clear hb
        by_cases hlk : k < l.length
        · have hcd := (HC.out.below HBR.out).drop k hlk
          have hkn := dull_known (dull_drop l k HD.out) (by intro e; rw [List.drop_eq_nil_iff] at e; omega) _ _ _ hcd
          rw [List.length_drop] at hkn
          have HKN := Lib.hid hkn
          have hs := fun W => code_tail (b := b) (off := off) (n := l.length) (cap := cap) (i := k) hlk hcap W
          clear hcd hkn
          go_wp2_with fail
          refine HKN.out.mono ?_
          rintro e w4 ⟨rfl, hb4⟩
          have HB4 := Lib.hid (HBR2.out.trans (hb4.mono hsr2))
          have hs4 := HB4.out.size
          simp only [insV, zeroI]
          clear hb4
          go_wp2_with fail
          go_roundw
          case rel => exact ⟨k + 1, by omega, by go_num, HB4.out.alloc hs4 _⟩
          case measure => simp [RowKit.intOf]; omega
        · obtain rfl : k = l.length := by omega
          have HCL := Lib.hid (clone_calls l b off cap wr (code_src (HC.out.below HBR.out)) (Nat.lt_of_lt_of_le hblt hsw) hl)
          go_wp2_with fail
          refine HCL.out.mono ?_
          rintro e w5 ⟨v, rfl, ho, hb5⟩
          have HO := Lib.hid (ho.mono hsw)
          have HB5 := Lib.hid (bl_trans HBR.out hb5)
          obtain ⟨A5, C5, rfl, _⟩ := slice_of_own ho
          clear ho hb5
          go_wp2_with fail
          go_ret2
          exact ⟨_, rfl, HO.out, HB5.out⟩
end Go.Proofs.YtimkingebjhemaaDoor
