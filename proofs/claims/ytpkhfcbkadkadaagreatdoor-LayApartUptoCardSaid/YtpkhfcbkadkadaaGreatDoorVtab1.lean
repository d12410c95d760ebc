/-
  Tables of slots in memory; the walk of slices.IndexFunc at them.
-/
import Derived.Test.YtpkhfcbkadkadaaGreatDoorBlk
import Derived.Test.YtpkhfcbkadkadaaGreatDoorPSlots
import Derived.Test.YtpkhfcbkadkadaaGreatDoorRevOwn
namespace Go.Proofs.YtpkhfcbkadkadaaGreatDoor
set_option linter.unusedVariables false
set_option linter.unusedSimpArgs false
open Go.RowKit Go.Shelf Go.Lib

def slotCells (s : SlotR) : List Value := [.string ⟨⟨s.nm⟩⟩, .string ⟨⟨s.ty⟩⟩, .string ⟨⟨s.cl⟩⟩]
def slotV (s : SlotR) : Value := .agg #[.string ⟨⟨s.nm⟩⟩, .string ⟨⟨s.ty⟩⟩, .string ⟨⟨s.cl⟩⟩]
def slotsL (l : List SlotR) : List Value := (l.map slotCells).flatten
theorem slotCells_len (s : SlotR) : (slotCells s).length = 3 := rfl
theorem slotCells_one (s : SlotR) : ∀ u ∈ slotCells s, u.oneCell' = true := by
  intro u hu
  simp only [slotCells, List.mem_cons, List.mem_nil_iff, or_false] at hu
  rcases hu with rfl | rfl | rfl <;> rfl
def SlotsAt (w : World) (a : Option Addr) (cap : Nat) (l : List SlotR) : Prop := RowsAt w 3 a cap (l.map slotCells)
theorem SlotsAt.below {w w' : World} {a : Option Addr} {cap : Nat} {l : List SlotR} (h : SlotsAt w a cap l) (hb : Below w.heap.size w w') : SlotsAt w' a cap l := RowsAt.below h hb
theorem SlotsAt.cells {w : World} {a : Option Addr} {cap : Nat} {l : List SlotR} (h : SlotsAt w a cap l) {k : Nat} {x : SlotR} (hx : l[k]? = some x) : ∃ b off, a = some ⟨b, off, none⟩ ∧ b < w.heap.size ∧
    w.cell? ⟨b, off + k * 3, none⟩ = some (.string ⟨⟨x.nm⟩⟩) ∧ w.cell? ⟨b, off + k * 3 + 1, none⟩ = some (.string ⟨⟨x.ty⟩⟩) ∧ w.cell? ⟨b, off + k * 3 + 2, none⟩ = some (.string ⟨⟨x.cl⟩⟩) := by
  obtain ⟨_, h2 | ⟨b, off, rfl, hlt, hc⟩⟩ := h
  · have : l = [] := by simpa using h2
    subst this; simp at hx
  · have hk : (l.map slotCells)[k]? = some (slotCells x) := by rw [List.getElem?_map, hx]; rfl
    have hh := hc k _ hk
    exact ⟨b, off, rfl, hlt, hh 0 _ rfl, hh 1 _ rfl, hh 2 _ rfl⟩
theorem slots_of_own {w : World} {B : Nat} {v : Value} {l : List SlotR} (h : w.ownsRow B 35 3 v l.length (slotsL l)) : ∃ a cap, v = .slice a l.length cap ∧ SlotsAt w a cap l := by
  have h' : w.ownsRow B 35 3 v (l.map slotCells).length (l.map slotCells).flatten := by rw [List.length_map]; exact h
  obtain ⟨a, cap, h1, h2⟩ := rows_of_own h' (by intro c hc; obtain ⟨x, _, rfl⟩ := List.mem_map.1 hc; rfl)
  exact ⟨a, cap, by rw [h1, List.length_map], h2⟩
theorem slotsL_snoc (l : List SlotR) (x : SlotR) : slotsL (l ++ [x]) = slotsL l ++ slotCells x := by simp [slotsL]
theorem slotsL_set : ∀ (l : List SlotR) (i : Nat) (s : SlotR), i < l.length → (((slotsL l).set (i * 3) (.string ⟨⟨s.nm⟩⟩)).set (i * 3 + 1) (.string ⟨⟨s.ty⟩⟩)).set (i * 3 + 2) (.string ⟨⟨s.cl⟩⟩) = slotsL (l.set i s)
  | [], i, s, h => by simp at h
  | x :: r, 0, s, _ => by simp [slotsL, slotCells]
  | x :: r, i + 1, s, h => by
    have ih := slotsL_set r i s (by simpa using h)
    have e : slotsL (x :: r) = slotCells x ++ slotsL r := rfl
    have e2 : slotsL ((x :: r).set (i + 1) s) = slotCells x ++ slotsL (r.set i s) := rfl
    rw [e, e2, ← ih, show (i + 1) * 3 = (i * 3) + 3 by omega]
    simp only [slotCells, List.cons_append, List.nil_append]
    rfl
theorem rowSlot : RowT Tryz.prog 24 35 3 48 := RowT.mk' (z := .agg #[.string ByteArray.empty, .string ByteArray.empty, .string ByteArray.empty]) Tryz.underlying24 (by kernel_rfl) rfl (by decide)

/-- where one is found -/
def IdxRes {α : Type} (l : List α) (q : α → Bool) (w : World) (e : Ending) (w' : World) : Prop := ((∃ i, l.findIdx? q = some i ∧ i < l.length ∧ e = .returned (.int .i64 (i : Int))) ∨ (l.findIdx? q = none ∧ e = .returned (.int .i64 (-1)))) ∧ Below w.heap.size w w'
theorem idx_at {α : Type} {l : List α} {k : Nat} {x : α} {q : α → Bool} (h0 : ∀ y ∈ l.take k, q y = false) (hx : l[k]? = some x) (hq : q x = true) : l.findIdx? q = some k := by
  obtain ⟨hk, he⟩ := List.getElem?_eq_some_iff.1 hx
  rw [List.findIdx?_eq_some_iff_getElem]
  refine ⟨hk, by rw [he]; exact hq, fun j hj => ?_⟩
  have := h0 l[j] (List.mem_of_getElem? (by rw [List.getElem?_take, if_pos hj]; exact List.getElem?_eq_getElem (by omega)))
  simp [this]
theorem idx_none {α : Type} {l : List α} {q : α → Bool} (h0 : ∀ y ∈ l, q y = false) : l.findIdx? q = none := List.findIdx?_eq_none_iff.2 h0

set_option maxRecDepth 100000 in
set_option maxHeartbeats 1000000 in
theorem indexSlot (l : List SlotR) (a : Option Addr) (cap : Nat) (w : World) (lb : Array Value) (q : SlotR → Bool) (h : SlotsAt w a cap l) (hl : l.length ≤ 1000000000) (hq : ∀ (k : Nat) (x : SlotR), l[k]? = some x → PredB 49 lb (slotV x) (q x) w) :
    Calls Tryz.prog 48 #[.slice a l.length cap, .func (.func 49) #[] lb] w (IdxRes l q w) := by
  have HQ := Lib.hid hq
  have HL := Lib.hid h
  clear hq h
  go_enter Tryz.func48, Tryz.ntmps48
  go_wp2_with fail
  go_loopw [8] (fun i wr => ∃ k : Nat, k ≤ l.length ∧ i = .int .i64 k ∧ Below w.heap.size w wr ∧ Hid (∀ x ∈ l.take k, q x = false)) (fun i _ => l.length - (RowKit.intOf i).toNat)
  case atStart => exact ⟨0, by omega, rfl, Below.refl _ _, Lib.hid (by simp)⟩
  case round =>
    obtain ⟨k, hk, rfl, hb, HZ⟩ := hrel
    have HB := Lib.hid hb
    by_cases hlk : k < l.length
    · obtain ⟨x, hx⟩ : ∃ x, l[k]? = some x := ⟨_, List.getElem?_eq_getElem hlk⟩
      obtain ⟨b, off, rfl, hlt, c0, c1, c2⟩ := (HL.out.below hb).cells hx
      have HP := Lib.hid (HQ.out k x hx wr hb)
      have HX := Lib.hid hx
      unfold slotV at HP
      clear hx hb
      cases hr : q x with
      | true =>
        rw [hr] at HP
        have HA := Lib.hid (idx_at HZ.out HX.out hr)
        clear hr
        go_wp2_with fail
        refine HP.out.mono ?_
        rintro e w2 ⟨rfl, hb2⟩
        have HB2 := Lib.hid hb2
        clear hb2
        go_wp2_with fail
        go_ret
        exact ⟨Or.inl ⟨k, HA.out, hlk, rfl⟩, HB2.out⟩
      | false =>
        rw [hr] at HP
        have HZ2 := Lib.hid (take_all_succ HZ.out HX.out hr)
        clear hr
        go_wp2_with fail
        refine HP.out.mono ?_
        rintro e w2 ⟨rfl, hb2⟩
        have HB2 := Lib.hid hb2
        clear hb2
        go_wp2_with fail
        go_roundw
        case rel => exact ⟨k + 1, by omega, by go_num, HB2.out, HZ2⟩
        case measure => simp [RowKit.intOf]; omega
    · obtain rfl : k = l.length := by omega
      have HA := Lib.hid (idx_none (by have := HZ.out; rwa [List.take_length] at this))
      go_wp2_with fail
      go_ret
      exact ⟨Or.inr ⟨HA.out, rfl⟩, HB.out⟩

set_option maxRecDepth 100000 in
theorem sameSlot (x : SlotR) (n k : Nm) (g : Nat) (w : World) (hg : g < w.heap.size) (h0 : w.cell? ⟨g, 0, none⟩ = some (.string ⟨⟨n⟩⟩)) (h1 : w.cell? ⟨g, 1, none⟩ = some (.string ⟨⟨k⟩⟩)) :
    PredB 49 #[.pointer (some ⟨g, 0, none⟩)] (slotV x) (sHit n k x) w := by
  intro W hb
  have hc2 : W.cell? ⟨g, 0, none⟩ = some (.string ⟨⟨n⟩⟩) := by rw [hb.cell (p := ⟨g, 0, none⟩) hg]; exact h0
  have hc3 : W.cell? ⟨g, 1, none⟩ = some (.string ⟨⟨k⟩⟩) := by rw [hb.cell (p := ⟨g, 1, none⟩) hg]; exact h1
  have hg2 : g < W.heap.size := Nat.lt_of_lt_of_le hg hb.size
  have HB := Lib.hid hb
  clear hb h0 h1
  unfold slotV sHit
  show Calls Tryz.prog _ #[_, _] W _
  cases hq : x.nm == n with
  | true =>
    go_enter Tryz.func49, Tryz.ntmps49
    go_wp2_with fail
    go_ret
    exact ⟨ret_bool (by simp), HB.out.alloc HB.out.size _⟩
  | false =>
    go_enter Tryz.func49, Tryz.ntmps49
    go_wp2_with fail
    go_ret
    exact ⟨ret_bool (by simp), HB.out.alloc HB.out.size _⟩
end Go.Proofs.YtpkhfcbkadkadaaGreatDoor
