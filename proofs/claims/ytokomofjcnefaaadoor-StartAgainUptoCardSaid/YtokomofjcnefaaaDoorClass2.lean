/-
  The walks of the literals of package class, and of slices.ContainsFunc, Contains at them.
-/
import Derived.Test.YtokomofjcnefaaaDoorClass1
namespace Go.Proofs.YtokomofjcnefaaaDoor
set_option linter.unusedVariables false
set_option linter.unusedSimpArgs false
open Go.RowKit Go.Shelf Go.Lib

/-- what a predicate tells of one value, in every world behind w -/
def PredB (g : Nat) (lb : Array Value) (v : Value) (r : Bool) (w : World) : Prop :=
  ∀ W : World, Below w.heap.size w W → Calls Tryd.prog g (#[v] ++ lb) W fun e w' => e = .returned (.bool r) ∧ Below w.heap.size w w'

theorem any_hit {α : Type} {l : List α} {k : Nat} {x : α} {q : α → Bool} (hx : l[k]? = some x) (hq : q x = true) : l.any q = true := List.any_eq_true.2 ⟨x, List.mem_of_getElem? hx, hq⟩
theorem any_miss {α : Type} {l : List α} {q : α → Bool} (h : ∀ x ∈ l, q x = false) : l.any q = false := by
  rw [List.any_eq_false]
  intro x hx
  simp [h x hx]

def fieldV (x : FieldR) : Value := .agg #[.string ⟨⟨x.nm⟩⟩, .string ⟨⟨x.ty⟩⟩]

set_option maxRecDepth 100000 in
set_option maxHeartbeats 1000000 in
theorem indexField (l : List FieldR) (a : Option Addr) (cap : Nat) (w : World) (lb : Array Value) (q : FieldR → Bool) (h : FieldsAt w a cap l) (hl : l.length ≤ 1000000000) (hq : ∀ (k : Nat) (x : FieldR), l[k]? = some x → PredB 44 lb (fieldV x) (q x) w) :
    Calls Tryd.prog 66 #[.slice a l.length cap, .func (.func 44) #[] lb] w fun e w' => (∃ i : Int, e = .returned (.int .i64 i) ∧ decide (0 ≤ i) = l.any q) ∧ Below w.heap.size w w' := by
  have HQ := Lib.hid hq
  have HL := Lib.hid h
  clear hq h
  go_enter Tryd.func66, Tryd.ntmps66
  go_wp2_with fail
  go_loopw [8] (fun i wr => ∃ k : Nat, k ≤ l.length ∧ i = .int .i64 k ∧ Below w.heap.size w wr ∧ Hid (∀ x ∈ l.take k, q x = false)) (fun i _ => l.length - (RowKit.intOf i).toNat)
  case atStart => exact ⟨0, by omega, rfl, Below.refl _ _, Lib.hid (by simp)⟩
  case round =>
    obtain ⟨k, hk, rfl, hb, HZ⟩ := hrel
    have HB := Lib.hid hb
    by_cases hlk : k < l.length
    · obtain ⟨x, hx⟩ : ∃ x, l[k]? = some x := ⟨_, List.getElem?_eq_getElem hlk⟩
      obtain ⟨b, off, rfl, hlt, c0, c1⟩ := (HL.out.below hb).cells hx
      have HP := Lib.hid (HQ.out k x hx wr hb)
      have HX := Lib.hid hx
      unfold fieldV at HP
      clear hx hb
      cases hr : q x with
      | true =>
        rw [hr] at HP
        have HA := Lib.hid (any_hit HX.out hr)
        clear hr
        go_wp2_with fail
        refine HP.out.mono ?_
        rintro e w2 ⟨rfl, hb2⟩
        have HB2 := Lib.hid hb2
        clear hb2
        go_wp2_with fail
        go_ret
        exact ⟨⟨k, rfl, by rw [HA.out]; simp⟩, HB2.out⟩
      | false =>
        rw [hr] at HP
        have HZ2 := Lib.hid (take_all_succ HZ.out HX.out hr)
        clear hr
        go_wp2_with fail
        refine HP.out.mono ?_
        rintro e w2 ⟨rfl, hb2⟩
        have HB2 := Lib.hid hb2
        clear hb2
        go_wp2_with fail
        go_roundw
        case rel => exact ⟨k + 1, by omega, by go_num, HB2.out, HZ2⟩
        case measure => simp [RowKit.intOf]; omega
    · obtain rfl : k = l.length := by omega
      have HA := Lib.hid (any_miss (by have := HZ.out; rwa [List.take_length] at this))
      go_wp2_with fail
      go_ret
      exact ⟨⟨-1, rfl, by rw [HA.out]; rfl⟩, HB.out⟩

set_option maxRecDepth 100000 in
theorem containsField (l : List FieldR) (a : Option Addr) (cap : Nat) (w : World) (lb : Array Value) (q : FieldR → Bool) (h : FieldsAt w a cap l) (hl : l.length ≤ 1000000000) (hq : ∀ (k : Nat) (x : FieldR), l[k]? = some x → PredB 44 lb (fieldV x) (q x) w) :
    Calls Tryd.prog 43 #[.slice a l.length cap, .func (.func 44) #[] lb] w fun e w' => e = .returned (.bool (l.any q)) ∧ Below w.heap.size w w' := by
  have HI := Lib.hid (indexField l a cap w lb q h hl hq)
  clear hq h
  go_enter Tryd.func43, Tryd.ntmps43
  go_wp2_with fail
  refine HI.out.mono ?_
  rintro e w2 ⟨⟨i, rfl, hi⟩, hb2⟩
  have H1 := Lib.hid hi
  have HB2 := Lib.hid hb2
  clear hi hb2
  go_wp2_with fail
  go_ret
  exact ⟨ret_bool H1.out, HB2.out⟩

set_option maxRecDepth 100000 in
set_option maxHeartbeats 1000000 in
theorem indexMeth (l : List MethR) (a : Option Addr) (cap : Nat) (ps : List MAddr) (w : World) (lb : Array Value) (q : MethR → Bool) (h : MethsAt w a cap l ps) (hl : l.length ≤ 1000000000) (hq : ∀ (k : Nat) (x : MethR) (p : MAddr), l[k]? = some x → ps[k]? = some p → PredB 69 lb (methV x p) (q x) w) :
    Calls Tryd.prog 85 #[.slice a l.length cap, .func (.func 69) #[] lb] w fun e w' => (∃ i : Int, e = .returned (.int .i64 i) ∧ decide (0 ≤ i) = l.any q) ∧ Below w.heap.size w w' := by
  have HQ := Lib.hid hq
  have HL := Lib.hid h
  clear hq h
  go_enter Tryd.func85, Tryd.ntmps85
  go_wp2_with fail
  go_loopw [8] (fun i wr => ∃ k : Nat, k ≤ l.length ∧ i = .int .i64 k ∧ Below w.heap.size w wr ∧ Hid (∀ x ∈ l.take k, q x = false)) (fun i _ => l.length - (RowKit.intOf i).toNat)
  case atStart => exact ⟨0, by omega, rfl, Below.refl _ _, Lib.hid (by simp)⟩
  case round =>
    obtain ⟨k, hk, rfl, hb, HZ⟩ := hrel
    have HB := Lib.hid hb
    by_cases hlk : k < l.length
    · obtain ⟨x, hx⟩ : ∃ x, l[k]? = some x := ⟨_, List.getElem?_eq_getElem hlk⟩
      obtain ⟨b, off, p, rfl, hlt, hpp, _, c0, c1, c2, c3, c4, c5, c6, c7⟩ := (HL.out.below hb).cells hx
      have HP := Lib.hid (HQ.out k x p hx hpp wr hb)
      have HX := Lib.hid hx
      unfold methV at HP
      clear hx hb
      cases hr : q x with
      | true =>
        rw [hr] at HP
        have HA := Lib.hid (any_hit HX.out hr)
        clear hr
        go_wp2_with fail
        refine HP.out.mono ?_
        rintro e w2 ⟨rfl, hb2⟩
        have HB2 := Lib.hid hb2
        clear hb2
        go_wp2_with fail
        go_ret
        exact ⟨⟨k, rfl, by rw [HA.out]; simp⟩, HB2.out⟩
      | false =>
        rw [hr] at HP
        have HZ2 := Lib.hid (take_all_succ HZ.out HX.out hr)
        clear hr
        go_wp2_with fail
        refine HP.out.mono ?_
        rintro e w2 ⟨rfl, hb2⟩
        have HB2 := Lib.hid hb2
        clear hb2
        go_wp2_with fail
        go_roundw
        case rel => exact ⟨k + 1, by omega, by go_num, HB2.out, HZ2⟩
        case measure => simp [RowKit.intOf]; omega
    · obtain rfl : k = l.length := by omega
      have HA := Lib.hid (any_miss (by have := HZ.out; rwa [List.take_length] at this))
      go_wp2_with fail
      go_ret
      exact ⟨⟨-1, rfl, by rw [HA.out]; rfl⟩, HB.out⟩

set_option maxRecDepth 100000 in
theorem containsMeth (l : List MethR) (a : Option Addr) (cap : Nat) (ps : List MAddr) (w : World) (lb : Array Value) (q : MethR → Bool) (h : MethsAt w a cap l ps) (hl : l.length ≤ 1000000000) (hq : ∀ (k : Nat) (x : MethR) (p : MAddr), l[k]? = some x → ps[k]? = some p → PredB 69 lb (methV x p) (q x) w) :
    Calls Tryd.prog 68 #[.slice a l.length cap, .func (.func 69) #[] lb] w fun e w' => e = .returned (.bool (l.any q)) ∧ Below w.heap.size w w' := by
  have HI := Lib.hid (indexMeth l a cap ps w lb q h hl hq)
  clear hq h
  go_enter Tryd.func68, Tryd.ntmps68
  go_wp2_with fail
  refine HI.out.mono ?_
  rintro e w2 ⟨⟨i, rfl, hi⟩, hb2⟩
  have H1 := Lib.hid hi
  have HB2 := Lib.hid hb2
  clear hi hb2
  go_wp2_with fail
  go_ret
  exact ⟨ret_bool H1.out, HB2.out⟩

set_option maxRecDepth 100000 in
theorem sameField (x y : FieldR) (g : Nat) (w : World) (hg : g < w.heap.size) (hc : w.cell? ⟨g, 0, none⟩ = some (.string ⟨⟨y.nm⟩⟩)) : PredB 44 #[.pointer (some ⟨g, 0, none⟩)] (fieldV x) (x.nm == y.nm) w := by
  intro W hb
  have hc2 : W.cell? ⟨g, 0, none⟩ = some (.string ⟨⟨y.nm⟩⟩) := by rw [hb.cell (p := ⟨g, 0, none⟩) hg]; exact hc
  have hg2 : g < W.heap.size := Nat.lt_of_lt_of_le hg hb.size
  have HB := Lib.hid hb
  clear hb hc
  unfold fieldV
  show Calls Tryd.prog _ #[_, _] W _
  go_enter Tryd.func44, Tryd.ntmps44
  go_wp2_with fail
  go_ret
  exact ⟨ret_bool rfl, HB.out.alloc HB.out.size _⟩

set_option maxRecDepth 100000 in
theorem sameMeth (x m : MethR) (p : MAddr) (g : Nat) (w : World) (hg : g < w.heap.size) (h0 : w.cell? ⟨g, 0, none⟩ = some (.string ⟨⟨m.nm⟩⟩)) (h1 : w.cell? ⟨g, 1, none⟩ = some (.string ⟨⟨m.ty⟩⟩)) :
    PredB 69 #[.pointer (some ⟨g, 0, none⟩)] (methV x p) (x.nm == m.nm && x.ty == m.ty) w := by
  intro W hb
  have hc2 : W.cell? ⟨g, 0, none⟩ = some (.string ⟨⟨m.nm⟩⟩) := by rw [hb.cell (p := ⟨g, 0, none⟩) hg]; exact h0
  have hc3 : W.cell? ⟨g, 1, none⟩ = some (.string ⟨⟨m.ty⟩⟩) := by rw [hb.cell (p := ⟨g, 1, none⟩) hg]; exact h1
  have hg2 : g < W.heap.size := Nat.lt_of_lt_of_le hg hb.size
  have HB := Lib.hid hb
  clear hb h0 h1
  unfold methV
  show Calls Tryd.prog _ #[_, _] W _
  cases hq : x.nm == m.nm with
  | true =>
    go_enter Tryd.func69, Tryd.ntmps69
    go_wp2_with fail
    go_ret
    exact ⟨ret_bool (by simp), HB.out.alloc HB.out.size _⟩
  | false =>
    go_enter Tryd.func69, Tryd.ntmps69
    go_wp2_with fail
    go_ret
    exact ⟨ret_bool (by simp), HB.out.alloc HB.out.size _⟩

/-- a part of a slice of texts read from its front -/
theorem SRow.take {w : World} {a : Option Addr} {cap : Nat} {A : List (List UInt8)} (h : SRow w a cap A) (k : Nat) : SRow w a cap (A.take k) := by
  obtain ⟨h1, h2⟩ := h
  refine ⟨by rw [List.length_take]; omega, ?_⟩
  rcases h2 with rfl | ⟨b, off, rfl, hlt, hc⟩
  · exact Or.inl (by simp)
  · exact Or.inr ⟨b, off, rfl, hlt, fun j x hx => hc j x (by rw [List.getElem?_take] at hx; split at hx <;> simp_all)⟩
theorem RowsAt.take {w : World} {size : Nat} {a : Option Addr} {cap : Nat} {L : List (List Value)} (h : RowsAt w size a cap L) (k : Nat) : RowsAt w size a cap (L.take k) := by
  obtain ⟨h1, h2⟩ := h
  refine ⟨by rw [List.length_take]; omega, ?_⟩
  rcases h2 with rfl | ⟨b, off, rfl, hlt, hc⟩
  · exact Or.inl (by simp)
  · exact Or.inr ⟨b, off, rfl, hlt, fun j x hx => hc j x (by rw [List.getElem?_take] at hx; split at hx <;> simp_all)⟩
theorem FieldsAt.take {w : World} {a : Option Addr} {cap : Nat} {l : List FieldR} (h : FieldsAt w a cap l) (k : Nat) : FieldsAt w a cap (l.take k) := by
  have := RowsAt.take h k
  unfold FieldsAt
  rw [List.map_take]
  exact this
theorem MethsAt.take {w : World} {a : Option Addr} {cap : Nat} {l : List MethR} {ps : List MAddr} (h : MethsAt w a cap l ps) (k : Nat) : MethsAt w a cap (l.take k) (ps.take k) := by
  obtain ⟨h1, h2, h3⟩ := h
  refine ⟨by simp [h1], ?_, ?_⟩
  · have := RowsAt.take h2 k
    rw [← List.take_zipWith]
    exact this
  · intro j m p hm hp
    rw [List.getElem?_take] at hm hp
    split at hm
    · rename_i hj
      rw [if_pos hj] at hp
      exact h3 j m p hm hp
    · cases hm

theorem idx_contains (l : List (List UInt8)) (x : List UInt8) : Lib.containsS (l.map fun t => (⟨⟨t⟩⟩ : ByteArray)) ⟨⟨x⟩⟩ = l.contains x := by
  rw [Bool.eq_iff_iff, Lib.containsS_iff, List.contains_iff_mem, List.mem_map]
  constructor
  · rintro ⟨t, ht, e⟩
    have : t = x := by simpa using e
    rw [← this]; exact ht
  · intro h; exact ⟨x, h, rfl⟩

theorem contains_str (l : List (List UInt8)) (a : Option Addr) (n cap : Nat) (x : List UInt8) (w : World) (h : SRow w a cap l) (hn : n = l.length) (hl : l.length ≤ 1000000000) :
    Calls Tryd.prog 22 #[.slice a n cap, .string ⟨⟨x⟩⟩] w fun e w' => e = .returned (.bool (l.contains x)) ∧ w = w' := by
  subst hn
  obtain ⟨_, rfl | ⟨b, off, rfl, hlt, hc⟩⟩ := h
  · exact (Tryd.slices_Contains_string_empty a cap ⟨⟨x⟩⟩ w).mono fun e w' ⟨h1, h2⟩ => ⟨h1, h2.symm⟩
  · refine (Tryd.slices_Contains_string b off l.length cap (l.map fun t => (⟨⟨t⟩⟩ : ByteArray)) ⟨⟨x⟩⟩ w (by simp) (by omega) (fun j hj => ?_)).mono ?_
    · rw [List.length_map] at hj
      have := hc j l[j] (List.getElem?_eq_getElem hj)
      rw [this]
      simp [List.getD, List.getElem?_eq_getElem hj, strV]
    · rintro e w' ⟨rfl, rfl⟩
      refine ⟨ret_bool ?_, rfl⟩
      rw [List.take_of_length_le (by simp)]
      exact idx_contains l x
end Go.Proofs.YtokomofjcnefaaaDoor
