/-
  Desk: its block; the walks of must; of the literals for 'is', 'join'.
  Desk: the walk of the literal for 'class'.
-/
import Derived.Test.YtfimajijegohmaaGreatDoorDa
import Derived.Deep.RegionHeld3
import Derived.Deep.RegionHeld2
import Derived.Test.YtfimajijegohmaaGreatDoorWx
import Derived.Deep.RegionLawGrows
namespace Go.Proofs.YtfimajijegohmaaGreatDoor
set_option linter.unusedVariables false
set_option linter.unusedSimpArgs false
open Go.RowKit Go.Shelf Go.Lib

def errP (z : Int) : List PanicEntry := [{ v := errV z, recovered := false }]
theorem mustB_ok (b : Bool) (w : World) : Calls Tryz.prog 202 #[.bool b, .nilIface] w fun e w' => e = .returned (.bool b) ∧ w' = w := by
  go_enter Tryz.func202, Tryz.ntmps202
  go_wp2_with fail
  go_ret
  exact ⟨rfl, rfl⟩
theorem mustB_err (b : Bool) (z : Int) (w : World) : Calls Tryz.prog 202 #[.bool b, errV z] w fun e w' => e = .panicked (errP z) ∧ w' = w := by
  go_enter Tryz.func202, Tryz.ntmps202
  go_wp2_with fail
  exact ⟨rfl, rfl, rfl⟩
theorem mustS_ok (s : Nm) (w : World) : Calls Tryz.prog 204 #[.string ⟨⟨s⟩⟩, .nilIface] w fun e w' => e = .returned (.string ⟨⟨s⟩⟩) ∧ w' = w := by
  go_enter Tryz.func204, Tryz.ntmps204
  go_wp2_with fail
  go_ret
  exact ⟨rfl, rfl⟩
theorem mustS_err (s : Nm) (z : Int) (w : World) : Calls Tryz.prog 204 #[.string ⟨⟨s⟩⟩, errV z] w fun e w' => e = .panicked (errP z) ∧ w' = w := by
  go_enter Tryz.func204, Tryz.ntmps204
  go_wp2_with fail
  exact ⟨rfl, rfl, rfl⟩

/-- the desk: its block D, its classes -/
def DeskAt (W : World) (D : Nat) (l : List ClassR) (ps : List CAddr) : Prop := ∃ a cap, Blk W D 135 #[.slice a l.length cap, .slice none 0 0] ∧ ClassesAt W a cap l ps
theorem DeskAt.below {W W' : World} {D : Nat} {l : List ClassR} {ps : List CAddr} (h : DeskAt W D l ps) (hb : Below W.heap.size W W') : DeskAt W' D l ps := by
  obtain ⟨a, cap, h1, h2⟩ := h
  exact ⟨a, cap, h1.below hb, h2.below hb⟩
/-- two words, as a slice behind the first -/
def WordsAt (W : World) (g : Nat) (x y : Nm) : Prop := g < W.heap.size ∧ W.cell? ⟨g, 1, none⟩ = some (.string ⟨⟨x⟩⟩) ∧ W.cell? ⟨g, 2, none⟩ = some (.string ⟨⟨y⟩⟩)
theorem WordsAt.below {W W' : World} {g : Nat} {x y : Nm} (h : WordsAt W g x y) (hb : Below W.heap.size W W') : WordsAt W' g x y :=
  ⟨Nat.lt_of_lt_of_le h.1 hb.size, (hb.cell (p := ⟨g, 1, none⟩) h.1).trans h.2.1, (hb.cell (p := ⟨g, 2, none⟩) h.1).trans h.2.2⟩
/-- a region's end that is a panic with an error -/
def PanD (z : Int) (w : World) : Exit → Act → World → Prop := fun e a w' => e = .panic (errP z) ∧ a.defers = [] ∧ Below w.heap.size w w'
def yesNo (b : Bool) : Nm := if b then [121, 101, 115] else [110, 111]

set_option maxRecDepth 100000 in
set_option maxHeartbeats 4000000 in
theorem lit_is (l : List ClassR) (ps : List CAddr) (D g : Nat) (x y : Nm) (w : World) (hD : DeskAt w D l ps) (hG : WordsAt w g x y) (hF : FormsAt w) (hB : ClsOk l) (hx : x.length ≤ 1048576) (hy : y.length ≤ 1048576) :
    Calls Tryz.prog 201 #[.pointer (some ⟨D, 0, none⟩), .slice (some ⟨g, 1, none⟩) 2 2] w fun e w' => ((isErr2 l x y = 0 ∧ e = .returned (.string ⟨⟨yesNo ((every (wl l) x).contains y)⟩⟩)) ∨ (isErr2 l x y ≠ 0 ∧ e = .panicked (errP (isErr2 l x y)))) ∧ Below w.heap.size w w' := by
  obtain ⟨a, cap, hb, hc⟩ := hD
  obtain ⟨g0, g1, g2⟩ := hG
  have HSC := Lib.hid (fun W' (hw : Below w.heap.size w W') => (show W'.cell? ⟨D, 0, none⟩ = some (.slice a l.length cap) ∧ W'.cell? ⟨g, 1, none⟩ = some (.string ⟨⟨x⟩⟩) ∧ W'.cell? ⟨g, 2, none⟩ = some (.string ⟨⟨y⟩⟩) from
    ⟨(hb.below hw).cell 0, (hw.cell (p := ⟨g, 1, none⟩) g0).trans g1, (hw.cell (p := ⟨g, 2, none⟩) g0).trans g2⟩))
  have HIS := Lib.hid (fun W' (hw : Below w.heap.size w W') => is_calls l ps a cap x y W' (hc.below hw) (hF.below hw) hB hx hy)
  have hDl := hb.lt
  clear hb hc hF hB g1 g2
  by_cases hz : isErr2 l x y = 0
  · have HZ := Lib.hid hz
    generalize (every (wl l) x).contains y = q at *
    generalize isErr2 l x y = z at *
    subst hz
    go_enter Tryz.func201, Tryz.ntmps201
    go_upto_region 1 with fail
    go_region_held3 (fun W' => W'.cell? ⟨D, 0, none⟩ = some (.slice a l.length cap) ∧ W'.cell? ⟨g, 1, none⟩ = some (.string ⟨⟨x⟩⟩) ∧ W'.cell? ⟨g, 2, none⟩ = some (.string ⟨⟨y⟩⟩))
      (first | exact HSC.out _ (Below.refl _ _) | exact HSC.out _ (Below.refl _ _).drew | exact hs4)
      ((first
      | (go_at_call 27
         refine (HIS.out _ (by first | exact Below.refl _ _ | exact (Below.refl _ _).drew)).mono ?_
         rintro e w4 ⟨hb4, ⟨hne, _⟩ | ⟨_, rfl⟩⟩
         · exact absurd rfl hne
         have hb4' : Below w.heap.size w w4 := by first | exact hb4 | exact bl_trans (Below.refl w.heap.size w).drew hb4
         have hs4 := HSC.out _ hb4')
      | (go_at_call 202
         refine (mustB_ok _ _).mono ?_
         rintro e w5 ⟨rfl, rfl⟩)))
    all_goals
      have HB4 := Lib.hid hb4'
      clear hb4 hb4' hs4
      cases q with
      | true =>
        go_wp2_with fail
        go_ret
        exact ⟨Or.inl ⟨trivial, rfl⟩, HB4.out⟩
      | false =>
        go_wp2_with fail
        go_ret
        exact ⟨Or.inl ⟨trivial, rfl⟩, HB4.out⟩
  · generalize (every (wl l) x).contains y = q at *
    generalize isErr2 l x y = z at *
    have HZ := Lib.hid hz
    have HIE := Lib.hid (fun W' (hw : Below w.heap.size w W') => show Calls Tryz.prog 27 #[.slice a l.length cap, .string ⟨⟨x⟩⟩, .string ⟨⟨y⟩⟩] W' (fun e w' => Below W'.heap.size W' w' ∧ e = .returned (.tuple #[.bool false, errV z])) from
      (HIS.out W' hw).mono (fun e w' h => ⟨h.1, by
        rcases h.2 with ⟨_, h⟩ | ⟨h, _⟩
        · exact h
        · exact absurd h HZ.out⟩))
    clear hz HIS
    go_enter Tryz.func201, Tryz.ntmps201
    go_upto_region 1 with fail
    refine Code.wp_mono (Q := PanD z w) ?_ ?_
    · rintro e a' w' ⟨rfl, hd', hb'⟩
      go_wp2_with fail
      exact ⟨hd', Or.inr ⟨HZ.out, rfl⟩, hb'⟩
    --@IS
    refine wp_region_held_drew (S := fun W' => W'.cell? ⟨D, 0, none⟩ = some (.slice a l.length cap) ∧ W'.cell? ⟨g, 1, none⟩ = some (.string ⟨⟨x⟩⟩) ∧ W'.cell? ⟨g, 2, none⟩ = some (.string ⟨⟨y⟩⟩)) (by kernel_rfl) ?_ (fun hHeld => ?_)
    · exact HSC.out _ (Below.refl _ _).drew
    refine wpAnyH_take (i := 0) (oi := { dst := some 5, op := Op.move (Operand.tmp 0), type := 133, pos := "desk.go:56", after := #[], guard := none }) (v := ?_) rfl (by kernel_rfl) (by kernel_rfl) (by kernel_rfl) (fun _ _ _ h => h) (Or.inl ⟨by rfl, ?_⟩) (by assumption) ?_
    rotate_left
    · (intro w hSw; (try dsimp only at hSw); go_simp; try with_reducible rfl)
    try simp only [Act.put, List.setIfInBounds_toArray, List.set_cons_zero, List.set_cons_succ]
    refine wpAnyH_take (i := 1) (oi := { dst := some 6, op := Op.nilCheck (Operand.tmp 5), type := 0, pos := "desk.go:56", after := #[{ on := 0, ground := Ground.data }], guard := none }) (v := ?_) rfl (by kernel_rfl) (by kernel_rfl) (by kernel_rfl) (fun _ _ _ h => h) (Or.inl ⟨by rfl, ?_⟩) (by assumption) ?_
    rotate_left
    · (intro w hSw; (try dsimp only at hSw); go_simp; try with_reducible rfl)
    try simp only [Act.put, List.setIfInBounds_toArray, List.set_cons_zero, List.set_cons_succ]
    refine wpAnyH_take (i := 2) (oi := { dst := some 7, op := Op.fieldAddr 135 (Operand.tmp 6) 0, type := 0, pos := "desk.go:56", after := #[{ on := 1, ground := Ground.data }], guard := none }) (v := ?_) rfl (by kernel_rfl) (by kernel_rfl) (by kernel_rfl) (fun _ _ _ h => h) (Or.inl ⟨by rfl, ?_⟩) (by assumption) ?_
    rotate_left
    · (intro w hSw; (try dsimp only at hSw); go_simp; try with_reducible rfl)
    try simp only [Act.put, List.setIfInBounds_toArray, List.set_cons_zero, List.set_cons_succ]
    refine wpAnyH_take (i := 3) (oi := { dst := some 8, op := Op.load 22 (Operand.tmp 7), type := 22, pos := "desk.go:56", after := #[{ on := 2, ground := Ground.data }], guard := none }) (v := ?_) rfl (by kernel_rfl) (by kernel_rfl) (by kernel_rfl) (fun _ _ _ h => h) (Or.inl ⟨by rfl, ?_⟩) (by assumption) ?_
    rotate_left
    · (intro w hSw; (try dsimp only at hSw); go_simp; try with_reducible rfl)
    try simp only [Act.put, List.setIfInBounds_toArray, List.set_cons_zero, List.set_cons_succ]
    refine wpAnyH_take (i := 4) (oi := { dst := some 9, op := Op.move (Operand.tmp 1), type := 27, pos := "desk.go:56", after := #[], guard := none }) (v := ?_) rfl (by kernel_rfl) (by kernel_rfl) (by kernel_rfl) (fun _ _ _ h => h) (Or.inl ⟨by rfl, ?_⟩) (by assumption) ?_
    rotate_left
    · (intro w hSw; (try dsimp only at hSw); go_simp; try with_reducible rfl)
    try simp only [Act.put, List.setIfInBounds_toArray, List.set_cons_zero, List.set_cons_succ]
    refine wpAnyH_take (i := 5) (oi := { dst := some 10, op := Op.indexAddr 27 (Operand.tmp 9) (Operand.const (Value.int IntKind.i64 0)), type := 0, pos := "desk.go:56", after := #[{ on := 4, ground := Ground.data }], guard := none }) (v := ?_) rfl (by kernel_rfl) (by kernel_rfl) (by kernel_rfl) (fun _ _ _ h => h) (Or.inl ⟨by rfl, ?_⟩) (by assumption) ?_
    rotate_left
    · (intro w hSw; (try dsimp only at hSw); go_simp; try with_reducible rfl)
    try simp only [Act.put, List.setIfInBounds_toArray, List.set_cons_zero, List.set_cons_succ]
    refine wpAnyH_take (i := 6) (oi := { dst := some 11, op := Op.load 9 (Operand.tmp 10), type := 9, pos := "desk.go:56", after := #[{ on := 5, ground := Ground.data }], guard := none }) (v := ?_) rfl (by kernel_rfl) (by kernel_rfl) (by kernel_rfl) (fun _ _ _ h => h) (Or.inl ⟨by rfl, ?_⟩) (by assumption) ?_
    rotate_left
    · (intro w hSw; (try dsimp only at hSw); go_simp; try with_reducible rfl)
    try simp only [Act.put, List.setIfInBounds_toArray, List.set_cons_zero, List.set_cons_succ]
    refine wpAnyH_take (i := 7) (oi := { dst := some 12, op := Op.move (Operand.tmp 1), type := 27, pos := "desk.go:56", after := #[], guard := none }) (v := ?_) rfl (by kernel_rfl) (by kernel_rfl) (by kernel_rfl) (fun _ _ _ h => h) (Or.inl ⟨by rfl, ?_⟩) (by assumption) ?_
    rotate_left
    · (intro w hSw; (try dsimp only at hSw); go_simp; try with_reducible rfl)
    try simp only [Act.put, List.setIfInBounds_toArray, List.set_cons_zero, List.set_cons_succ]
    refine wpAnyH_take (i := 8) (oi := { dst := some 13, op := Op.indexAddr 27 (Operand.tmp 12) (Operand.const (Value.int IntKind.i64 1)), type := 0, pos := "desk.go:56", after := #[{ on := 7, ground := Ground.data }], guard := none }) (v := ?_) rfl (by kernel_rfl) (by kernel_rfl) (by kernel_rfl) (fun _ _ _ h => h) (Or.inl ⟨by rfl, ?_⟩) (by assumption) ?_
    rotate_left
    · (intro w hSw; (try dsimp only at hSw); go_simp; try with_reducible rfl)
    try simp only [Act.put, List.setIfInBounds_toArray, List.set_cons_zero, List.set_cons_succ]
    refine wpAnyH_take (i := 9) (oi := { dst := some 14, op := Op.load 9 (Operand.tmp 13), type := 9, pos := "desk.go:56", after := #[{ on := 8, ground := Ground.data }], guard := none }) (v := ?_) rfl (by kernel_rfl) (by kernel_rfl) (by kernel_rfl) (fun _ _ _ h => h) (Or.inl ⟨by rfl, ?_⟩) (by assumption) ?_
    rotate_left
    · (intro w hSw; (try dsimp only at hSw); go_simp; try with_reducible rfl)
    try simp only [Act.put, List.setIfInBounds_toArray, List.set_cons_zero, List.set_cons_succ]
    refine wpAnyH_ready (rs := [10]) (by kernel_rfl) (by simp) ?_
    refine AllReadyH.cons (o := { dst := some 15, op := Op.call { callee := Callee.value (Operand.func 27), args := #[Operand.tmp 8, Operand.tmp 11, Operand.tmp 14], argTypes := #[22, 9, 9] }, type := 80, pos := "desk.go:56", after := #[{ on := 3, ground := Ground.data }, { on := 6, ground := Ground.data }, { on := 9, ground := Ground.data }], guard := none }) rfl (fun K hK => ?_) AllReadyH.nil
    go_simp
    go_wp2_with ((go_at_call 27; refine (HIE.out _ (Below.refl _ _).drew).mono ?_; rintro e w4 ⟨hb4, rfl⟩; have hb4 := bl_trans (Below.refl w.heap.size w).drew hb4))
    refine hK.out _ _ ?_ (fun hHeld => ?_)
    · exact HSC.out _ hb4
    clear hK K
    try simp only [Act.put, List.setIfInBounds_toArray, List.set_cons_zero, List.set_cons_succ]
    refine wpAnyH_take (i := 11) (oi := { dst := some 16, op := Op.extract (Operand.tmp 15) 0, type := 4, pos := "desk.go:56", after := #[{ on := 10, ground := Ground.data }], guard := none }) (v := ?_) rfl (by kernel_rfl) (by kernel_rfl) (by kernel_rfl) (fun _ _ _ h => h) (Or.inl ⟨by rfl, ?_⟩) (by assumption) ?_
    rotate_left
    · (intro w hSw; (try dsimp only at hSw); go_simp; try with_reducible rfl)
    try simp only [Act.put, List.setIfInBounds_toArray, List.set_cons_zero, List.set_cons_succ]
    refine wpAnyH_take (i := 12) (oi := { dst := some 17, op := Op.extract (Operand.tmp 15) 1, type := 25, pos := "desk.go:56", after := #[{ on := 10, ground := Ground.data }], guard := none }) (v := ?_) rfl (by kernel_rfl) (by kernel_rfl) (by kernel_rfl) (fun _ _ _ h => h) (Or.inl ⟨by rfl, ?_⟩) (by assumption) ?_
    rotate_left
    · (intro w hSw; (try dsimp only at hSw); go_simp; try with_reducible rfl)
    try simp only [Act.put, List.setIfInBounds_toArray, List.set_cons_zero, List.set_cons_succ]
    refine wpAnyH_ready (rs := [13]) (by kernel_rfl) (by simp) ?_
    refine AllReadyH.cons (o := { dst := some 18, op := Op.call { callee := Callee.value (Operand.func 202), args := #[Operand.tmp 16, Operand.tmp 17], argTypes := #[4, 25] }, type := 4, pos := "desk.go:56", after := #[{ on := 11, ground := Ground.data }, { on := 12, ground := Ground.data }, { on := 10, ground := Ground.chain }], guard := none }) rfl (fun K hK => ?_) AllReadyH.nil
    go_simp
    go_wp2_with ((go_at_call 202; refine (mustB_err _ _ _).mono ?_; rintro e w5 ⟨rfl, rfl⟩))
    exact ⟨rfl, rfl, hb4⟩
    --@END
/-- what join.Join tells -/
noncomputable def joinR (l : List ClassR) (s t : Nm) : Nm := (joinK (wl l) (kd (wl l) s) (kd (wl l) t)).text
theorem join_ok (l : List ClassR) (s t : Nm) (h : read2Err l s t = 0) : ∃ x y : Kd, s = x.text ∧ t = y.text ∧ x.Ok (wl l) ∧ y.Ok (wl l) ∧ (joinK (wl l) x y).text = joinR l s t := by
  obtain ⟨_, h1, h2⟩ := read2_zero.1 h
  exact ⟨_, _, (kd_spec h1).2, (kd_spec h2).2, (kd_spec h1).1, (kd_spec h2).1, rfl⟩

set_option maxRecDepth 100000 in
set_option maxHeartbeats 4000000 in
theorem lit_join (l : List ClassR) (ps : List CAddr) (D g : Nat) (x y : Nm) (w : World) (hD : DeskAt w D l ps) (hG : WordsAt w g x y) (hF : FormsAt w) (hB : ClsOk l) (hx : x.length ≤ 8388608) (hy : y.length ≤ 8388608) :
    Calls Tryz.prog 203 #[.pointer (some ⟨D, 0, none⟩), .slice (some ⟨g, 1, none⟩) 2 2] w fun e w' => ((read2Err l x y = 0 ∧ e = .returned (.string ⟨⟨joinR l x y⟩⟩)) ∨ (read2Err l x y ≠ 0 ∧ e = .panicked (errP (read2Err l x y)))) ∧ Below w.heap.size w w' := by
  obtain ⟨a, cap, hb, hc⟩ := hD
  obtain ⟨g0, g1, g2⟩ := hG
  have HSC := Lib.hid (fun W' (hw : Below w.heap.size w W') => (show W'.cell? ⟨D, 0, none⟩ = some (.slice a l.length cap) ∧ W'.cell? ⟨g, 1, none⟩ = some (.string ⟨⟨x⟩⟩) ∧ W'.cell? ⟨g, 2, none⟩ = some (.string ⟨⟨y⟩⟩) from
    ⟨(hb.below hw).cell 0, (hw.cell (p := ⟨g, 1, none⟩) g0).trans g1, (hw.cell (p := ⟨g, 2, none⟩) g0).trans g2⟩))
  have HIS := Lib.hid (fun W' (hw : Below w.heap.size w W') => join_join_calls l ps a cap x y W' (hc.below hw) (hF.below hw) hB hx hy (joinR l x y) (join_ok l x y))
  have hDl := hb.lt
  clear hb hc hF hB g1 g2
  by_cases hz : read2Err l x y = 0
  · have HZ := Lib.hid hz
    generalize joinR l x y = q at *
    generalize read2Err l x y = z at *
    subst hz
    go_enter Tryz.func203, Tryz.ntmps203
    go_upto_region 1 with fail
    go_region_held3 (fun W' => W'.cell? ⟨D, 0, none⟩ = some (.slice a l.length cap) ∧ W'.cell? ⟨g, 1, none⟩ = some (.string ⟨⟨x⟩⟩) ∧ W'.cell? ⟨g, 2, none⟩ = some (.string ⟨⟨y⟩⟩))
      (first | exact HSC.out _ (Below.refl _ _) | exact HSC.out _ (Below.refl _ _).drew | exact hs4)
      ((first
      | (go_at_call 28
         refine (HIS.out _ (by first | exact Below.refl _ _ | exact (Below.refl _ _).drew)).mono ?_
         rintro e w4 ⟨hb4, ⟨hne, _⟩ | ⟨_, rfl⟩⟩
         · exact absurd rfl hne
         have hb4' : Below w.heap.size w w4 := by first | exact hb4 | exact bl_trans (Below.refl w.heap.size w).drew hb4
         have hs4 := HSC.out _ hb4')
      | (go_at_call 204
         refine (mustS_ok _ _).mono ?_
         rintro e w5 ⟨rfl, rfl⟩)))
    all_goals
      have HB4 := Lib.hid hb4'
      clear hb4 hb4' hs4
      go_wp2_with fail
      go_ret
      exact ⟨Or.inl ⟨trivial, rfl⟩, HB4.out⟩
  · generalize joinR l x y = q at *
    generalize read2Err l x y = z at *
    have HZ := Lib.hid hz
    have HJE := Lib.hid (fun W' (hw : Below w.heap.size w W') => show Calls Tryz.prog 28 #[.slice a l.length cap, .string ⟨⟨x⟩⟩, .string ⟨⟨y⟩⟩] W' (fun e w' => Below W'.heap.size W' w' ∧ e = .returned (.tuple #[.string ⟨#[]⟩, errV z])) from
      (HIS.out W' hw).mono (fun e w' h => ⟨h.1, by
        rcases h.2 with ⟨_, h⟩ | ⟨h, _⟩
        · exact h
        · exact absurd h HZ.out⟩))
    clear hz HIS
    go_enter Tryz.func203, Tryz.ntmps203
    go_upto_region 1 with fail
    refine Code.wp_mono (Q := PanD z w) ?_ ?_
    · rintro e a' w' ⟨rfl, hd', hb'⟩
      go_wp2_with fail
      exact ⟨hd', Or.inr ⟨HZ.out, rfl⟩, hb'⟩
    --@JOIN
    refine wp_region_held_drew (S := fun W' => W'.cell? ⟨D, 0, none⟩ = some (.slice a l.length cap) ∧ W'.cell? ⟨g, 1, none⟩ = some (.string ⟨⟨x⟩⟩) ∧ W'.cell? ⟨g, 2, none⟩ = some (.string ⟨⟨y⟩⟩)) (by kernel_rfl) ?_ (fun hHeld => ?_)
    · exact HSC.out _ (Below.refl _ _).drew
    refine wpAnyH_take (i := 0) (oi := { dst := some 5, op := Op.move (Operand.tmp 0), type := 133, pos := "desk.go:61", after := #[], guard := none }) (v := ?_) rfl (by kernel_rfl) (by kernel_rfl) (by kernel_rfl) (fun _ _ _ h => h) (Or.inl ⟨by rfl, ?_⟩) (by assumption) ?_
    rotate_left
    · (intro w hSw; (try dsimp only at hSw); go_simp; try with_reducible rfl)
    try simp only [Act.put, List.setIfInBounds_toArray, List.set_cons_zero, List.set_cons_succ]
    refine wpAnyH_take (i := 1) (oi := { dst := some 6, op := Op.nilCheck (Operand.tmp 5), type := 0, pos := "desk.go:61", after := #[{ on := 0, ground := Ground.data }], guard := none }) (v := ?_) rfl (by kernel_rfl) (by kernel_rfl) (by kernel_rfl) (fun _ _ _ h => h) (Or.inl ⟨by rfl, ?_⟩) (by assumption) ?_
    rotate_left
    · (intro w hSw; (try dsimp only at hSw); go_simp; try with_reducible rfl)
    try simp only [Act.put, List.setIfInBounds_toArray, List.set_cons_zero, List.set_cons_succ]
    refine wpAnyH_take (i := 2) (oi := { dst := some 7, op := Op.fieldAddr 135 (Operand.tmp 6) 0, type := 0, pos := "desk.go:61", after := #[{ on := 1, ground := Ground.data }], guard := none }) (v := ?_) rfl (by kernel_rfl) (by kernel_rfl) (by kernel_rfl) (fun _ _ _ h => h) (Or.inl ⟨by rfl, ?_⟩) (by assumption) ?_
    rotate_left
    · (intro w hSw; (try dsimp only at hSw); go_simp; try with_reducible rfl)
    try simp only [Act.put, List.setIfInBounds_toArray, List.set_cons_zero, List.set_cons_succ]
    refine wpAnyH_take (i := 3) (oi := { dst := some 8, op := Op.load 22 (Operand.tmp 7), type := 22, pos := "desk.go:61", after := #[{ on := 2, ground := Ground.data }], guard := none }) (v := ?_) rfl (by kernel_rfl) (by kernel_rfl) (by kernel_rfl) (fun _ _ _ h => h) (Or.inl ⟨by rfl, ?_⟩) (by assumption) ?_
    rotate_left
    · (intro w hSw; (try dsimp only at hSw); go_simp; try with_reducible rfl)
    try simp only [Act.put, List.setIfInBounds_toArray, List.set_cons_zero, List.set_cons_succ]
    refine wpAnyH_take (i := 4) (oi := { dst := some 9, op := Op.move (Operand.tmp 1), type := 27, pos := "desk.go:61", after := #[], guard := none }) (v := ?_) rfl (by kernel_rfl) (by kernel_rfl) (by kernel_rfl) (fun _ _ _ h => h) (Or.inl ⟨by rfl, ?_⟩) (by assumption) ?_
    rotate_left
    · (intro w hSw; (try dsimp only at hSw); go_simp; try with_reducible rfl)
    try simp only [Act.put, List.setIfInBounds_toArray, List.set_cons_zero, List.set_cons_succ]
    refine wpAnyH_take (i := 5) (oi := { dst := some 10, op := Op.indexAddr 27 (Operand.tmp 9) (Operand.const (Value.int IntKind.i64 0)), type := 0, pos := "desk.go:61", after := #[{ on := 4, ground := Ground.data }], guard := none }) (v := ?_) rfl (by kernel_rfl) (by kernel_rfl) (by kernel_rfl) (fun _ _ _ h => h) (Or.inl ⟨by rfl, ?_⟩) (by assumption) ?_
    rotate_left
    · (intro w hSw; (try dsimp only at hSw); go_simp; try with_reducible rfl)
    try simp only [Act.put, List.setIfInBounds_toArray, List.set_cons_zero, List.set_cons_succ]
    refine wpAnyH_take (i := 6) (oi := { dst := some 11, op := Op.load 9 (Operand.tmp 10), type := 9, pos := "desk.go:61", after := #[{ on := 5, ground := Ground.data }], guard := none }) (v := ?_) rfl (by kernel_rfl) (by kernel_rfl) (by kernel_rfl) (fun _ _ _ h => h) (Or.inl ⟨by rfl, ?_⟩) (by assumption) ?_
    rotate_left
    · (intro w hSw; (try dsimp only at hSw); go_simp; try with_reducible rfl)
    try simp only [Act.put, List.setIfInBounds_toArray, List.set_cons_zero, List.set_cons_succ]
    refine wpAnyH_take (i := 7) (oi := { dst := some 12, op := Op.move (Operand.tmp 1), type := 27, pos := "desk.go:61", after := #[], guard := none }) (v := ?_) rfl (by kernel_rfl) (by kernel_rfl) (by kernel_rfl) (fun _ _ _ h => h) (Or.inl ⟨by rfl, ?_⟩) (by assumption) ?_
    rotate_left
    · (intro w hSw; (try dsimp only at hSw); go_simp; try with_reducible rfl)
    try simp only [Act.put, List.setIfInBounds_toArray, List.set_cons_zero, List.set_cons_succ]
    refine wpAnyH_take (i := 8) (oi := { dst := some 13, op := Op.indexAddr 27 (Operand.tmp 12) (Operand.const (Value.int IntKind.i64 1)), type := 0, pos := "desk.go:61", after := #[{ on := 7, ground := Ground.data }], guard := none }) (v := ?_) rfl (by kernel_rfl) (by kernel_rfl) (by kernel_rfl) (fun _ _ _ h => h) (Or.inl ⟨by rfl, ?_⟩) (by assumption) ?_
    rotate_left
    · (intro w hSw; (try dsimp only at hSw); go_simp; try with_reducible rfl)
    try simp only [Act.put, List.setIfInBounds_toArray, List.set_cons_zero, List.set_cons_succ]
    refine wpAnyH_take (i := 9) (oi := { dst := some 14, op := Op.load 9 (Operand.tmp 13), type := 9, pos := "desk.go:61", after := #[{ on := 8, ground := Ground.data }], guard := none }) (v := ?_) rfl (by kernel_rfl) (by kernel_rfl) (by kernel_rfl) (fun _ _ _ h => h) (Or.inl ⟨by rfl, ?_⟩) (by assumption) ?_
    rotate_left
    · (intro w hSw; (try dsimp only at hSw); go_simp; try with_reducible rfl)
    try simp only [Act.put, List.setIfInBounds_toArray, List.set_cons_zero, List.set_cons_succ]
    refine wpAnyH_ready (rs := [10]) (by kernel_rfl) (by simp) ?_
    refine AllReadyH.cons (o := { dst := some 15, op := Op.call { callee := Callee.value (Operand.func 28), args := #[Operand.tmp 8, Operand.tmp 11, Operand.tmp 14], argTypes := #[22, 9, 9] }, type := 82, pos := "desk.go:61", after := #[{ on := 3, ground := Ground.data }, { on := 6, ground := Ground.data }, { on := 9, ground := Ground.data }], guard := none }) rfl (fun K hK => ?_) AllReadyH.nil
    go_simp
    go_wp2_with ((go_at_call 28; refine (HJE.out _ (Below.refl _ _).drew).mono ?_; rintro e w4 ⟨hb4, rfl⟩; have hb4 := bl_trans (Below.refl w.heap.size w).drew hb4))
    refine hK.out _ _ ?_ (fun hHeld => ?_)
    · exact HSC.out _ hb4
    clear hK K
    try simp only [Act.put, List.setIfInBounds_toArray, List.set_cons_zero, List.set_cons_succ]
    refine wpAnyH_take (i := 11) (oi := { dst := some 16, op := Op.extract (Operand.tmp 15) 0, type := 9, pos := "desk.go:61", after := #[{ on := 10, ground := Ground.data }], guard := none }) (v := ?_) rfl (by kernel_rfl) (by kernel_rfl) (by kernel_rfl) (fun _ _ _ h => h) (Or.inl ⟨by rfl, ?_⟩) (by assumption) ?_
    rotate_left
    · (intro w hSw; (try dsimp only at hSw); go_simp; try with_reducible rfl)
    try simp only [Act.put, List.setIfInBounds_toArray, List.set_cons_zero, List.set_cons_succ]
    refine wpAnyH_take (i := 12) (oi := { dst := some 17, op := Op.extract (Operand.tmp 15) 1, type := 25, pos := "desk.go:61", after := #[{ on := 10, ground := Ground.data }], guard := none }) (v := ?_) rfl (by kernel_rfl) (by kernel_rfl) (by kernel_rfl) (fun _ _ _ h => h) (Or.inl ⟨by rfl, ?_⟩) (by assumption) ?_
    rotate_left
    · (intro w hSw; (try dsimp only at hSw); go_simp; try with_reducible rfl)
    try simp only [Act.put, List.setIfInBounds_toArray, List.set_cons_zero, List.set_cons_succ]
    refine wpAnyH_ready (rs := [13]) (by kernel_rfl) (by simp) ?_
    refine AllReadyH.cons (o := { dst := some 18, op := Op.call { callee := Callee.value (Operand.func 204), args := #[Operand.tmp 16, Operand.tmp 17], argTypes := #[9, 25] }, type := 9, pos := "desk.go:61", after := #[{ on := 11, ground := Ground.data }, { on := 12, ground := Ground.data }, { on := 10, ground := Ground.chain }], guard := none }) rfl (fun K hK => ?_) AllReadyH.nil
    go_simp
    go_wp2_with ((go_at_call 204; refine (mustS_err _ _ _).mono ?_; rintro e w5 ⟨rfl, rfl⟩))
    exact ⟨rfl, rfl, hb4⟩
    --@END
end Go.Proofs.YtfimajijegohmaaGreatDoor
namespace Go.Proofs.YtfimajijegohmaaGreatDoor
set_option linter.unusedVariables false
set_option linter.unusedSimpArgs false
open Go.RowKit Go.Shelf Go.Lib

theorem step_app_grows {P : Program} {w : World} {t e : TypeId} {size bytes : Nat} (T : RowT P t e size bytes) {ops : Array Oper} {o : Oper} {a : Act} {K : Act → World → Prop} {Q : Exit → Act → World → Prop} {E : Prop} (hgd : o.guard = none) (s x : Operand)
    (ho : o.op = Op.call { callee := Callee.builtin Builtin.append, args := #[s, x], argTypes := #[t, t] }) (ao : Option Addr) (n cap : Nat) (olds : List Value) (hs : a.eval s = .slice ao n cap) (hnone : ao = none → n = 0 ∧ cap = 0) (hlo : olds.length = n * size) (holds : ∀ b, ao = some b → ∀ j u, olds[j]? = some u → w.cell? (b.add j) = some u)
    (ad : Addr) (m c : Nat) (news : List Value) (hx : a.eval x = .slice (some ad) m c) (hn : news.length = m * size) (hc : ∀ j u, news[j]? = some u → w.cell? (ad.add j) = some u) (h1c : ∀ u ∈ news, u.oneCell' = true)
    (hfull : cap < n + m) (b1 : n + m ≤ 1000000000) (b2 : (n + m) * bytes ≤ 140737488355328)
    (hK : ∀ v' w', w'.ownsRow w.heap.size e size v' (n + m) (olds ++ news) → w.grownBy w' none → K (a.put o.dst v') w') :
    if Region.wanted o (yielded ops a.tmps) = true then Oper.wp P o a w K Q else E := by
  obtain ⟨i, z, hi, hz, hsz, hby, hzs⟩ := T.info
  exact step_append_grows hgd s x t ho e i z size bytes T.slice hi hz hsz hby hzs T.pos ao n cap olds hs hnone hlo holds ad m c news hx hn hc h1c hfull (by unfold maxLen; omega) b2 hK

/-- a class of the desk's -/
def cl2 (x y : Nm) : ClassR := ⟨x, y, [], false, [], []⟩
/-- classes without members -/
def Plain2 (l : List ClassR) (ps : List CAddr) : Prop := ps = List.replicate l.length nilP ∧ ∀ c ∈ l, c.faces = [] ∧ c.fields = [] ∧ c.meths = []
theorem Plain2.each {l : List ClassR} {ps : List CAddr} (h : Plain2 l ps) (W : World) : ∀ cp ∈ l.zip ps, ClassAt W cp.1 cp.2 := by
  intro cp hcp
  have h1 := List.of_mem_zip hcp
  obtain ⟨a1, a2, a3⟩ := h.2 _ h1.1
  have h2 : cp.2 = nilP := by
    have := h1.2
    rw [h.1] at this
    exact (List.mem_replicate.1 this).2
  rw [h2]
  exact zero_at W cp.1 a1 a2 a3
theorem Plain2.snoc {l : List ClassR} {ps : List CAddr} (h : Plain2 l ps) (x y : Nm) : Plain2 (l ++ [cl2 x y]) (ps ++ [nilP]) := by
  refine ⟨by rw [h.1, List.length_append, List.length_singleton, List.replicate_succ'], fun c hc => ?_⟩
  rcases List.mem_append.1 hc with h1 | h1
  · exact h.2 c h1
  · rw [List.mem_singleton.1 h1]; exact ⟨rfl, rfl, rfl⟩
theorem own_nb {w : World} {B : Nat} {e : TypeId} {size : Nat} {v : Value} {n : Nat} {xs : List Value} (h : w.ownsRow B e size v n xs) {g : Nat} {T : TypeId} {cs : Array Value} (hb : Blk w g T cs) (hne : T ≠ e) : v.ownBlock ≠ some g := by
  intro hg
  rcases h.2 with ⟨rfl, _⟩ | ⟨k, _, _, rfl, _, hk, _⟩
  · cases hg
  · simp only [Value.ownBlock, Option.some.injEq] at hg
    subst hg
    unfold Blk at hb
    rw [hk] at hb
    simp only [Option.some.injEq, Obj.cells.injEq] at hb
    exact hne hb.2.1.symm
theorem zip_more {l : List ClassR} {ps : List CAddr} (h : ps.length = l.length) (c : ClassR) (p : CAddr) : (List.zipWith classCells (l ++ [c]) (ps ++ [p])).flatten = (List.zipWith classCells l ps).flatten ++ classCells c p := by
  rw [List.zipWith_append h.symm, List.flatten_append]
  simp
theorem Plain2.len {l : List ClassR} {ps : List CAddr} (h : Plain2 l ps) : ps.length = l.length := by rw [h.1, List.length_replicate]
/-- the desk: its classes, without members, in a row of its own -/
def DeskIs (W : World) (D : Nat) (l : List ClassR) (ps : List CAddr) : Prop :=
  Plain2 l ps ∧ ∃ a cap, Blk W D 135 #[.slice a l.length cap, .slice none 0 0] ∧ W.ownsRow 0 31 6 (.slice a l.length cap) l.length (List.zipWith classCells l ps).flatten
theorem row_classes {W : World} {B : Nat} {a : Option Addr} {cap : Nat} {l : List ClassR} {ps : List CAddr} (hP : Plain2 l ps) (h : W.ownsRow B 31 6 (.slice a l.length cap) l.length (List.zipWith classCells l ps).flatten) :
    ClassesAt W a cap l ps ∧ ((a = none ∧ l = [] ∧ cap = 0) ∨ ∃ g, a = some ⟨g, 0, none⟩) := by
  have hz : (List.zipWith classCells l ps).length = l.length := by rw [List.length_zipWith, hP.len, Nat.min_self]
  have h' : W.ownsRow B 31 6 (.slice a l.length cap) (List.zipWith classCells l ps).length (List.zipWith classCells l ps).flatten := by rw [hz]; exact h
  obtain ⟨a2, cap2, h1, h2⟩ := rows_of_own h' (zipc_size _ _)
  simp only [Value.slice.injEq] at h1
  obtain ⟨rfl, _, rfl⟩ := h1
  refine ⟨⟨hP.len, h2, fun k c p hk hp => ?_⟩, ?_⟩
  · have hz := hP.each W (c, p) (by
      rw [List.mem_iff_getElem?]
      exact ⟨k, by rw [List.getElem?_zip_eq_some]; exact ⟨hk, hp⟩⟩)
    exact hz
  · rcases h.2 with ⟨h0, h1⟩ | ⟨g, cap', cur, hv, _⟩
    · simp only [Value.slice.injEq] at h0
      exact Or.inl ⟨h0.1, List.eq_nil_of_length_eq_zero h1, h0.2.2⟩
    · simp only [Value.slice.injEq] at hv
      exact Or.inr ⟨g, hv.1⟩
theorem DeskIs.at {W : World} {D : Nat} {l : List ClassR} {ps : List CAddr} (h : DeskIs W D l ps) : DeskAt W D l ps := by
  obtain ⟨hP, a, cap, h1, h2⟩ := h
  exact ⟨a, cap, h1, (row_classes hP h2).1⟩
theorem DeskIs.below {W W' : World} {D : Nat} {l : List ClassR} {ps : List CAddr} (h : DeskIs W D l ps) (hb : Below W.heap.size W W') : DeskIs W' D l ps := by
  obtain ⟨hP, a, cap, h1, h2⟩ := h
  exact ⟨hP, a, cap, h1.below hb, own_below h2 hb⟩
theorem DeskIs.set {W : World} {D r j : Nat} {l : List ClassR} {ps : List CAddr} {T : TypeId} {cur : Array Value} (h : DeskIs W D l ps) (hr : Blk W r T cur) (h1 : T ≠ 135) (h2 : T ≠ 31) (u : Value) : DeskIs (W.setCell ⟨r, j, none⟩ u) D l ps := by
  obtain ⟨hP, a, cap, h3, h4⟩ := h
  have hne : D ≠ r := fun e => by
    subst e
    have a1 : W.heap[D]? = some (.cells _ _ (0, 0)) := hr
    have a2 : W.heap[D]? = some (.cells _ _ (0, 0)) := h3
    rw [a1] at a2
    simp at a2
    exact h1 a2.2
  exact ⟨hP, a, cap, gb_blk (gb_set (gb_refl W r) j u) h3 hne, own_set h4 (own_nb h4 hr h2) u⟩
theorem cl2_ok {l : List ClassR} {x y : Nm} (hB : ClsOk l) (hx : x.length ≤ 1048576) (hy : y.length ≤ 1048576) : ClsOk (l ++ [cl2 x y]) := by
  intro d hd
  rcases List.mem_append.1 hd with h | h
  · exact hB d h
  · rw [List.mem_singleton.1 h]
    exact ⟨⟨by simp [cl2], by simp [cl2], by simp [cl2], by simp [cl2], by simp [cl2]⟩, ⟨hx, hy, by simp [cl2], by simp [cl2], by simp [cl2]⟩⟩
theorem classes_len {W : World} {a : Option Addr} {cap : Nat} {l : List ClassR} {ps : List CAddr} (h : ClassesAt W a cap l ps) : l.length ≤ cap ∧ ((List.zipWith classCells l ps).flatten).length = l.length * 6 := by
  have h2 := h.2.1.1
  rw [List.length_zipWith, h.1, Nat.min_self] at h2
  refine ⟨h2, ?_⟩
  rcases src_of_classes h with ⟨c, h3, h4, h5⟩ | h1
  · rw [h4, h5]; rfl
  · exact h1.1
theorem classes_cells {W : World} {g : Nat} {cap : Nat} {l : List ClassR} {ps : List CAddr} (h : ClassesAt W (some ⟨g, 0, none⟩) cap l ps) (j : Nat) (u : Value) (hj : ((List.zipWith classCells l ps).flatten)[j]? = some u) : W.cell? ((⟨g, 0, none⟩ : Addr).add j) = some u := by
  rcases src_of_classes h with ⟨c, h3, h4, h5⟩ | ⟨_, _, ⟨h3, _⟩ | ⟨ad, c, h3, h4⟩⟩
  · rw [h5] at hj; simp at hj
  · cases h3
  · simp only [Value.slice.injEq, Option.some.injEq, true_and] at h3
    obtain ⟨rfl, _⟩ := h3
    exact h4 j u hj
theorem slice_full (g n cap : Nat) (h : n ≤ cap) (W : World) : (Instr.slice 22 (.slice (some ⟨g, 0, none⟩) n cap) none (some (.int .i64 n)) (some (.int .i64 n))).run Tryz.prog W = .ok (.slice (some ⟨g, 0, none⟩) n n) W := by
  have h1 := Tryz.underlying22
  simp [Instr.slice, Instr.sliceBounds, Instr.sliceBound, run_underlying h1, asIntOf, Result.andThen, h, go_sem]
theorem slice_nil (W : World) : (Instr.slice 22 (.slice none 0 0) none (some (.int .i64 0)) (some (.int .i64 0))).run Tryz.prog W = .ok (.slice none 0 0) W := by
  have h1 := Tryz.underlying22
  simp [Instr.slice, Instr.sliceBounds, Instr.sliceBound, run_underlying h1, asIntOf, Result.andThen, go_sem]
theorem own_some {w : World} {B : Nat} {e : TypeId} {size n : Nat} {v : Value} {xs : List Value} (h : w.ownsRow B e size v (n + 1) xs) : ∃ g cap, v = .slice (some ⟨g, 0, none⟩) (n + 1) cap ∧ n + 1 ≤ cap := by
  rcases h.2 with ⟨_, h0⟩ | ⟨g, cap, cur, rfl, _, _, hle, _⟩
  · omega
  · exact ⟨g, cap, rfl, hle⟩
def AddRes (l : List ClassR) (ps : List CAddr) (D : Nat) (x y : Nm) (w : World) (e : Ending) (w' : World) : Prop :=
  w.grownBy w' (some D) ∧ ((readErr (l ++ [cl2 x y]) = 0 ∧ e = .returned (.string ⟨⟨[111, 107]⟩⟩) ∧ DeskIs w' D (l ++ [cl2 x y]) (ps ++ [nilP])) ∨ (readErr (l ++ [cl2 x y]) ≠ 0 ∧ e = .panicked (errP (readErr (l ++ [cl2 x y]))) ∧ DeskIs w' D l ps))

set_option maxRecDepth 100000 in
set_option maxHeartbeats 8000000 in
theorem lit_class (l : List ClassR) (ps : List CAddr) (D g : Nat) (x y : Nm) (w : World) (hD : DeskIs w D l ps) (hG : WordsAt w g x y) (hF : FormsAt w) (hB : ClsOk l) (hx : x.length ≤ 1048576) (hy : y.length ≤ 1048576) (hll : l.length ≤ 1000) :
    Calls Tryz.prog 200 #[.pointer (some ⟨D, 0, none⟩), .slice (some ⟨g, 1, none⟩) 2 2] w (AddRes l ps D x y w) := by
  obtain ⟨hP, a, cap, hb, hrow⟩ := hD
  obtain ⟨hc, ha⟩ := row_classes hP hrow
  have HRW := Lib.hid hrow
  obtain ⟨g0, g1, g2⟩ := hG
  have hDl := hb.lt
  obtain ⟨hcap, hol⟩ := classes_len hc
  have HSC := Lib.hid (fun W' (hw : Below w.heap.size w W') => (show W'.cell? ⟨D, 0, none⟩ = some (.slice a l.length cap) ∧ W'.cell? ⟨g, 1, none⟩ = some (.string ⟨⟨x⟩⟩) ∧ W'.cell? ⟨g, 2, none⟩ = some (.string ⟨⟨y⟩⟩) from
    ⟨(hb.below hw).cell 0, (hw.cell (p := ⟨g, 1, none⟩) g0).trans g1, (hw.cell (p := ⟨g, 2, none⟩) g0).trans g2⟩))
  have HD := Lib.hid hb
  have HC := Lib.hid hc
  have HA := Lib.hid ha
  have HOL := Lib.hid hol
  have HP := Lib.hid hP
  have HF := Lib.hid hF
  have HBL := Lib.hid (cl2_ok hB hx hy)
  have HNC := Lib.hid (fun (W' : World) (j : Nat) (u : Value) (hj : ([Value.string ⟨⟨x⟩⟩, .string ⟨⟨y⟩⟩, .slice none 0 0, .bool false, .slice none 0 0, .slice none 0 0] : List Value)[j]? = some u) => show (W'.alloc (.cells #[.string ⟨⟨x⟩⟩, .string ⟨⟨y⟩⟩, .slice none 0 0, .bool false, .slice none 0 0, .slice none 0 0] 31)).cell? ((⟨W'.heap.size, 0, none⟩ : Addr).add j) = some u from new_cells W' [Value.string ⟨⟨x⟩⟩, .string ⟨⟨y⟩⟩, .slice none 0 0, .bool false, .slice none 0 0, .slice none 0 0] 31 j u hj)
  clear hb hc hF hB g1 g2 hol hP hrow
  have hsl : ∀ W, (Instr.slice 22 (.slice a l.length cap) none (some (.int .i64 l.length)) (some (.int .i64 l.length))).run Tryz.prog W = .ok (.slice a l.length l.length) W := by
    intro W
    rcases ha with ⟨rfl, rfl, rfl⟩ | ⟨ga, rfl⟩
    · exact slice_nil W
    · exact slice_full ga l.length cap hcap W
  have HNO := Lib.hid (show a = none → l.length = 0 ∧ l.length = 0 from fun e => by
    rcases ha with ⟨_, rfl, _⟩ | ⟨ga, h⟩
    · exact ⟨rfl, rfl⟩
    · rw [h] at e; cases e)
  have HHO := Lib.hid (fun W' (hw : Below w.heap.size w W') (b : Addr) (hb : a = some b) (j : Nat) (u : Value) (hj : ((List.zipWith classCells l ps).flatten)[j]? = some u) => show W'.cell? (b.add j) = some u from by
    rcases HA.out with ⟨h, _⟩ | ⟨ga, h⟩
    · rw [h] at hb; cases hb
    · have h1 := HC.out.below hw
      subst h
      cases hb
      exact classes_cells h1 j u hj)
  clear ha
  obtain ⟨olds, ho⟩ : ∃ olds, olds = (List.zipWith classCells l ps).flatten := ⟨_, rfl⟩
  have HOE := Lib.hid ho
  rw [← ho] at HOL HHO
  clear ho
  unfold AddRes
  go_enter Tryz.func200, Tryz.ntmps200
  go_upto_region 1 with fail
  go_region_held3 (fun W' => W'.cell? ⟨D, 0, none⟩ = some (.slice a l.length cap) ∧ W'.cell? ⟨g, 1, none⟩ = some (.string ⟨⟨x⟩⟩) ∧ W'.cell? ⟨g, 2, none⟩ = some (.string ⟨⟨y⟩⟩))
    (first | exact HSC.out _ (Below.refl _ _) | exact HSC.out _ (Below.refl _ _).drew | exact HSC.out _ (bl_alloc (Below.refl _ _) _) | exact HSC.out _ (bl_alloc (Below.refl _ _) _).drew | exact HSC.out _ (bl_alloc (Below.refl _ _).drew _) | exact hs5)
    ((first
    | (refine step_app_grows rowClass rfl (.tmp 21) (.tmp 29) rfl a l.length l.length olds rfl HNO.out HOL.out ?_ ⟨_, 0, none⟩ 1 1 [.string ⟨⟨x⟩⟩, .string ⟨⟨y⟩⟩, .slice none 0 0, .bool false, .slice none 0 0, .slice none 0 0] rfl rfl ?_ ?_ (by omega) (by omega) (by omega) ?_
       · first | exact HHO.out _ (bl_alloc (Below.refl _ _) _) | exact HHO.out _ (bl_alloc (Below.refl _ _) _).drew | exact HHO.out _ (bl_alloc (Below.refl _ _).drew _)
       · first | exact HNC.out _ | (intro j u hj; exact HNC.out _ j u hj)
       · intro u hu
         simp only [List.mem_cons, List.not_mem_nil, or_false] at hu
         rcases hu with rfl | rfl | rfl | rfl | rfl | rfl <;> rfl
       intro v5 w5 ho5 hg5
       obtain ⟨g5, c5, rfl, hc5⟩ := own_some ho5
       have hb5 : Below w.heap.size w w5 := by
         first
         | exact (bl_alloc (Below.refl _ _) _).drew.trans ⟨hg5.os, hg5.tape, hg5.output, hg5.size, fun k hk => hg5.block k (by simp; omega) (by simp)⟩
         | exact (bl_alloc (Below.refl _ _) _).trans ⟨hg5.os, hg5.tape, hg5.output, hg5.size, fun k hk => hg5.block k (by simp; omega) (by simp)⟩
       have hs5 := HSC.out _ hb5)))
  all_goals
    have HLN := Lib.hid (show (l ++ [cl2 x y]).length = l.length + 1 by simp)
    have HO5 := Lib.hid (show w5.ownsRow 0 31 6 (.slice (some ⟨g5, 0, none⟩) (l.length + 1) c5) (l.length + 1) ((List.zipWith classCells l ps).flatten ++ classCells (cl2 x y) nilP) from by
      rw [← HOE.out]
      exact own_down ho5 (Nat.zero_le _))
    have HC5 := Lib.hid (classes_own HC.out (HP.out.each w5) (zero_at w5 (cl2 x y) rfl rfl rfl) HO5.out)
    have HB5 := Lib.hid hb5
    have HD5 := Lib.hid (HD.out.below hb5)
    have HCK := Lib.hid (by have h := wcheck_calls (l ++ [cl2 x y]) (ps ++ [nilP]) (some ⟨g5, 0, none⟩) c5 w5 HC5.out (HF.out.below hb5) HBL.out; rw [HLN.out] at h; exact h)
    clear hs5 ho5 hg5 hb5
    go_wp2_with fail
    refine HCK.out.mono ?_
    rintro e w6 ⟨rfl, hb6⟩
    have HB6 := Lib.hid (bl_trans HB5.out hb6)
    have HD6 := Lib.hid (HD5.out.below hb6)
    have HO6 := Lib.hid (own_below HO5.out hb6)
    clear hb6 HCK
    by_cases hz : readErr (l ++ [cl2 x y]) = 0
    · have HZ := Lib.hid hz
      rw [hz, errOf_zero]
      have hne : (Value.slice (some ⟨g5, 0, none⟩) (l.length + 1) c5).ownBlock ≠ some D := own_nb HO6.out HD6.out (by decide)
      have HO7 := Lib.hid (own_set (j := 0) HO6.out hne (.slice (some ⟨g5, 0, none⟩) (l.length + 1) c5))
      have HD7 := Lib.hid (show Blk (w6.setCell ⟨D, 0, none⟩ (.slice (some ⟨g5, 0, none⟩) (l.length + 1) c5)) D 135 #[.slice (some ⟨g5, 0, none⟩) (l ++ [cl2 x y]).length c5, .slice none 0 0] from by rw [HLN.out]; exact blk_set HD6.out 0 _)
      have HG7 := Lib.hid (gb_set (gb_below (gb_refl w D) HB6.out) 0 (.slice (some ⟨g5, 0, none⟩) (l.length + 1) c5))
      have d0 := HD6.out.cell 0
      have d1 := HD6.out.frozen 0
      have d2 := HD6.out.lt
      clear hz hne
      go_wp2_with fail
      go_ret
      exact ⟨HG7.out, Or.inl ⟨HZ.out, rfl, HP.out.snoc x y, _, _, HD7.out, by rw [zip_more HP.out.len, HLN.out]; exact HO7.out⟩⟩
    · have HZ := Lib.hid hz
      have HDI := Lib.hid (show DeskIs w6 D l ps from DeskIs.below ⟨HP.out, _, _, HD.out, HRW.out⟩ HB6.out)
      have HG6 := Lib.hid (gb_below (gb_refl w D) HB6.out)
      rw [errOf_ne hz]
      obtain ⟨z, hze⟩ : ∃ z, z = readErr (l ++ [cl2 x y]) := ⟨_, rfl⟩
      rw [← hze]
      have HZE := Lib.hid hze
      clear hz hze
      go_wp2_with fail
      exact ⟨rfl, HG6.out, Or.inr ⟨HZ.out, by rw [← HZE.out]; rfl, HDI.out⟩⟩
end Go.Proofs.YtfimajijegohmaaGreatDoor
