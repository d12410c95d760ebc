/-
  The walk of array.
-/
import Derived.Test.YtanjggdmgeedlaaGreatDoorStp3
namespace Go.Proofs.YtanjggdmgeedlaaGreatDoor
set_option linter.unusedVariables false
set_option linter.unusedSimpArgs false
open Go.RowKit Go.Shelf Go.Lib Go.Sort

theorem arr_end {L : List ClassR} {t k : Nm} {f g h : FrR} (ht : kindErr L t = 0) (hf : takeF L [[73]] f = some g) (hr : refF g = some (k, h)) : arrF L t f = if ArrD L k t = true then some h else none := by
  unfold arrF
  rw [hf, if_neg (by simpa using ht)]
  simp only [Option.elim_some]
  rw [hr]
  simp only [Option.elim_some]
  rfl
/-- an array kind's element -/
theorem arr_elem {L : List ClassR} {r : Nm} (h : kindErr L (91 :: r) = 0) : kindErr L r = 0 := by
  obtain ⟨k, hk, e⟩ := kind_zero.1 h
  cases k with
  | nul => simp [Kd.text] at e
  | top => simp [Kd.text] at e
  | ty d b =>
    cases d with
    | zero =>
      obtain ⟨c, s, e2, h1, _, _⟩ := base_head b
      have : (Kd.ty 0 b).text = b.text := by simp [Kd.text]
      rw [this, e2] at e
      simp only [List.cons.injEq] at e
      exact absurd e.1.symm h1
    | succ d =>
      rw [arr_one] at e
      simp only [List.cons.injEq, true_and] at e
      exact kind_zero.2 ⟨.ty d b, ⟨by have := hk.1; omega, hk.2⟩, e⟩

def ArrRes (L : List ClassR) (r : Option FrR) (B c b : Nat) (fr gv : Nm) (w : World) (e : Ending) (w' : World) : Prop :=
  w.grownBy w' (some c) ∧ ((r = none ∧ e = .panicked unfitP) ∨ ∃ f, r = some f ∧ e = .returned (.tuple #[]) ∧ Stp L w' B c b fr gv f)

set_option maxRecDepth 100000 in
set_option maxHeartbeats 8000000 in
theorem array_calls_stp (l : List ClassR) (L : List CP) (b c : Nat) (fr gv : Nm) (f : FrR) (t : Nm) (w0 w : World) (hW : WOk w0 b l L) (hb : Below w0.heap.size w0 w) (hs : Stp (wl l) w w0.heap.size c b fr gv f) (ht : t.length ≤ 8388608) :
    Calls Tryz.prog 130 #[.pointer (some ⟨c, 0, none⟩), .string ⟨⟨t⟩⟩] w (TakeRes (wl l) (arrF (wl l) t f) w0.heap.size c b fr gv w) := by
  have HKN := Lib.hid (known_calls l L b c w0.heap.size fr gv f t w0 w hW rfl hb hs ht)
  by_cases hk : kindErr (wl l) t = 0
  · rw [if_pos hk] at HKN
    have HW := Lib.hid hW
    have HB := Lib.hid hb
    have HS := Lib.hid hs
    have HKT := Lib.hid hk
    have HCB := Lib.hid hs.cB
    have HKF := Lib.hid hs.kok
    clear hW hb hs hk ht
    go_enter Tryz.func130, Tryz.ntmps130
    go_wp2_with fail
    refine HKN.out.mono ?_
    rintro e w2 ⟨rfl, hb2⟩
    have HG2 := Lib.hid (gb_below (gb_refl w c) hb2)
    have HBW2 := Lib.hid (gb_to_below HB.out HG2.out HCB.out)
    have HS2 := Lib.hid (HS.out.below hb2)
    clear hb2
    go_wp2_with fail
    refine (take1 l L b c fr gv f [73] w0 w2 HW.out HBW2.out HS2.out (by decide)).mono ?_
    rintro e w3 ⟨hg3, ⟨hn, rfl⟩ | ⟨g, hn, rfl, hs3⟩⟩
    · have HG3 := Lib.hid (gb_trans HG2.out hg3)
      have HN := Lib.hid (arr_t (t := t) hn)
      clear hg3 hn
      go_wp2_with fail
      exact ⟨rfl, HG3.out, Or.inl ⟨HN.out, rfl⟩⟩
    · have HG3 := Lib.hid (gb_trans HG2.out hg3)
      have HN := Lib.hid hn
      have HS3 := Lib.hid hs3
      have HKG := Lib.hid (HKF.out.take hn).1
      clear hg3 hn hs3
      go_wp2_with fail
      refine (ref_calls (wl l) b c w0.heap.size fr gv g w3 HS3.out).mono ?_
      rintro e w4 ⟨hg4, ⟨hn4, rfl⟩ | ⟨k, h, hn4, rfl, hs4⟩⟩
      · have HG4 := Lib.hid (gb_trans HG3.out hg4)
        have HN4 := Lib.hid (arr_r (t := t) HN.out hn4)
        clear hg4 hn4
        go_wp2_with fail
        exact ⟨rfl, HG4.out, Or.inl ⟨HN4.out, rfl⟩⟩
      · have HG4 := Lib.hid (gb_trans HG3.out hg4)
        have HE := Lib.hid (arr_end HKT.out HN.out hn4)
        have HS4 := Lib.hid hs4
        have HB4 := Lib.hid (gb_to_below HB.out HG4.out HCB.out)
        obtain ⟨_, hkk, _, hkr⟩ := HKG.out.ref hn4
        have hc4 := hs4.lt
        have HSC := Lib.hid (fun W (hw : Below w4.heap.size w4 W) => (HS4.out.below hw).cell0)
        clear hg4 hn4 hs4
        by_cases hN : k = [78]
        · subst hN
          have HE2 := Lib.hid (show arrF (wl l) t f = some h by rw [HE.out]; rfl)
          clear hkk hkr
          go_upto_region 3 with fail
          refine wp_region_quiet_below (by kernel_rfl) (by kernel_rfl) ?_
          repeat (first | go_big_quiet_step (with_reducible exact Calls.regrown_of ((need_true _).mono fun e w' h => ⟨h.1, by rw [h.2]; exact Below.refl _ _⟩)) | quiet_step (with_reducible exact Calls.regrown_of ((need_true _).mono fun e w' h => ⟨h.1, by rw [h.2]; exact Below.refl _ _⟩)))
          refine wpQuiet_nil ?_
          intro _ hw'
          obtain ⟨⟨dq, osq⟩, hw''⟩ := hw'
          subst hw''
          have HB5 := Lib.hid (below_regrown w4 dq osq)
          go_wp2_with fail
          go_end0
          exact ⟨gb_below HG4.out HB5.out, Or.inr ⟨h, HE2.out, rfl, HS4.out.below HB5.out⟩⟩
        · have hkn : (k == [78]) = false := by rw [beq_eq_false_iff_ne]; exact hN
          obtain ⟨r, hkr2⟩ : ∃ r, k = 76 :: r ∨ k = 91 :: r := by
            cases k with
            | nil => simp [refsB] at hkr
            | cons x r =>
              rw [hkn] at hkr
              simp only [refsB, Bool.false_or, Bool.or_eq_true, beq_iff_eq] at hkr
              rcases hkr with rfl | rfl
              · exact ⟨r, Or.inl rfl⟩
              · exact ⟨r, Or.inr rfl⟩
          clear hkr
          rcases hkr2 with rfl | rfl
          · have HE2 := Lib.hid (show arrF (wl l) t f = none by
              rw [HE.out]
              have : ArrD (wl l) (76 :: r) t = false := by
                unfold ArrD
                rw [hkn]
                rfl
              rw [this]; rfl)
            clear hkk hN HE
            go_upto_region 3 with fail
            refine Code.wp_mono (Q := PanQ c w4) ?_ ?_
            · rintro e a' w' ⟨rfl, hd', hg'⟩
              go_wp2_with fail
              exact ⟨hd', gb_trans HG4.out hg', Or.inl ⟨HE2.out, rfl⟩⟩
            refine wp_region_held_drew (S := fun W' => W'.cell? ⟨c, 0, none⟩ = some (.map (some b))) (by kernel_rfl) ?_ (fun hHeld => ?_)
            · exact HSC.out _ (Below.refl _ _).drew
            refine wpAnyH_take (i := 0) (oi := { dst := some 13, op := Op.move (Operand.tmp 4), type := 9, pos := "frame.go:259", after := #[], guard := none }) (v := ?_) rfl (by kernel_rfl) (by kernel_rfl) (by kernel_rfl) (fun _ _ _ h => h) (Or.inl ⟨by rfl, ?_⟩) (by assumption) ?_
            rotate_left
            · (intro w hSw; (try dsimp only at hSw); go_simp; try with_reducible rfl)
            try simp only [Act.put, List.setIfInBounds_toArray, List.set_cons_zero, List.set_cons_succ]
            refine wpAnyH_take (i := 1) (oi := { dst := some 14, op := Op.binOp BinOp.eql 9 (Operand.tmp 13) (Operand.const (Value.string { data := #[78] })) 9, type := 4, pos := "frame.go:259", after := #[{ on := 0, ground := Ground.data }], guard := none }) (v := ?_) rfl (by kernel_rfl) (by kernel_rfl) (by kernel_rfl) (fun _ _ _ h => h) (Or.inl ⟨by rfl, ?_⟩) (by assumption) ?_
            rotate_left
            · (intro w hSw; (try dsimp only at hSw); go_simp; try with_reducible rfl)
            try simp only [Act.put, List.setIfInBounds_toArray, List.set_cons_zero, List.set_cons_succ]
            refine wpAnyH_take (i := 2) (oi := { dst := some 15, op := Op.move (Operand.tmp 14), type := 4, pos := "frame.go:259", after := #[{ on := 1, ground := Ground.data }], guard := none }) (v := ?_) rfl (by kernel_rfl) (by kernel_rfl) (by kernel_rfl) (fun _ _ _ h => h) (Or.inl ⟨by rfl, ?_⟩) (by assumption) ?_
            rotate_left
            · (intro w hSw; (try dsimp only at hSw); go_simp; try with_reducible rfl)
            try simp only [Act.put, List.setIfInBounds_toArray, List.set_cons_zero, List.set_cons_succ]
            refine wpAnyH_take (i := 3) (oi := { dst := some 16, op := Op.move (Operand.tmp 4), type := 9, pos := "frame.go:259", after := #[{ on := 2, ground := Ground.guard }], guard := some (2, false) }) (v := ?_) rfl (by kernel_rfl) (by kernel_rfl) (by kernel_rfl) (fun _ _ _ h => h) (Or.inl ⟨by rfl, ?_⟩) (by assumption) ?_
            rotate_left
            · (intro w hSw; (try dsimp only at hSw); go_simp; try with_reducible rfl)
            try simp only [Act.put, List.setIfInBounds_toArray, List.set_cons_zero, List.set_cons_succ]
            refine wpAnyH_take (i := 4) (oi := { dst := some 17, op := Op.index 9 (Operand.tmp 16) (Operand.const (Value.int IntKind.i64 0)), type := 5, pos := "frame.go:259", after := #[{ on := 3, ground := Ground.data }, { on := 2, ground := Ground.guard }], guard := some (2, false) }) (v := ?_) rfl (by kernel_rfl) (by kernel_rfl) (by kernel_rfl) (fun _ _ _ h => h) (Or.inl ⟨by rfl, ?_⟩) (by assumption) ?_
            rotate_left
            · (intro w hSw; (try dsimp only at hSw); go_simp; try with_reducible rfl)
            try simp only [Act.put, List.setIfInBounds_toArray, List.set_cons_zero, List.set_cons_succ]
            refine wpAnyH_take (i := 5) (oi := { dst := some 18, op := Op.binOp BinOp.eql 5 (Operand.tmp 17) (Operand.const (Value.int IntKind.u8 91)) 5, type := 4, pos := "frame.go:259", after := #[{ on := 4, ground := Ground.data }, { on := 2, ground := Ground.guard }], guard := some (2, false) }) (v := ?_) rfl (by kernel_rfl) (by kernel_rfl) (by kernel_rfl) (fun _ _ _ h => h) (Or.inl ⟨by rfl, ?_⟩) (by assumption) ?_
            rotate_left
            · (intro w hSw; (try dsimp only at hSw); go_simp; try with_reducible rfl)
            try simp only [Act.put, List.setIfInBounds_toArray, List.set_cons_zero, List.set_cons_succ]
            refine wpAnyH_take (i := 6) (oi := { dst := some 19, op := Op.move (Operand.tmp 18), type := 4, pos := "frame.go:259", after := #[{ on := 5, ground := Ground.data }, { on := 2, ground := Ground.chain }, { on := 2, ground := Ground.guard }], guard := some (2, false) }) (v := ?_) rfl (by kernel_rfl) (by kernel_rfl) (by kernel_rfl) (fun _ _ _ h => h) (Or.inl ⟨by rfl, ?_⟩) (by assumption) ?_
            rotate_left
            · (intro w hSw; (try dsimp only at hSw); go_simp; try with_reducible rfl)
            try simp only [Act.put, List.setIfInBounds_toArray, List.set_cons_zero, List.set_cons_succ]
            refine wpAnyH_take (i := 7) (oi := { dst := some 20, op := Op.move (Operand.tmp 0), type := 139, pos := "frame.go:259", after := #[{ on := 6, ground := Ground.guard }], guard := some (6, true) }) (v := undef) rfl (by kernel_rfl) (by kernel_rfl) (by kernel_rfl) (fun _ _ _ h => h) (Or.inr ⟨by rfl, rfl⟩) (by assumption) ?_
            try simp only [Act.put, List.setIfInBounds_toArray, List.set_cons_zero, List.set_cons_succ]
            refine wpAnyH_take (i := 8) (oi := { dst := some 21, op := Op.nilCheck (Operand.tmp 20), type := 0, pos := "frame.go:259", after := #[{ on := 7, ground := Ground.data }, { on := 6, ground := Ground.guard }], guard := some (6, true) }) (v := undef) rfl (by kernel_rfl) (by kernel_rfl) (by kernel_rfl) (fun _ _ _ h => h) (Or.inr ⟨by rfl, rfl⟩) (by assumption) ?_
            try simp only [Act.put, List.setIfInBounds_toArray, List.set_cons_zero, List.set_cons_succ]
            refine wpAnyH_take (i := 9) (oi := { dst := some 22, op := Op.fieldAddr 142 (Operand.tmp 21) 0, type := 0, pos := "frame.go:259", after := #[{ on := 8, ground := Ground.data }, { on := 6, ground := Ground.guard }], guard := some (6, true) }) (v := undef) rfl (by kernel_rfl) (by kernel_rfl) (by kernel_rfl) (fun _ _ _ h => h) (Or.inr ⟨by rfl, rfl⟩) (by assumption) ?_
            try simp only [Act.put, List.setIfInBounds_toArray, List.set_cons_zero, List.set_cons_succ]
            refine wpAnyH_take (i := 10) (oi := { dst := some 23, op := Op.load 81 (Operand.tmp 22), type := 81, pos := "frame.go:259", after := #[{ on := 9, ground := Ground.data }, { on := 6, ground := Ground.guard }], guard := some (6, true) }) (v := undef) rfl (by kernel_rfl) (by kernel_rfl) (by kernel_rfl) (fun _ _ _ h => h) (Or.inr ⟨by rfl, rfl⟩) (by assumption) ?_
            try simp only [Act.put, List.setIfInBounds_toArray, List.set_cons_zero, List.set_cons_succ]
            refine wpAnyH_take (i := 11) (oi := { dst := some 24, op := Op.move (Operand.tmp 4), type := 9, pos := "frame.go:259", after := #[{ on := 6, ground := Ground.guard }], guard := some (6, true) }) (v := undef) rfl (by kernel_rfl) (by kernel_rfl) (by kernel_rfl) (fun _ _ _ h => h) (Or.inr ⟨by rfl, rfl⟩) (by assumption) ?_
            try simp only [Act.put, List.setIfInBounds_toArray, List.set_cons_zero, List.set_cons_succ]
            refine wpAnyH_take (i := 12) (oi := { dst := some 25, op := Op.slice 9 (Operand.tmp 24) (some (Operand.const (Value.int IntKind.i64 1))) none none, type := 9, pos := "frame.go:259", after := #[{ on := 11, ground := Ground.data }, { on := 6, ground := Ground.guard }], guard := some (6, true) }) (v := undef) rfl (by kernel_rfl) (by kernel_rfl) (by kernel_rfl) (fun _ _ _ h => h) (Or.inr ⟨by rfl, rfl⟩) (by assumption) ?_
            try simp only [Act.put, List.setIfInBounds_toArray, List.set_cons_zero, List.set_cons_succ]
            refine wpAnyH_take (i := 13) (oi := { dst := some 26, op := Op.move (Operand.tmp 1), type := 9, pos := "frame.go:259", after := #[{ on := 6, ground := Ground.guard }], guard := some (6, true) }) (v := undef) rfl (by kernel_rfl) (by kernel_rfl) (by kernel_rfl) (fun _ _ _ h => h) (Or.inr ⟨by rfl, rfl⟩) (by assumption) ?_
            try simp only [Act.put, List.setIfInBounds_toArray, List.set_cons_zero, List.set_cons_succ]
            refine wpAnyH_take (i := 14) (oi := { dst := some 27, op := Op.call { callee := Callee.value (Operand.func 62), args := #[Operand.tmp 23, Operand.tmp 25, Operand.tmp 26], argTypes := #[81, 9, 9] }, type := 4, pos := "frame.go:259", after := #[{ on := 10, ground := Ground.data }, { on := 12, ground := Ground.data }, { on := 13, ground := Ground.data }, { on := 6, ground := Ground.chain }, { on := 6, ground := Ground.guard }], guard := some (6, true) }) (v := undef) rfl (by kernel_rfl) (by kernel_rfl) (by kernel_rfl) (fun _ _ _ h => h) (Or.inr ⟨by rfl, rfl⟩) (by assumption) ?_
            try simp only [Act.put, List.setIfInBounds_toArray, List.set_cons_zero, List.set_cons_succ]
            refine wpAnyH_take (i := 15) (oi := { dst := some 28, op := Op.pick (Operand.tmp 19) (Operand.tmp 27) (Operand.const (Value.bool false)), type := 4, pos := "frame.go:259", after := #[{ on := 6, ground := Ground.data }, { on := 14, ground := Ground.data }, { on := 2, ground := Ground.guard }], guard := some (2, false) }) (v := ?_) rfl (by kernel_rfl) (by kernel_rfl) (by kernel_rfl) (fun _ _ _ h => h) (Or.inl ⟨by rfl, ?_⟩) (by assumption) ?_
            rotate_left
            · (intro w hSw; (try dsimp only at hSw); go_simp; try with_reducible rfl)
            try simp only [Act.put, List.setIfInBounds_toArray, List.set_cons_zero, List.set_cons_succ]
            refine wpAnyH_take (i := 16) (oi := { dst := some 29, op := Op.move (Operand.tmp 28), type := 4, pos := "frame.go:259", after := #[{ on := 15, ground := Ground.data }, { on := 14, ground := Ground.chain }, { on := 2, ground := Ground.guard }], guard := some (2, false) }) (v := ?_) rfl (by kernel_rfl) (by kernel_rfl) (by kernel_rfl) (fun _ _ _ h => h) (Or.inl ⟨by rfl, ?_⟩) (by assumption) ?_
            rotate_left
            · (intro w hSw; (try dsimp only at hSw); go_simp; try with_reducible rfl)
            try simp only [Act.put, List.setIfInBounds_toArray, List.set_cons_zero, List.set_cons_succ]
            refine wpAnyH_take (i := 17) (oi := { dst := some 30, op := Op.move (Operand.tmp 4), type := 9, pos := "frame.go:259", after := #[{ on := 16, ground := Ground.guard }], guard := some (16, true) }) (v := undef) rfl (by kernel_rfl) (by kernel_rfl) (by kernel_rfl) (fun _ _ _ h => h) (Or.inr ⟨by rfl, rfl⟩) (by assumption) ?_
            try simp only [Act.put, List.setIfInBounds_toArray, List.set_cons_zero, List.set_cons_succ]
            refine wpAnyH_take (i := 18) (oi := { dst := some 31, op := Op.slice 9 (Operand.tmp 30) (some (Operand.const (Value.int IntKind.i64 1))) none none, type := 9, pos := "frame.go:259", after := #[{ on := 17, ground := Ground.data }, { on := 16, ground := Ground.guard }], guard := some (16, true) }) (v := undef) rfl (by kernel_rfl) (by kernel_rfl) (by kernel_rfl) (fun _ _ _ h => h) (Or.inr ⟨by rfl, rfl⟩) (by assumption) ?_
            try simp only [Act.put, List.setIfInBounds_toArray, List.set_cons_zero, List.set_cons_succ]
            refine wpAnyH_take (i := 19) (oi := { dst := some 32, op := Op.call { callee := Callee.value (Operand.func 61), args := #[Operand.tmp 31], argTypes := #[9] }, type := 4, pos := "frame.go:259", after := #[{ on := 18, ground := Ground.data }, { on := 16, ground := Ground.chain }, { on := 16, ground := Ground.guard }], guard := some (16, true) }) (v := undef) rfl (by kernel_rfl) (by kernel_rfl) (by kernel_rfl) (fun _ _ _ h => h) (Or.inr ⟨by rfl, rfl⟩) (by assumption) ?_
            try simp only [Act.put, List.setIfInBounds_toArray, List.set_cons_zero, List.set_cons_succ]
            refine wpAnyH_take (i := 20) (oi := { dst := some 33, op := Op.move (Operand.tmp 1), type := 9, pos := "frame.go:259", after := #[{ on := 16, ground := Ground.guard }], guard := some (16, true) }) (v := undef) rfl (by kernel_rfl) (by kernel_rfl) (by kernel_rfl) (fun _ _ _ h => h) (Or.inr ⟨by rfl, rfl⟩) (by assumption) ?_
            try simp only [Act.put, List.setIfInBounds_toArray, List.set_cons_zero, List.set_cons_succ]
            refine wpAnyH_take (i := 21) (oi := { dst := some 34, op := Op.call { callee := Callee.value (Operand.func 61), args := #[Operand.tmp 33], argTypes := #[9] }, type := 4, pos := "frame.go:259", after := #[{ on := 20, ground := Ground.data }, { on := 19, ground := Ground.chain }, { on := 16, ground := Ground.guard }], guard := some (16, true) }) (v := undef) rfl (by kernel_rfl) (by kernel_rfl) (by kernel_rfl) (fun _ _ _ h => h) (Or.inr ⟨by rfl, rfl⟩) (by assumption) ?_
            try simp only [Act.put, List.setIfInBounds_toArray, List.set_cons_zero, List.set_cons_succ]
            refine wpAnyH_take (i := 22) (oi := { dst := some 35, op := Op.binOp BinOp.eql 4 (Operand.tmp 32) (Operand.tmp 34) 4, type := 4, pos := "frame.go:259", after := #[{ on := 19, ground := Ground.data }, { on := 21, ground := Ground.data }, { on := 16, ground := Ground.guard }], guard := some (16, true) }) (v := undef) rfl (by kernel_rfl) (by kernel_rfl) (by kernel_rfl) (fun _ _ _ h => h) (Or.inr ⟨by rfl, rfl⟩) (by assumption) ?_
            try simp only [Act.put, List.setIfInBounds_toArray, List.set_cons_zero, List.set_cons_succ]
            refine wpAnyH_take (i := 23) (oi := { dst := some 36, op := Op.pick (Operand.tmp 29) (Operand.tmp 35) (Operand.const (Value.bool false)), type := 4, pos := "frame.go:259", after := #[{ on := 16, ground := Ground.data }, { on := 22, ground := Ground.data }, { on := 2, ground := Ground.guard }], guard := some (2, false) }) (v := ?_) rfl (by kernel_rfl) (by kernel_rfl) (by kernel_rfl) (fun _ _ _ h => h) (Or.inl ⟨by rfl, ?_⟩) (by assumption) ?_
            rotate_left
            · (intro w hSw; (try dsimp only at hSw); go_simp; try with_reducible rfl)
            try simp only [Act.put, List.setIfInBounds_toArray, List.set_cons_zero, List.set_cons_succ]
            refine wpAnyH_take (i := 24) (oi := { dst := some 37, op := Op.pick (Operand.tmp 15) (Operand.const (Value.bool true)) (Operand.tmp 36), type := 4, pos := "frame.go:259", after := #[{ on := 2, ground := Ground.data }, { on := 23, ground := Ground.data }], guard := none }) (v := ?_) rfl (by kernel_rfl) (by kernel_rfl) (by kernel_rfl) (fun _ _ _ h => h) (Or.inl ⟨by rfl, ?_⟩) (by assumption) ?_
            rotate_left
            · (intro w hSw; (try dsimp only at hSw); go_simp; try with_reducible rfl)
            try simp only [Act.put, List.setIfInBounds_toArray, List.set_cons_zero, List.set_cons_succ]
            refine wpAnyH_ready (rs := [25]) (by kernel_rfl) (by simp) ?_
            refine AllReadyH.cons (o := { dst := some 38, op := Op.call { callee := Callee.value (Operand.func 123), args := #[Operand.tmp 37], argTypes := #[4] }, type := 0, pos := "frame.go:259", after := #[{ on := 24, ground := Ground.data }, { on := 21, ground := Ground.chain }], guard := none }) rfl (fun K hK => ?_) AllReadyH.nil
            go_simp
            go_wp2_with ((go_at_call 123; refine (need_false _).mono ?_; rintro e w5 ⟨rfl, rfl⟩))
            exact ⟨rfl, rfl, gb_drew (gb_refl w4 c)⟩
          · have hkr := arr_elem hkk
            have HDD := Lib.hid (fun W (hw : Below w4.heap.size w4 W) => does_X l L b hkr HKT.out W (HW.out.below (gb_to_below HB.out (gb_below HG4.out hw) HCB.out)))
            have HRR := Lib.hid (fun w => refs_calls r w)
            have HRT := Lib.hid (fun w => refs_calls t w)
            have HA := Lib.hid (show ArrD (wl l) (91 :: r) t = (doesX (wl l) r t && (refsB r == refsB t)) by
              unfold ArrD
              rw [hkn]
              rfl)
            generalize doesX (wl l) r t = D at *
            generalize refsB r = E1 at *
            generalize refsB t = E2 at *
            clear hkk hN hkr
            cases D with
            | false =>
              have HE2 := Lib.hid (show arrF (wl l) t f = none by rw [HE.out, HA.out]; rfl)
              have HD := Lib.hid HDD.out
              clear HDD
              go_upto_region 3 with fail
              refine Code.wp_mono (Q := PanQ c w4) ?_ ?_
              · rintro e a' w' ⟨rfl, hd', hg'⟩
                go_wp2_with fail
                exact ⟨hd', gb_trans HG4.out hg', Or.inl ⟨HE2.out, rfl⟩⟩
              refine wp_region_held_drew (S := fun W' => W'.cell? ⟨c, 0, none⟩ = some (.map (some b))) (by kernel_rfl) ?_ (fun hHeld => ?_)
              · exact HSC.out _ (Below.refl _ _).drew
              refine wpAnyH_take (i := 0) (oi := { dst := some 13, op := Op.move (Operand.tmp 4), type := 9, pos := "frame.go:259", after := #[], guard := none }) (v := ?_) rfl (by kernel_rfl) (by kernel_rfl) (by kernel_rfl) (fun _ _ _ h => h) (Or.inl ⟨by rfl, ?_⟩) (by assumption) ?_
              rotate_left
              · (intro w hSw; (try dsimp only at hSw); go_simp; try with_reducible rfl)
              try simp only [Act.put, List.setIfInBounds_toArray, List.set_cons_zero, List.set_cons_succ]
              refine wpAnyH_take (i := 1) (oi := { dst := some 14, op := Op.binOp BinOp.eql 9 (Operand.tmp 13) (Operand.const (Value.string { data := #[78] })) 9, type := 4, pos := "frame.go:259", after := #[{ on := 0, ground := Ground.data }], guard := none }) (v := ?_) rfl (by kernel_rfl) (by kernel_rfl) (by kernel_rfl) (fun _ _ _ h => h) (Or.inl ⟨by rfl, ?_⟩) (by assumption) ?_
              rotate_left
              · (intro w hSw; (try dsimp only at hSw); go_simp; try with_reducible rfl)
              try simp only [Act.put, List.setIfInBounds_toArray, List.set_cons_zero, List.set_cons_succ]
              refine wpAnyH_take (i := 2) (oi := { dst := some 15, op := Op.move (Operand.tmp 14), type := 4, pos := "frame.go:259", after := #[{ on := 1, ground := Ground.data }], guard := none }) (v := ?_) rfl (by kernel_rfl) (by kernel_rfl) (by kernel_rfl) (fun _ _ _ h => h) (Or.inl ⟨by rfl, ?_⟩) (by assumption) ?_
              rotate_left
              · (intro w hSw; (try dsimp only at hSw); go_simp; try with_reducible rfl)
              try simp only [Act.put, List.setIfInBounds_toArray, List.set_cons_zero, List.set_cons_succ]
              refine wpAnyH_take (i := 3) (oi := { dst := some 16, op := Op.move (Operand.tmp 4), type := 9, pos := "frame.go:259", after := #[{ on := 2, ground := Ground.guard }], guard := some (2, false) }) (v := ?_) rfl (by kernel_rfl) (by kernel_rfl) (by kernel_rfl) (fun _ _ _ h => h) (Or.inl ⟨by rfl, ?_⟩) (by assumption) ?_
              rotate_left
              · (intro w hSw; (try dsimp only at hSw); go_simp; try with_reducible rfl)
              try simp only [Act.put, List.setIfInBounds_toArray, List.set_cons_zero, List.set_cons_succ]
              refine wpAnyH_take (i := 4) (oi := { dst := some 17, op := Op.index 9 (Operand.tmp 16) (Operand.const (Value.int IntKind.i64 0)), type := 5, pos := "frame.go:259", after := #[{ on := 3, ground := Ground.data }, { on := 2, ground := Ground.guard }], guard := some (2, false) }) (v := ?_) rfl (by kernel_rfl) (by kernel_rfl) (by kernel_rfl) (fun _ _ _ h => h) (Or.inl ⟨by rfl, ?_⟩) (by assumption) ?_
              rotate_left
              · (intro w hSw; (try dsimp only at hSw); go_simp; try with_reducible rfl)
              try simp only [Act.put, List.setIfInBounds_toArray, List.set_cons_zero, List.set_cons_succ]
              refine wpAnyH_take (i := 5) (oi := { dst := some 18, op := Op.binOp BinOp.eql 5 (Operand.tmp 17) (Operand.const (Value.int IntKind.u8 91)) 5, type := 4, pos := "frame.go:259", after := #[{ on := 4, ground := Ground.data }, { on := 2, ground := Ground.guard }], guard := some (2, false) }) (v := ?_) rfl (by kernel_rfl) (by kernel_rfl) (by kernel_rfl) (fun _ _ _ h => h) (Or.inl ⟨by rfl, ?_⟩) (by assumption) ?_
              rotate_left
              · (intro w hSw; (try dsimp only at hSw); go_simp; try with_reducible rfl)
              try simp only [Act.put, List.setIfInBounds_toArray, List.set_cons_zero, List.set_cons_succ]
              refine wpAnyH_take (i := 6) (oi := { dst := some 19, op := Op.move (Operand.tmp 18), type := 4, pos := "frame.go:259", after := #[{ on := 5, ground := Ground.data }, { on := 2, ground := Ground.chain }, { on := 2, ground := Ground.guard }], guard := some (2, false) }) (v := ?_) rfl (by kernel_rfl) (by kernel_rfl) (by kernel_rfl) (fun _ _ _ h => h) (Or.inl ⟨by rfl, ?_⟩) (by assumption) ?_
              rotate_left
              · (intro w hSw; (try dsimp only at hSw); go_simp; try with_reducible rfl)
              try simp only [Act.put, List.setIfInBounds_toArray, List.set_cons_zero, List.set_cons_succ]
              refine wpAnyH_take (i := 7) (oi := { dst := some 20, op := Op.move (Operand.tmp 0), type := 139, pos := "frame.go:259", after := #[{ on := 6, ground := Ground.guard }], guard := some (6, true) }) (v := ?_) rfl (by kernel_rfl) (by kernel_rfl) (by kernel_rfl) (fun _ _ _ h => h) (Or.inl ⟨by rfl, ?_⟩) (by assumption) ?_
              rotate_left
              · (intro w hSw; (try dsimp only at hSw); go_simp; try with_reducible rfl)
              try simp only [Act.put, List.setIfInBounds_toArray, List.set_cons_zero, List.set_cons_succ]
              refine wpAnyH_take (i := 8) (oi := { dst := some 21, op := Op.nilCheck (Operand.tmp 20), type := 0, pos := "frame.go:259", after := #[{ on := 7, ground := Ground.data }, { on := 6, ground := Ground.guard }], guard := some (6, true) }) (v := ?_) rfl (by kernel_rfl) (by kernel_rfl) (by kernel_rfl) (fun _ _ _ h => h) (Or.inl ⟨by rfl, ?_⟩) (by assumption) ?_
              rotate_left
              · (intro w hSw; (try dsimp only at hSw); go_simp; try with_reducible rfl)
              try simp only [Act.put, List.setIfInBounds_toArray, List.set_cons_zero, List.set_cons_succ]
              refine wpAnyH_take (i := 9) (oi := { dst := some 22, op := Op.fieldAddr 142 (Operand.tmp 21) 0, type := 0, pos := "frame.go:259", after := #[{ on := 8, ground := Ground.data }, { on := 6, ground := Ground.guard }], guard := some (6, true) }) (v := ?_) rfl (by kernel_rfl) (by kernel_rfl) (by kernel_rfl) (fun _ _ _ h => h) (Or.inl ⟨by rfl, ?_⟩) (by assumption) ?_
              rotate_left
              · (intro w hSw; (try dsimp only at hSw); go_simp; try with_reducible rfl)
              try simp only [Act.put, List.setIfInBounds_toArray, List.set_cons_zero, List.set_cons_succ]
              refine wpAnyH_take (i := 10) (oi := { dst := some 23, op := Op.load 81 (Operand.tmp 22), type := 81, pos := "frame.go:259", after := #[{ on := 9, ground := Ground.data }, { on := 6, ground := Ground.guard }], guard := some (6, true) }) (v := ?_) rfl (by kernel_rfl) (by kernel_rfl) (by kernel_rfl) (fun _ _ _ h => h) (Or.inl ⟨by rfl, ?_⟩) (by assumption) ?_
              rotate_left
              · (intro w hSw; (try dsimp only at hSw); go_simp; try with_reducible rfl)
              try simp only [Act.put, List.setIfInBounds_toArray, List.set_cons_zero, List.set_cons_succ]
              refine wpAnyH_take (i := 11) (oi := { dst := some 24, op := Op.move (Operand.tmp 4), type := 9, pos := "frame.go:259", after := #[{ on := 6, ground := Ground.guard }], guard := some (6, true) }) (v := ?_) rfl (by kernel_rfl) (by kernel_rfl) (by kernel_rfl) (fun _ _ _ h => h) (Or.inl ⟨by rfl, ?_⟩) (by assumption) ?_
              rotate_left
              · (intro w hSw; (try dsimp only at hSw); go_simp; try with_reducible rfl)
              try simp only [Act.put, List.setIfInBounds_toArray, List.set_cons_zero, List.set_cons_succ]
              refine wpAnyH_take (i := 13) (oi := { dst := some 26, op := Op.move (Operand.tmp 1), type := 9, pos := "frame.go:259", after := #[{ on := 6, ground := Ground.guard }], guard := some (6, true) }) (v := ?_) rfl (by kernel_rfl) (by kernel_rfl) (by kernel_rfl) (fun _ _ _ h => h) (Or.inl ⟨by rfl, ?_⟩) (by assumption) ?_
              rotate_left
              · (intro w hSw; (try dsimp only at hSw); go_simp; try with_reducible rfl)
              try simp only [Act.put, List.setIfInBounds_toArray, List.set_cons_zero, List.set_cons_succ]
              refine wpAnyH_ready (rs := [12]) (by kernel_rfl) (by simp) ?_
              refine AllReadyH.cons (o := { dst := some 25, op := Op.slice 9 (Operand.tmp 24) (some (Operand.const (Value.int IntKind.i64 1))) none none, type := 9, pos := "frame.go:259", after := #[{ on := 11, ground := Ground.data }, { on := 6, ground := Ground.guard }], guard := some (6, true) }) rfl (fun K hK => ?_) AllReadyH.nil
              go_simp
              try go_wp2_with fail
              refine hK.out _ _ ?_ (fun hHeld => ?_)
              · exact HSC.out _ (Below.refl _ _).drew
              clear hK K
              try simp only [Act.put, List.setIfInBounds_toArray, List.set_cons_zero, List.set_cons_succ]
              refine wpAnyH_ready (rs := [14]) (by kernel_rfl) (by simp) ?_
              refine AllReadyH.cons (o := { dst := some 27, op := Op.call { callee := Callee.value (Operand.func 62), args := #[Operand.tmp 23, Operand.tmp 25, Operand.tmp 26], argTypes := #[81, 9, 9] }, type := 4, pos := "frame.go:259", after := #[{ on := 10, ground := Ground.data }, { on := 12, ground := Ground.data }, { on := 13, ground := Ground.data }, { on := 6, ground := Ground.chain }, { on := 6, ground := Ground.guard }], guard := some (6, true) }) rfl (fun K hK => ?_) AllReadyH.nil
              go_simp
              go_wp2_with ((go_at_call 62; refine (HD.out _ (Below.refl _ _).drew).mono ?_; rintro e w6 ⟨rfl, hb6⟩))
              refine hK.out _ _ ?_ (fun hHeld => ?_)
              · exact HSC.out _ (bl_trans (Below.refl _ _).drew hb6)
              clear hK K
              try simp only [Act.put, List.setIfInBounds_toArray, List.set_cons_zero, List.set_cons_succ]
              refine wpAnyH_take (i := 15) (oi := { dst := some 28, op := Op.pick (Operand.tmp 19) (Operand.tmp 27) (Operand.const (Value.bool false)), type := 4, pos := "frame.go:259", after := #[{ on := 6, ground := Ground.data }, { on := 14, ground := Ground.data }, { on := 2, ground := Ground.guard }], guard := some (2, false) }) (v := ?_) rfl (by kernel_rfl) (by kernel_rfl) (by kernel_rfl) (fun _ _ _ h => h) (Or.inl ⟨by rfl, ?_⟩) (by assumption) ?_
              rotate_left
              · (intro w hSw; (try dsimp only at hSw); go_simp; try with_reducible rfl)
              try simp only [Act.put, List.setIfInBounds_toArray, List.set_cons_zero, List.set_cons_succ]
              refine wpAnyH_take (i := 16) (oi := { dst := some 29, op := Op.move (Operand.tmp 28), type := 4, pos := "frame.go:259", after := #[{ on := 15, ground := Ground.data }, { on := 14, ground := Ground.chain }, { on := 2, ground := Ground.guard }], guard := some (2, false) }) (v := ?_) rfl (by kernel_rfl) (by kernel_rfl) (by kernel_rfl) (fun _ _ _ h => h) (Or.inl ⟨by rfl, ?_⟩) (by assumption) ?_
              rotate_left
              · (intro w hSw; (try dsimp only at hSw); go_simp; try with_reducible rfl)
              try simp only [Act.put, List.setIfInBounds_toArray, List.set_cons_zero, List.set_cons_succ]
              refine wpAnyH_take (i := 17) (oi := { dst := some 30, op := Op.move (Operand.tmp 4), type := 9, pos := "frame.go:259", after := #[{ on := 16, ground := Ground.guard }], guard := some (16, true) }) (v := undef) rfl (by kernel_rfl) (by kernel_rfl) (by kernel_rfl) (fun _ _ _ h => h) (Or.inr ⟨by rfl, rfl⟩) (by assumption) ?_
              try simp only [Act.put, List.setIfInBounds_toArray, List.set_cons_zero, List.set_cons_succ]
              refine wpAnyH_take (i := 18) (oi := { dst := some 31, op := Op.slice 9 (Operand.tmp 30) (some (Operand.const (Value.int IntKind.i64 1))) none none, type := 9, pos := "frame.go:259", after := #[{ on := 17, ground := Ground.data }, { on := 16, ground := Ground.guard }], guard := some (16, true) }) (v := undef) rfl (by kernel_rfl) (by kernel_rfl) (by kernel_rfl) (fun _ _ _ h => h) (Or.inr ⟨by rfl, rfl⟩) (by assumption) ?_
              try simp only [Act.put, List.setIfInBounds_toArray, List.set_cons_zero, List.set_cons_succ]
              refine wpAnyH_take (i := 19) (oi := { dst := some 32, op := Op.call { callee := Callee.value (Operand.func 61), args := #[Operand.tmp 31], argTypes := #[9] }, type := 4, pos := "frame.go:259", after := #[{ on := 18, ground := Ground.data }, { on := 16, ground := Ground.chain }, { on := 16, ground := Ground.guard }], guard := some (16, true) }) (v := undef) rfl (by kernel_rfl) (by kernel_rfl) (by kernel_rfl) (fun _ _ _ h => h) (Or.inr ⟨by rfl, rfl⟩) (by assumption) ?_
              try simp only [Act.put, List.setIfInBounds_toArray, List.set_cons_zero, List.set_cons_succ]
              refine wpAnyH_take (i := 20) (oi := { dst := some 33, op := Op.move (Operand.tmp 1), type := 9, pos := "frame.go:259", after := #[{ on := 16, ground := Ground.guard }], guard := some (16, true) }) (v := undef) rfl (by kernel_rfl) (by kernel_rfl) (by kernel_rfl) (fun _ _ _ h => h) (Or.inr ⟨by rfl, rfl⟩) (by assumption) ?_
              try simp only [Act.put, List.setIfInBounds_toArray, List.set_cons_zero, List.set_cons_succ]
              refine wpAnyH_take (i := 21) (oi := { dst := some 34, op := Op.call { callee := Callee.value (Operand.func 61), args := #[Operand.tmp 33], argTypes := #[9] }, type := 4, pos := "frame.go:259", after := #[{ on := 20, ground := Ground.data }, { on := 19, ground := Ground.chain }, { on := 16, ground := Ground.guard }], guard := some (16, true) }) (v := undef) rfl (by kernel_rfl) (by kernel_rfl) (by kernel_rfl) (fun _ _ _ h => h) (Or.inr ⟨by rfl, rfl⟩) (by assumption) ?_
              try simp only [Act.put, List.setIfInBounds_toArray, List.set_cons_zero, List.set_cons_succ]
              refine wpAnyH_take (i := 22) (oi := { dst := some 35, op := Op.binOp BinOp.eql 4 (Operand.tmp 32) (Operand.tmp 34) 4, type := 4, pos := "frame.go:259", after := #[{ on := 19, ground := Ground.data }, { on := 21, ground := Ground.data }, { on := 16, ground := Ground.guard }], guard := some (16, true) }) (v := undef) rfl (by kernel_rfl) (by kernel_rfl) (by kernel_rfl) (fun _ _ _ h => h) (Or.inr ⟨by rfl, rfl⟩) (by assumption) ?_
              try simp only [Act.put, List.setIfInBounds_toArray, List.set_cons_zero, List.set_cons_succ]
              refine wpAnyH_take (i := 23) (oi := { dst := some 36, op := Op.pick (Operand.tmp 29) (Operand.tmp 35) (Operand.const (Value.bool false)), type := 4, pos := "frame.go:259", after := #[{ on := 16, ground := Ground.data }, { on := 22, ground := Ground.data }, { on := 2, ground := Ground.guard }], guard := some (2, false) }) (v := ?_) rfl (by kernel_rfl) (by kernel_rfl) (by kernel_rfl) (fun _ _ _ h => h) (Or.inl ⟨by rfl, ?_⟩) (by assumption) ?_
              rotate_left
              · (intro w hSw; (try dsimp only at hSw); go_simp; try with_reducible rfl)
              try simp only [Act.put, List.setIfInBounds_toArray, List.set_cons_zero, List.set_cons_succ]
              refine wpAnyH_take (i := 24) (oi := { dst := some 37, op := Op.pick (Operand.tmp 15) (Operand.const (Value.bool true)) (Operand.tmp 36), type := 4, pos := "frame.go:259", after := #[{ on := 2, ground := Ground.data }, { on := 23, ground := Ground.data }], guard := none }) (v := ?_) rfl (by kernel_rfl) (by kernel_rfl) (by kernel_rfl) (fun _ _ _ h => h) (Or.inl ⟨by rfl, ?_⟩) (by assumption) ?_
              rotate_left
              · (intro w hSw; (try dsimp only at hSw); go_simp; try with_reducible rfl)
              try simp only [Act.put, List.setIfInBounds_toArray, List.set_cons_zero, List.set_cons_succ]
              refine wpAnyH_ready (rs := [25]) (by kernel_rfl) (by simp) ?_
              refine AllReadyH.cons (o := { dst := some 38, op := Op.call { callee := Callee.value (Operand.func 123), args := #[Operand.tmp 37], argTypes := #[4] }, type := 0, pos := "frame.go:259", after := #[{ on := 24, ground := Ground.data }, { on := 21, ground := Ground.chain }], guard := none }) rfl (fun K hK => ?_) AllReadyH.nil
              go_simp
              go_wp2_with ((go_at_call 123; refine (need_false _).mono ?_; rintro e w5 ⟨rfl, rfl⟩))
              exact ⟨rfl, rfl, gb_below (gb_drew (gb_refl w4 c)) hb6⟩
            | true =>
              have HD := Lib.hid HDD.out
              have HR1 := Lib.hid HRR.out
              have HR2 := Lib.hid HRT.out
              clear HDD HRR HRT
              by_cases hee : E1 = E2
              · have HE2 := Lib.hid (show arrF (wl l) t f = some h by rw [HE.out, HA.out, hee]; simp)
                subst hee
                have HG := Lib.hid (fun (d : Nat) (os : Array Obj) => below_regrown w4 d os)
                have g0 := fun (d : Nat) (os : Array Obj) => HSC.out _ (HG.out d os)
                clear HE
                go_upto_region 3 with fail
                refine wp_region_quiet_below (by kernel_rfl) (by kernel_rfl) ?_
                repeat (first | go_big_quiet_step (first | with_reducible exact Calls.regrown_of (HD.out _ (HG.out _ _)) | with_reducible exact Calls.regrown_of ((HR1.out _).mono fun e w' h => ⟨h.1, by rw [← h.2]; exact Below.refl _ _⟩) | with_reducible exact Calls.regrown_of ((HR2.out _).mono fun e w' h => ⟨h.1, by rw [← h.2]; exact Below.refl _ _⟩) | with_reducible exact Calls.regrown_of ((need_true _).mono fun e w' h => ⟨h.1, by rw [h.2]; exact Below.refl _ _⟩)) | quiet_step (first | with_reducible exact Calls.regrown_of (HD.out _ (HG.out _ _)) | with_reducible exact Calls.regrown_of ((HR1.out _).mono fun e w' h => ⟨h.1, by rw [← h.2]; exact Below.refl _ _⟩) | with_reducible exact Calls.regrown_of ((HR2.out _).mono fun e w' h => ⟨h.1, by rw [← h.2]; exact Below.refl _ _⟩) | with_reducible exact Calls.regrown_of ((need_true _).mono fun e w' h => ⟨h.1, by rw [h.2]; exact Below.refl _ _⟩)))
                refine wpQuiet_nil ?_
                intro _ hw'
                obtain ⟨⟨dq, osq⟩, hw''⟩ := hw'
                subst hw''
                have HB5 := Lib.hid (below_regrown w4 dq osq)
                clear g0
                go_wp2_with fail
                go_end0
                exact ⟨gb_below HG4.out HB5.out, Or.inr ⟨h, HE2.out, rfl, HS4.out.below HB5.out⟩⟩
              · have HE2 := Lib.hid (show arrF (wl l) t f = none by
                  rw [HE.out, HA.out]
                  have : (E1 == E2) = false := by rw [beq_eq_false_iff_ne]; exact hee
                  rw [this]; rfl)
                have q5 : (E1 == E2) = false := by rw [beq_eq_false_iff_ne]; exact hee
                clear hee HE
                go_upto_region 3 with fail
                refine Code.wp_mono (Q := PanQ c w4) ?_ ?_
                · rintro e a' w' ⟨rfl, hd', hg'⟩
                  go_wp2_with fail
                  exact ⟨hd', gb_trans HG4.out hg', Or.inl ⟨HE2.out, rfl⟩⟩
                refine wp_region_held_drew (S := fun W' => W'.cell? ⟨c, 0, none⟩ = some (.map (some b))) (by kernel_rfl) ?_ (fun hHeld => ?_)
                · exact HSC.out _ (Below.refl _ _).drew
                refine wpAnyH_take (i := 0) (oi := { dst := some 13, op := Op.move (Operand.tmp 4), type := 9, pos := "frame.go:259", after := #[], guard := none }) (v := ?_) rfl (by kernel_rfl) (by kernel_rfl) (by kernel_rfl) (fun _ _ _ h => h) (Or.inl ⟨by rfl, ?_⟩) (by assumption) ?_
                rotate_left
                · (intro w hSw; (try dsimp only at hSw); go_simp; try with_reducible rfl)
                try simp only [Act.put, List.setIfInBounds_toArray, List.set_cons_zero, List.set_cons_succ]
                refine wpAnyH_take (i := 1) (oi := { dst := some 14, op := Op.binOp BinOp.eql 9 (Operand.tmp 13) (Operand.const (Value.string { data := #[78] })) 9, type := 4, pos := "frame.go:259", after := #[{ on := 0, ground := Ground.data }], guard := none }) (v := ?_) rfl (by kernel_rfl) (by kernel_rfl) (by kernel_rfl) (fun _ _ _ h => h) (Or.inl ⟨by rfl, ?_⟩) (by assumption) ?_
                rotate_left
                · (intro w hSw; (try dsimp only at hSw); go_simp; try with_reducible rfl)
                try simp only [Act.put, List.setIfInBounds_toArray, List.set_cons_zero, List.set_cons_succ]
                refine wpAnyH_take (i := 2) (oi := { dst := some 15, op := Op.move (Operand.tmp 14), type := 4, pos := "frame.go:259", after := #[{ on := 1, ground := Ground.data }], guard := none }) (v := ?_) rfl (by kernel_rfl) (by kernel_rfl) (by kernel_rfl) (fun _ _ _ h => h) (Or.inl ⟨by rfl, ?_⟩) (by assumption) ?_
                rotate_left
                · (intro w hSw; (try dsimp only at hSw); go_simp; try with_reducible rfl)
                try simp only [Act.put, List.setIfInBounds_toArray, List.set_cons_zero, List.set_cons_succ]
                refine wpAnyH_take (i := 3) (oi := { dst := some 16, op := Op.move (Operand.tmp 4), type := 9, pos := "frame.go:259", after := #[{ on := 2, ground := Ground.guard }], guard := some (2, false) }) (v := ?_) rfl (by kernel_rfl) (by kernel_rfl) (by kernel_rfl) (fun _ _ _ h => h) (Or.inl ⟨by rfl, ?_⟩) (by assumption) ?_
                rotate_left
                · (intro w hSw; (try dsimp only at hSw); go_simp; try with_reducible rfl)
                try simp only [Act.put, List.setIfInBounds_toArray, List.set_cons_zero, List.set_cons_succ]
                refine wpAnyH_take (i := 4) (oi := { dst := some 17, op := Op.index 9 (Operand.tmp 16) (Operand.const (Value.int IntKind.i64 0)), type := 5, pos := "frame.go:259", after := #[{ on := 3, ground := Ground.data }, { on := 2, ground := Ground.guard }], guard := some (2, false) }) (v := ?_) rfl (by kernel_rfl) (by kernel_rfl) (by kernel_rfl) (fun _ _ _ h => h) (Or.inl ⟨by rfl, ?_⟩) (by assumption) ?_
                rotate_left
                · (intro w hSw; (try dsimp only at hSw); go_simp; try with_reducible rfl)
                try simp only [Act.put, List.setIfInBounds_toArray, List.set_cons_zero, List.set_cons_succ]
                refine wpAnyH_take (i := 5) (oi := { dst := some 18, op := Op.binOp BinOp.eql 5 (Operand.tmp 17) (Operand.const (Value.int IntKind.u8 91)) 5, type := 4, pos := "frame.go:259", after := #[{ on := 4, ground := Ground.data }, { on := 2, ground := Ground.guard }], guard := some (2, false) }) (v := ?_) rfl (by kernel_rfl) (by kernel_rfl) (by kernel_rfl) (fun _ _ _ h => h) (Or.inl ⟨by rfl, ?_⟩) (by assumption) ?_
                rotate_left
                · (intro w hSw; (try dsimp only at hSw); go_simp; try with_reducible rfl)
                try simp only [Act.put, List.setIfInBounds_toArray, List.set_cons_zero, List.set_cons_succ]
                refine wpAnyH_take (i := 6) (oi := { dst := some 19, op := Op.move (Operand.tmp 18), type := 4, pos := "frame.go:259", after := #[{ on := 5, ground := Ground.data }, { on := 2, ground := Ground.chain }, { on := 2, ground := Ground.guard }], guard := some (2, false) }) (v := ?_) rfl (by kernel_rfl) (by kernel_rfl) (by kernel_rfl) (fun _ _ _ h => h) (Or.inl ⟨by rfl, ?_⟩) (by assumption) ?_
                rotate_left
                · (intro w hSw; (try dsimp only at hSw); go_simp; try with_reducible rfl)
                try simp only [Act.put, List.setIfInBounds_toArray, List.set_cons_zero, List.set_cons_succ]
                refine wpAnyH_take (i := 7) (oi := { dst := some 20, op := Op.move (Operand.tmp 0), type := 139, pos := "frame.go:259", after := #[{ on := 6, ground := Ground.guard }], guard := some (6, true) }) (v := ?_) rfl (by kernel_rfl) (by kernel_rfl) (by kernel_rfl) (fun _ _ _ h => h) (Or.inl ⟨by rfl, ?_⟩) (by assumption) ?_
                rotate_left
                · (intro w hSw; (try dsimp only at hSw); go_simp; try with_reducible rfl)
                try simp only [Act.put, List.setIfInBounds_toArray, List.set_cons_zero, List.set_cons_succ]
                refine wpAnyH_take (i := 8) (oi := { dst := some 21, op := Op.nilCheck (Operand.tmp 20), type := 0, pos := "frame.go:259", after := #[{ on := 7, ground := Ground.data }, { on := 6, ground := Ground.guard }], guard := some (6, true) }) (v := ?_) rfl (by kernel_rfl) (by kernel_rfl) (by kernel_rfl) (fun _ _ _ h => h) (Or.inl ⟨by rfl, ?_⟩) (by assumption) ?_
                rotate_left
                · (intro w hSw; (try dsimp only at hSw); go_simp; try with_reducible rfl)
                try simp only [Act.put, List.setIfInBounds_toArray, List.set_cons_zero, List.set_cons_succ]
                refine wpAnyH_take (i := 9) (oi := { dst := some 22, op := Op.fieldAddr 142 (Operand.tmp 21) 0, type := 0, pos := "frame.go:259", after := #[{ on := 8, ground := Ground.data }, { on := 6, ground := Ground.guard }], guard := some (6, true) }) (v := ?_) rfl (by kernel_rfl) (by kernel_rfl) (by kernel_rfl) (fun _ _ _ h => h) (Or.inl ⟨by rfl, ?_⟩) (by assumption) ?_
                rotate_left
                · (intro w hSw; (try dsimp only at hSw); go_simp; try with_reducible rfl)
                try simp only [Act.put, List.setIfInBounds_toArray, List.set_cons_zero, List.set_cons_succ]
                refine wpAnyH_take (i := 10) (oi := { dst := some 23, op := Op.load 81 (Operand.tmp 22), type := 81, pos := "frame.go:259", after := #[{ on := 9, ground := Ground.data }, { on := 6, ground := Ground.guard }], guard := some (6, true) }) (v := ?_) rfl (by kernel_rfl) (by kernel_rfl) (by kernel_rfl) (fun _ _ _ h => h) (Or.inl ⟨by rfl, ?_⟩) (by assumption) ?_
                rotate_left
                · (intro w hSw; (try dsimp only at hSw); go_simp; try with_reducible rfl)
                try simp only [Act.put, List.setIfInBounds_toArray, List.set_cons_zero, List.set_cons_succ]
                refine wpAnyH_take (i := 11) (oi := { dst := some 24, op := Op.move (Operand.tmp 4), type := 9, pos := "frame.go:259", after := #[{ on := 6, ground := Ground.guard }], guard := some (6, true) }) (v := ?_) rfl (by kernel_rfl) (by kernel_rfl) (by kernel_rfl) (fun _ _ _ h => h) (Or.inl ⟨by rfl, ?_⟩) (by assumption) ?_
                rotate_left
                · (intro w hSw; (try dsimp only at hSw); go_simp; try with_reducible rfl)
                try simp only [Act.put, List.setIfInBounds_toArray, List.set_cons_zero, List.set_cons_succ]
                refine wpAnyH_take (i := 13) (oi := { dst := some 26, op := Op.move (Operand.tmp 1), type := 9, pos := "frame.go:259", after := #[{ on := 6, ground := Ground.guard }], guard := some (6, true) }) (v := ?_) rfl (by kernel_rfl) (by kernel_rfl) (by kernel_rfl) (fun _ _ _ h => h) (Or.inl ⟨by rfl, ?_⟩) (by assumption) ?_
                rotate_left
                · (intro w hSw; (try dsimp only at hSw); go_simp; try with_reducible rfl)
                try simp only [Act.put, List.setIfInBounds_toArray, List.set_cons_zero, List.set_cons_succ]
                refine wpAnyH_ready (rs := [12]) (by kernel_rfl) (by simp) ?_
                refine AllReadyH.cons (o := { dst := some 25, op := Op.slice 9 (Operand.tmp 24) (some (Operand.const (Value.int IntKind.i64 1))) none none, type := 9, pos := "frame.go:259", after := #[{ on := 11, ground := Ground.data }, { on := 6, ground := Ground.guard }], guard := some (6, true) }) rfl (fun K hK => ?_) AllReadyH.nil
                go_simp
                try go_wp2_with fail
                refine hK.out _ _ ?_ (fun hHeld => ?_)
                · exact HSC.out _ (Below.refl _ _).drew
                clear hK K
                try simp only [Act.put, List.setIfInBounds_toArray, List.set_cons_zero, List.set_cons_succ]
                refine wpAnyH_ready (rs := [14]) (by kernel_rfl) (by simp) ?_
                refine AllReadyH.cons (o := { dst := some 27, op := Op.call { callee := Callee.value (Operand.func 62), args := #[Operand.tmp 23, Operand.tmp 25, Operand.tmp 26], argTypes := #[81, 9, 9] }, type := 4, pos := "frame.go:259", after := #[{ on := 10, ground := Ground.data }, { on := 12, ground := Ground.data }, { on := 13, ground := Ground.data }, { on := 6, ground := Ground.chain }, { on := 6, ground := Ground.guard }], guard := some (6, true) }) rfl (fun K hK => ?_) AllReadyH.nil
                go_simp
                go_wp2_with ((go_at_call 62; refine (HD.out _ (Below.refl _ _).drew).mono ?_; rintro e w6 ⟨rfl, hb6⟩))
                refine hK.out _ _ ?_ (fun hHeld => ?_)
                · exact HSC.out _ (bl_trans (Below.refl _ _).drew hb6)
                clear hK K
                try simp only [Act.put, List.setIfInBounds_toArray, List.set_cons_zero, List.set_cons_succ]
                refine wpAnyH_take (i := 15) (oi := { dst := some 28, op := Op.pick (Operand.tmp 19) (Operand.tmp 27) (Operand.const (Value.bool false)), type := 4, pos := "frame.go:259", after := #[{ on := 6, ground := Ground.data }, { on := 14, ground := Ground.data }, { on := 2, ground := Ground.guard }], guard := some (2, false) }) (v := ?_) rfl (by kernel_rfl) (by kernel_rfl) (by kernel_rfl) (fun _ _ _ h => h) (Or.inl ⟨by rfl, ?_⟩) (by assumption) ?_
                rotate_left
                · (intro w hSw; (try dsimp only at hSw); go_simp; try with_reducible rfl)
                try simp only [Act.put, List.setIfInBounds_toArray, List.set_cons_zero, List.set_cons_succ]
                refine wpAnyH_take (i := 16) (oi := { dst := some 29, op := Op.move (Operand.tmp 28), type := 4, pos := "frame.go:259", after := #[{ on := 15, ground := Ground.data }, { on := 14, ground := Ground.chain }, { on := 2, ground := Ground.guard }], guard := some (2, false) }) (v := ?_) rfl (by kernel_rfl) (by kernel_rfl) (by kernel_rfl) (fun _ _ _ h => h) (Or.inl ⟨by rfl, ?_⟩) (by assumption) ?_
                rotate_left
                · (intro w hSw; (try dsimp only at hSw); go_simp; try with_reducible rfl)
                try simp only [Act.put, List.setIfInBounds_toArray, List.set_cons_zero, List.set_cons_succ]
                refine wpAnyH_take (i := 17) (oi := { dst := some 30, op := Op.move (Operand.tmp 4), type := 9, pos := "frame.go:259", after := #[{ on := 16, ground := Ground.guard }], guard := some (16, true) }) (v := ?_) rfl (by kernel_rfl) (by kernel_rfl) (by kernel_rfl) (fun _ _ _ h => h) (Or.inl ⟨by rfl, ?_⟩) (by assumption) ?_
                rotate_left
                · (intro w hSw; (try dsimp only at hSw); go_simp; try with_reducible rfl)
                try simp only [Act.put, List.setIfInBounds_toArray, List.set_cons_zero, List.set_cons_succ]
                refine wpAnyH_take (i := 20) (oi := { dst := some 33, op := Op.move (Operand.tmp 1), type := 9, pos := "frame.go:259", after := #[{ on := 16, ground := Ground.guard }], guard := some (16, true) }) (v := ?_) rfl (by kernel_rfl) (by kernel_rfl) (by kernel_rfl) (fun _ _ _ h => h) (Or.inl ⟨by rfl, ?_⟩) (by assumption) ?_
                rotate_left
                · (intro w hSw; (try dsimp only at hSw); go_simp; try with_reducible rfl)
                try simp only [Act.put, List.setIfInBounds_toArray, List.set_cons_zero, List.set_cons_succ]
                refine wpAnyH_ready (rs := [18]) (by kernel_rfl) (by simp) ?_
                refine AllReadyH.cons (o := { dst := some 31, op := Op.slice 9 (Operand.tmp 30) (some (Operand.const (Value.int IntKind.i64 1))) none none, type := 9, pos := "frame.go:259", after := #[{ on := 17, ground := Ground.data }, { on := 16, ground := Ground.guard }], guard := some (16, true) }) rfl (fun K hK => ?_) AllReadyH.nil
                go_simp
                try go_wp2_with fail
                refine hK.out _ _ ?_ (fun hHeld => ?_)
                · exact HSC.out _ (bl_trans (Below.refl _ _).drew hb6)
                clear hK K
                try simp only [Act.put, List.setIfInBounds_toArray, List.set_cons_zero, List.set_cons_succ]
                refine wpAnyH_ready (rs := [19]) (by kernel_rfl) (by simp) ?_
                refine AllReadyH.cons (o := { dst := some 32, op := Op.call { callee := Callee.value (Operand.func 61), args := #[Operand.tmp 31], argTypes := #[9] }, type := 4, pos := "frame.go:259", after := #[{ on := 18, ground := Ground.data }, { on := 16, ground := Ground.chain }, { on := 16, ground := Ground.guard }], guard := some (16, true) }) rfl (fun K hK => ?_) AllReadyH.nil
                go_simp
                go_wp2_with ((go_at_call 61; refine (HR1.out _).mono ?_; rintro e w7 ⟨rfl, rfl⟩))
                refine hK.out _ _ ?_ (fun hHeld => ?_)
                · exact HSC.out _ (bl_trans (Below.refl _ _).drew hb6)
                clear hK K
                try simp only [Act.put, List.setIfInBounds_toArray, List.set_cons_zero, List.set_cons_succ]
                refine wpAnyH_ready (rs := [21]) (by kernel_rfl) (by simp) ?_
                refine AllReadyH.cons (o := { dst := some 34, op := Op.call { callee := Callee.value (Operand.func 61), args := #[Operand.tmp 33], argTypes := #[9] }, type := 4, pos := "frame.go:259", after := #[{ on := 20, ground := Ground.data }, { on := 19, ground := Ground.chain }, { on := 16, ground := Ground.guard }], guard := some (16, true) }) rfl (fun K hK => ?_) AllReadyH.nil
                go_simp
                go_wp2_with ((go_at_call 61; refine (HR2.out _).mono ?_; rintro e w8 ⟨rfl, rfl⟩))
                refine hK.out _ _ ?_ (fun hHeld => ?_)
                · exact HSC.out _ (bl_trans (Below.refl _ _).drew hb6)
                clear hK K
                try simp only [Act.put, List.setIfInBounds_toArray, List.set_cons_zero, List.set_cons_succ]
                refine wpAnyH_take (i := 22) (oi := { dst := some 35, op := Op.binOp BinOp.eql 4 (Operand.tmp 32) (Operand.tmp 34) 4, type := 4, pos := "frame.go:259", after := #[{ on := 19, ground := Ground.data }, { on := 21, ground := Ground.data }, { on := 16, ground := Ground.guard }], guard := some (16, true) }) (v := ?_) rfl (by kernel_rfl) (by kernel_rfl) (by kernel_rfl) (fun _ _ _ h => h) (Or.inl ⟨by rfl, ?_⟩) (by assumption) ?_
                rotate_left
                · (intro w hSw; (try dsimp only at hSw); go_simp; try with_reducible rfl)
                try simp only [Act.put, List.setIfInBounds_toArray, List.set_cons_zero, List.set_cons_succ]
                refine wpAnyH_take (i := 23) (oi := { dst := some 36, op := Op.pick (Operand.tmp 29) (Operand.tmp 35) (Operand.const (Value.bool false)), type := 4, pos := "frame.go:259", after := #[{ on := 16, ground := Ground.data }, { on := 22, ground := Ground.data }, { on := 2, ground := Ground.guard }], guard := some (2, false) }) (v := ?_) rfl (by kernel_rfl) (by kernel_rfl) (by kernel_rfl) (fun _ _ _ h => h) (Or.inl ⟨by rfl, ?_⟩) (by assumption) ?_
                rotate_left
                · (intro w hSw; (try dsimp only at hSw); go_simp; try with_reducible rfl)
                try simp only [Act.put, List.setIfInBounds_toArray, List.set_cons_zero, List.set_cons_succ]
                refine wpAnyH_take (i := 24) (oi := { dst := some 37, op := Op.pick (Operand.tmp 15) (Operand.const (Value.bool true)) (Operand.tmp 36), type := 4, pos := "frame.go:259", after := #[{ on := 2, ground := Ground.data }, { on := 23, ground := Ground.data }], guard := none }) (v := ?_) rfl (by kernel_rfl) (by kernel_rfl) (by kernel_rfl) (fun _ _ _ h => h) (Or.inl ⟨by rfl, ?_⟩) (by assumption) ?_
                rotate_left
                · (intro w hSw; (try dsimp only at hSw); go_simp; try with_reducible rfl)
                try simp only [Act.put, List.setIfInBounds_toArray, List.set_cons_zero, List.set_cons_succ]
                refine wpAnyH_ready (rs := [25]) (by kernel_rfl) (by simp) ?_
                refine AllReadyH.cons (o := { dst := some 38, op := Op.call { callee := Callee.value (Operand.func 123), args := #[Operand.tmp 37], argTypes := #[4] }, type := 0, pos := "frame.go:259", after := #[{ on := 24, ground := Ground.data }, { on := 21, ground := Ground.chain }], guard := none }) rfl (fun K hK => ?_) AllReadyH.nil
                go_simp
                go_wp2_with ((go_at_call 123; refine (need_false _).mono ?_; rintro e w5 ⟨rfl, rfl⟩))
                exact ⟨rfl, rfl, gb_below (gb_drew (gb_refl w4 c)) hb6⟩
  · rw [if_neg hk] at HKN
    have HE := Lib.hid (arr_bad (f := f) hk)
    clear hW hb hs hk ht
    go_enter Tryz.func130, Tryz.ntmps130
    go_wp2_with fail
    refine HKN.out.mono ?_
    rintro e w2 ⟨rfl, hb2⟩
    have HG2 := Lib.hid (gb_below (gb_refl w c) hb2)
    clear hb2
    go_wp2_with fail
    exact ⟨rfl, HG2.out, Or.inl ⟨HE.out, rfl⟩⟩
end Go.Proofs.YtanjggdmgeedlaaGreatDoor
