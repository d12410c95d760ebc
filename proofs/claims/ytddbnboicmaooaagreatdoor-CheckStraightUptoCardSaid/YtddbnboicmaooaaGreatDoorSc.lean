import Derived.Test.YtddbnboicmaooaaGreatDoorSb
namespace Go.Proofs.YtddbnboicmaooaaGreatDoor
set_option maxRecDepth 100000
set_option maxHeartbeats 16000000
set_option linter.unusedVariables false
set_option linter.unusedSimpArgs false
open Go.RowKit Go.Shelf Go.Lib Go.Sort
theorem arr_end {L : List ClassR} {t k : Nm} {f g h : FrR} (ht : kindErr L t = 0) (hf : takeF L [[73]] f = some g) (hr : refF g = some (k, h)) : arrF L t f = if ArrD L k t = true then some h else none := by
 unfold arrF
 rw [hf, if_neg (by simpa using ht)]
 simp only [Option.elim_some]
 rw [hr]
 simp only [Option.elim_some]
 rfl
theorem arr_elem {L : List ClassR} {r : Nm} (h : kindErr L (91 :: r) = 0) : kindErr L r = 0 := by
 obtain ⟨k, hk, e⟩ := kind_zero.1 h
 cases k with
 | nul => simp [Kd.text] at e
 | top => simp [Kd.text] at e
 | ty d b =>
   cases d with
   | zero =>
     obtain ⟨c, s, e2, h1, _, _⟩ := base_head b
     have : (Kd.ty 0 b).text = b.text := by simp [Kd.text]
     rw [this, e2] at e
     simp only [List.cons.injEq] at e
     exact absurd e.1.symm h1
   | succ d =>
     rw [arr_one] at e
     simp only [List.cons.injEq, true_and] at e
     exact kind_zero.2 ⟨.ty d b, ⟨by have := hk.1; omega, hk.2⟩, e⟩
def ArrRes (L : List ClassR) (r : Option FrR) (B c b : Nat) (fr gv : Nm) (w : World) (e : Ending) (w' : World) : Prop :=
 w.grownBy w' (some c) ∧ ((r = none ∧ e = .panicked unfitP) ∨ ∃ f, r = some f ∧ e = .returned (.tuple #[]) ∧ Stp L w' B c b fr gv f)
theorem array_calls_stp (l : List ClassR) (L : List CP) (b c : Nat) (fr gv : Nm) (f : FrR) (t : Nm) (w0 w : World) (hW : WOk w0 b l L) (hb : Below w0.heap.size w0 w) (hs : Stp (wl l) w w0.heap.size c b fr gv f) (ht : t.length ≤ 8388608) :
   Calls Tryz.prog 163 #[.pointer (some ⟨c, 0, none⟩), .string ⟨⟨t⟩⟩] w (TakeRes (wl l) (arrF (wl l) t f) w0.heap.size c b fr gv w) := by
 have HKN := Hd (known_calls l L b c w0.heap.size fr gv f t w0 w hW rfl hb hs ht)
 by_cases hk : kindErr (wl l) t = 0
 · rw [if_pos hk] at HKN
   have HW := Hd hW
   have HB := Hd hb
   have HS := Hd hs
   have HKT := Hd hk
   have HCB := Hd hs.cB
   have HKF := Hd hs.kok
   clear hW hb hs hk ht
   go_enter Tryz.func163, Tryz.ntmps163
   go_wp2_with fail
   refine HKN.out.mono ?_
   rintro e w2 ⟨rfl, hb2⟩
   have HG2 := Hd (gb_below (gb_refl w c) hb2)
   have HBW2 := Hd (gb_to_below HB.out HG2.out HCB.out)
   have HS2 := Hd (HS.out.below hb2)
   clear hb2
   go_wp2_with fail
   refine (take1 l L b c fr gv f [73] w0 w2 HW.out HBW2.out HS2.out (by decide)).mono ?_
   rintro e w3 ⟨hg3, ⟨hn, rfl⟩ | ⟨g, hn, rfl, hs3⟩⟩
   · have HG3 := Hd (gb_trans HG2.out hg3)
     have HN := Hd (arr_t (t := t) hn)
     clear hg3 hn
     go_wp2_with fail
     exact ⟨rfl, HG3.out, Or.inl ⟨HN.out, rfl⟩⟩
   · have HG3 := Hd (gb_trans HG2.out hg3)
     have HN := Hd hn
     have HS3 := Hd hs3
     have HKG := Hd (HKF.out.take hn).1
     clear hg3 hn hs3
     go_wp2_with fail
     refine (ref_calls (wl l) b c w0.heap.size fr gv g w3 HS3.out).mono ?_
     rintro e w4 ⟨hg4, ⟨hn4, rfl⟩ | ⟨k, h, hn4, rfl, hs4⟩⟩
     · have HG4 := Hd (gb_trans HG3.out hg4)
       have HN4 := Hd (arr_r (t := t) HN.out hn4)
       clear hg4 hn4
       go_wp2_with fail
       exact ⟨rfl, HG4.out, Or.inl ⟨HN4.out, rfl⟩⟩
     · have HG4 := Hd (gb_trans HG3.out hg4)
       have HE := Hd (arr_end HKT.out HN.out hn4)
       have HS4 := Hd hs4
       have HB4 := Hd (gb_to_below HB.out HG4.out HCB.out)
       obtain ⟨_, hkk, _, hkr⟩ := HKG.out.ref hn4
       have hc4 := hs4.lt
       have HSC := Hd (fun W (hw : Below w4.heap.size w4 W) => (HS4.out.below hw).cell0)
       clear hg4 hn4 hs4
       by_cases hN : k = [78]
       · subst hN
         have HE2 := Hd (show arrF (wl l) t f = some h by rw [HE.out]; rfl)
         clear hkk hkr
         go_upto_region 3 with fail
         refine wp_region_quiet_below (by kernel_rfl) (by kernel_rfl) ?_
         repeat (first | go_big_quiet_step (with_reducible exact Calls.regrown_of ((need_true _).mono fun e w' h => ⟨h.1, by rw [h.2]; exact Below.refl _ _⟩)) | quiet_step (with_reducible exact Calls.regrown_of ((need_true _).mono fun e w' h => ⟨h.1, by rw [h.2]; exact Below.refl _ _⟩)))
         refine wpQuiet_nil ?_
         intro _ hw'
         obtain ⟨⟨dq, osq⟩, hw''⟩ := hw'
         subst hw''
         have HB5 := Hd (below_regrown w4 dq osq)
         go_wp2_with fail
         go_end0
         exact ⟨gb_below HG4.out HB5.out, Or.inr ⟨h, HE2.out, rfl, HS4.out.below HB5.out⟩⟩
       · have hkn : (k == [78]) = false := by rw [beq_eq_false_iff_ne]; exact hN
         obtain ⟨r, hkr2⟩ : ∃ r, k = 76 :: r ∨ k = 91 :: r := by
           cases k with
           | nil => simp [refsB] at hkr
           | cons x r =>
             rw [hkn] at hkr
             simp only [refsB, Bool.false_or, Bool.or_eq_true, beq_iff_eq] at hkr
             rcases hkr with rfl | rfl
             · exact ⟨r, Or.inl rfl⟩
             · exact ⟨r, Or.inr rfl⟩
         clear hkr
         rcases hkr2 with rfl | rfl
         · have HE2 := Hd (show arrF (wl l) t f = none by
             rw [HE.out]
             have : ArrD (wl l) (76 :: r) t = false := by
               unfold ArrD
               rw [hkn]
               rfl
             rw [this]; rfl)
           clear hkk hN HE
           go_upto_region 3 with fail
           refine Code.wp_mono (Q := PanQ c w4) ?_ ?_
           · rintro e a' w' ⟨rfl, hd', hg'⟩
             go_wp2_with fail
             exact ⟨hd', gb_trans HG4.out hg', Or.inl ⟨HE2.out, rfl⟩⟩
           refine wp_region_held_drew (S := fun W' => W'.cell? ⟨c, 0, none⟩ = some (.map (some b))) (by kernel_rfl) ?_ (fun hHeld => ?_)
           · exact HSC.out _ (Below.refl _ _).drew
           refine wpAnyH_take (i := 0) (oi := { dst := some 13, op := Op.move (Operand.tmp 4), type := 9, pos := "frame.go:259", after := #[], guard := none }) (v := ?_) rfl (by kernel_rfl) (by kernel_rfl) (by kernel_rfl) (fun _ _ _ h => h) (Or.inl ⟨by rfl, ?_⟩) (by assumption) ?_
           rotate_left
           · (intro w hSw; (try dsimp only at hSw); go_simp; try with_reducible rfl)
           try simp only [Act.put, List.setIfInBounds_toArray, List.set_cons_zero, List.set_cons_succ]
           refine wpAnyH_take (i := 1) (oi := { dst := some 14, op := Op.binOp BinOp.eql 9 (Operand.tmp 13) (Operand.const (Value.string { data := #[78] })) 9, type := 4, pos := "frame.go:259", after := #[{ on := 0, ground := Ground.data }], guard := none }) (v := ?_) rfl (by kernel_rfl) (by kernel_rfl) (by kernel_rfl) (fun _ _ _ h => h) (Or.inl ⟨by rfl, ?_⟩) (by assumption) ?_
           rotate_left
           · (intro w hSw; (try dsimp only at hSw); go_simp; try with_reducible rfl)
           try simp only [Act.put, List.setIfInBounds_toArray, List.set_cons_zero, List.set_cons_succ]
           refine wpAnyH_take (i := 2) (oi := { dst := some 15, op := Op.move (Operand.tmp 14), type := 4, pos := "frame.go:259", after := #[{ on := 1, ground := Ground.data }], guard := none }) (v := ?_) rfl (by kernel_rfl) (by kernel_rfl) (by kernel_rfl) (fun _ _ _ h => h) (Or.inl ⟨by rfl, ?_⟩) (by assumption) ?_
           rotate_left
           · (intro w hSw; (try dsimp only at hSw); go_simp; try with_reducible rfl)
           try simp only [Act.put, List.setIfInBounds_toArray, List.set_cons_zero, List.set_cons_succ]
           refine wpAnyH_take (i := 3) (oi := { dst := some 16, op := Op.move (Operand.tmp 4), type := 9, pos := "frame.go:259", after := #[{ on := 2, ground := Ground.guard }], guard := some (2, false) }) (v := ?_) rfl (by kernel_rfl) (by kernel_rfl) (by kernel_rfl) (fun _ _ _ h => h) (Or.inl ⟨by rfl, ?_⟩) (by assumption) ?_
           rotate_left
           · (intro w hSw; (try dsimp only at hSw); go_simp; try with_reducible rfl)
           try simp only [Act.put, List.setIfInBounds_toArray, List.set_cons_zero, List.set_cons_succ]
           refine wpAnyH_take (i := 4) (oi := { dst := some 17, op := Op.index 9 (Operand.tmp 16) (Operand.const (Value.int IntKind.i64 0)), type := 5, pos := "frame.go:259", after := #[{ on := 3, ground := Ground.data }, { on := 2, ground := Ground.guard }], guard := some (2, false) }) (v := ?_) rfl (by kernel_rfl) (by kernel_rfl) (by kernel_rfl) (fun _ _ _ h => h) (Or.inl ⟨by rfl, ?_⟩) (by assumption) ?_
           rotate_left
           · (intro w hSw; (try dsimp only at hSw); go_simp; try with_reducible rfl)
           try simp only [Act.put, List.setIfInBounds_toArray, List.set_cons_zero, List.set_cons_succ]
           refine wpAnyH_take (i := 5) (oi := { dst := some 18, op := Op.binOp BinOp.eql 5 (Operand.tmp 17) (Operand.const (Value.int IntKind.u8 91)) 5, type := 4, pos := "frame.go:259", after := #[{ on := 4, ground := Ground.data }, { on := 2, ground := Ground.guard }], guard := some (2, false) }) (v := ?_) rfl (by kernel_rfl) (by kernel_rfl) (by kernel_rfl) (fun _ _ _ h => h) (Or.inl ⟨by rfl, ?_⟩) (by assumption) ?_
           rotate_left
           · (intro w hSw; (try dsimp only at hSw); go_simp; try with_reducible rfl)
           try simp only [Act.put, List.setIfInBounds_toArray, List.set_cons_zero, List.set_cons_succ]
           refine wpAnyH_take (i := 6) (oi := { dst := some 19, op := Op.move (Operand.tmp 18), type := 4, pos := "frame.go:259", after := #[{ on := 5, ground := Ground.data }, { on := 2, ground := Ground.chain }, { on := 2, ground := Ground.guard }], guard := some (2, false) }) (v := ?_) rfl (by kernel_rfl) (by kernel_rfl) (by kernel_rfl) (fun _ _ _ h => h) (Or.inl ⟨by rfl, ?_⟩) (by assumption) ?_
           rotate_left
           · (intro w hSw; (try dsimp only at hSw); go_simp; try with_reducible rfl)
           try simp only [Act.put, List.setIfInBounds_toArray, List.set_cons_zero, List.set_cons_succ]
           refine wpAnyH_take (i := 7) (oi := { dst := some 20, op := Op.move (Operand.tmp 0), type := 168, pos := "frame.go:259", after := #[{ on := 6, ground := Ground.guard }], guard := some (6, true) }) (v := undef) rfl (by kernel_rfl) (by kernel_rfl) (by kernel_rfl) (fun _ _ _ h => h) (Or.inr ⟨by rfl, rfl⟩) (by assumption) ?_
           try simp only [Act.put, List.setIfInBounds_toArray, List.set_cons_zero, List.set_cons_succ]
           refine wpAnyH_take (i := 8) (oi := { dst := some 21, op := Op.nilCheck (Operand.tmp 20), type := 0, pos := "frame.go:259", after := #[{ on := 7, ground := Ground.data }, { on := 6, ground := Ground.guard }], guard := some (6, true) }) (v := undef) rfl (by kernel_rfl) (by kernel_rfl) (by kernel_rfl) (fun _ _ _ h => h) (Or.inr ⟨by rfl, rfl⟩) (by assumption) ?_
           try simp only [Act.put, List.setIfInBounds_toArray, List.set_cons_zero, List.set_cons_succ]
           refine wpAnyH_take (i := 9) (oi := { dst := some 22, op := Op.fieldAddr 171 (Operand.tmp 21) 0, type := 0, pos := "frame.go:259", after := #[{ on := 8, ground := Ground.data }, { on := 6, ground := Ground.guard }], guard := some (6, true) }) (v := undef) rfl (by kernel_rfl) (by kernel_rfl) (by kernel_rfl) (fun _ _ _ h => h) (Or.inr ⟨by rfl, rfl⟩) (by assumption) ?_
           try simp only [Act.put, List.setIfInBounds_toArray, List.set_cons_zero, List.set_cons_succ]
           refine wpAnyH_take (i := 10) (oi := { dst := some 23, op := Op.load 88 (Operand.tmp 22), type := 88, pos := "frame.go:259", after := #[{ on := 9, ground := Ground.data }, { on := 6, ground := Ground.guard }], guard := some (6, true) }) (v := undef) rfl (by kernel_rfl) (by kernel_rfl) (by kernel_rfl) (fun _ _ _ h => h) (Or.inr ⟨by rfl, rfl⟩) (by assumption) ?_
           try simp only [Act.put, List.setIfInBounds_toArray, List.set_cons_zero, List.set_cons_succ]
           refine wpAnyH_take (i := 11) (oi := { dst := some 24, op := Op.move (Operand.tmp 4), type := 9, pos := "frame.go:259", after := #[{ on := 6, ground := Ground.guard }], guard := some (6, true) }) (v := undef) rfl (by kernel_rfl) (by kernel_rfl) (by kernel_rfl) (fun _ _ _ h => h) (Or.inr ⟨by rfl, rfl⟩) (by assumption) ?_
           try simp only [Act.put, List.setIfInBounds_toArray, List.set_cons_zero, List.set_cons_succ]
           refine wpAnyH_take (i := 12) (oi := { dst := some 25, op := Op.slice 9 (Operand.tmp 24) (some (Operand.const (Value.int IntKind.i64 1))) none none, type := 9, pos := "frame.go:259", after := #[{ on := 11, ground := Ground.data }, { on := 6, ground := Ground.guard }], guard := some (6, true) }) (v := undef) rfl (by kernel_rfl) (by kernel_rfl) (by kernel_rfl) (fun _ _ _ h => h) (Or.inr ⟨by rfl, rfl⟩) (by assumption) ?_
           try simp only [Act.put, List.setIfInBounds_toArray, List.set_cons_zero, List.set_cons_succ]
           refine wpAnyH_take (i := 13) (oi := { dst := some 26, op := Op.move (Operand.tmp 1), type := 9, pos := "frame.go:259", after := #[{ on := 6, ground := Ground.guard }], guard := some (6, true) }) (v := undef) rfl (by kernel_rfl) (by kernel_rfl) (by kernel_rfl) (fun _ _ _ h => h) (Or.inr ⟨by rfl, rfl⟩) (by assumption) ?_
           try simp only [Act.put, List.setIfInBounds_toArray, List.set_cons_zero, List.set_cons_succ]
           refine wpAnyH_take (i := 14) (oi := { dst := some 27, op := Op.call { callee := Callee.value (Operand.func 66), args := #[Operand.tmp 23, Operand.tmp 25, Operand.tmp 26], argTypes := #[88, 9, 9] }, type := 4, pos := "frame.go:259", after := #[{ on := 10, ground := Ground.data }, { on := 12, ground := Ground.data }, { on := 13, ground := Ground.data }, { on := 6, ground := Ground.chain }, { on := 6, ground := Ground.guard }], guard := some (6, true) }) (v := undef) rfl (by kernel_rfl) (by kernel_rfl) (by kernel_rfl) (fun _ _ _ h => h) (Or.inr ⟨by rfl, rfl⟩) (by assumption) ?_
           try simp only [Act.put, List.setIfInBounds_toArray, List.set_cons_zero, List.set_cons_succ]
           refine wpAnyH_take (i := 15) (oi := { dst := some 28, op := Op.pick (Operand.tmp 19) (Operand.tmp 27) (Operand.const (Value.bool false)), type := 4, pos := "frame.go:259", after := #[{ on := 6, ground := Ground.data }, { on := 14, ground := Ground.data }, { on := 2, ground := Ground.guard }], guard := some (2, false) }) (v := ?_) rfl (by kernel_rfl) (by kernel_rfl) (by kernel_rfl) (fun _ _ _ h => h) (Or.inl ⟨by rfl, ?_⟩) (by assumption) ?_
           rotate_left
           · (intro w hSw; (try dsimp only at hSw); go_simp; try with_reducible rfl)
           try simp only [Act.put, List.setIfInBounds_toArray, List.set_cons_zero, List.set_cons_succ]
           refine wpAnyH_take (i := 16) (oi := { dst := some 29, op := Op.move (Operand.tmp 28), type := 4, pos := "frame.go:259", after := #[{ on := 15, ground := Ground.data }, { on := 14, ground := Ground.chain }, { on := 2, ground := Ground.guard }], guard := some (2, false) }) (v := ?_) rfl (by kernel_rfl) (by kernel_rfl) (by kernel_rfl) (fun _ _ _ h => h) (Or.inl ⟨by rfl, ?_⟩) (by assumption) ?_
           rotate_left
           · (intro w hSw; (try dsimp only at hSw); go_simp; try with_reducible rfl)
           try simp only [Act.put, List.setIfInBounds_toArray, List.set_cons_zero, List.set_cons_succ]
           refine wpAnyH_take (i := 17) (oi := { dst := some 30, op := Op.move (Operand.tmp 4), type := 9, pos := "frame.go:259", after := #[{ on := 16, ground := Ground.guard }], guard := some (16, true) }) (v := undef) rfl (by kernel_rfl) (by kernel_rfl) (by kernel_rfl) (fun _ _ _ h => h) (Or.inr ⟨by rfl, rfl⟩) (by assumption) ?_
           try simp only [Act.put, List.setIfInBounds_toArray, List.set_cons_zero, List.set_cons_succ]
           refine wpAnyH_take (i := 18) (oi := { dst := some 31, op := Op.slice 9 (Operand.tmp 30) (some (Operand.const (Value.int IntKind.i64 1))) none none, type := 9, pos := "frame.go:259", after := #[{ on := 17, ground := Ground.data }, { on := 16, ground := Ground.guard }], guard := some (16, true) }) (v := undef) rfl (by kernel_rfl) (by kernel_rfl) (by kernel_rfl) (fun _ _ _ h => h) (Or.inr ⟨by rfl, rfl⟩) (by assumption) ?_
           try simp only [Act.put, List.setIfInBounds_toArray, List.set_cons_zero, List.set_cons_succ]
           refine wpAnyH_take (i := 19) (oi := { dst := some 32, op := Op.call { callee := Callee.value (Operand.func 65), args := #[Operand.tmp 31], argTypes := #[9] }, type := 4, pos := "frame.go:259", after := #[{ on := 18, ground := Ground.data }, { on := 16, ground := Ground.chain }, { on := 16, ground := Ground.guard }], guard := some (16, true) }) (v := undef) rfl (by kernel_rfl) (by kernel_rfl) (by kernel_rfl) (fun _ _ _ h => h) (Or.inr ⟨by rfl, rfl⟩) (by assumption) ?_
           try simp only [Act.put, List.setIfInBounds_toArray, List.set_cons_zero, List.set_cons_succ]
           refine wpAnyH_take (i := 20) (oi := { dst := some 33, op := Op.move (Operand.tmp 1), type := 9, pos := "frame.go:259", after := #[{ on := 16, ground := Ground.guard }], guard := some (16, true) }) (v := undef) rfl (by kernel_rfl) (by kernel_rfl) (by kernel_rfl) (fun _ _ _ h => h) (Or.inr ⟨by rfl, rfl⟩) (by assumption) ?_
           try simp only [Act.put, List.setIfInBounds_toArray, List.set_cons_zero, List.set_cons_succ]
           refine wpAnyH_take (i := 21) (oi := { dst := some 34, op := Op.call { callee := Callee.value (Operand.func 65), args := #[Operand.tmp 33], argTypes := #[9] }, type := 4, pos := "frame.go:259", after := #[{ on := 20, ground := Ground.data }, { on := 19, ground := Ground.chain }, { on := 16, ground := Ground.guard }], guard := some (16, true) }) (v := undef) rfl (by kernel_rfl) (by kernel_rfl) (by kernel_rfl) (fun _ _ _ h => h) (Or.inr ⟨by rfl, rfl⟩) (by assumption) ?_
           try simp only [Act.put, List.setIfInBounds_toArray, List.set_cons_zero, List.set_cons_succ]
           refine wpAnyH_take (i := 22) (oi := { dst := some 35, op := Op.binOp BinOp.eql 4 (Operand.tmp 32) (Operand.tmp 34) 4, type := 4, pos := "frame.go:259", after := #[{ on := 19, ground := Ground.data }, { on := 21, ground := Ground.data }, { on := 16, ground := Ground.guard }], guard := some (16, true) }) (v := undef) rfl (by kernel_rfl) (by kernel_rfl) (by kernel_rfl) (fun _ _ _ h => h) (Or.inr ⟨by rfl, rfl⟩) (by assumption) ?_
           try simp only [Act.put, List.setIfInBounds_toArray, List.set_cons_zero, List.set_cons_succ]
           refine wpAnyH_take (i := 23) (oi := { dst := some 36, op := Op.pick (Operand.tmp 29) (Operand.tmp 35) (Operand.const (Value.bool false)), type := 4, pos := "frame.go:259", after := #[{ on := 16, ground := Ground.data }, { on := 22, ground := Ground.data }, { on := 2, ground := Ground.guard }], guard := some (2, false) }) (v := ?_) rfl (by kernel_rfl) (by kernel_rfl) (by kernel_rfl) (fun _ _ _ h => h) (Or.inl ⟨by rfl, ?_⟩) (by assumption) ?_
           rotate_left
           · (intro w hSw; (try dsimp only at hSw); go_simp; try with_reducible rfl)
           try simp only [Act.put, List.setIfInBounds_toArray, List.set_cons_zero, List.set_cons_succ]
           refine wpAnyH_take (i := 24) (oi := { dst := some 37, op := Op.pick (Operand.tmp 15) (Operand.const (Value.bool true)) (Operand.tmp 36), type := 4, pos := "frame.go:259", after := #[{ on := 2, ground := Ground.data }, { on := 23, ground := Ground.data }], guard := none }) (v := ?_) rfl (by kernel_rfl) (by kernel_rfl) (by kernel_rfl) (fun _ _ _ h => h) (Or.inl ⟨by rfl, ?_⟩) (by assumption) ?_
           rotate_left
           · (intro w hSw; (try dsimp only at hSw); go_simp; try with_reducible rfl)
           try simp only [Act.put, List.setIfInBounds_toArray, List.set_cons_zero, List.set_cons_succ]
           refine wpAnyH_ready (rs := [25]) (by kernel_rfl) (by simp) ?_
           refine AllReadyH.cons (o := { dst := some 38, op := Op.call { callee := Callee.value (Operand.func 156), args := #[Operand.tmp 37], argTypes := #[4] }, type := 0, pos := "frame.go:259", after := #[{ on := 24, ground := Ground.data }, { on := 21, ground := Ground.chain }], guard := none }) rfl (fun K hK => ?_) AllReadyH.nil
           go_simp
           go_wp2_with ((go_at_call 156; refine (need_false _).mono ?_; rintro e w5 ⟨rfl, rfl⟩))
           exact ⟨rfl, rfl, gb_drew (gb_refl w4 c)⟩
         · have hkr := arr_elem hkk
           have HDD := Hd (fun W (hw : Below w4.heap.size w4 W) => does_X l L b hkr HKT.out W (HW.out.below (gb_to_below HB.out (gb_below HG4.out hw) HCB.out)))
           have HRR := Hd (fun w => refs_calls r w)
           have HRT := Hd (fun w => refs_calls t w)
           have HA := Hd (show ArrD (wl l) (91 :: r) t = (doesX (wl l) r t && (refsB r == refsB t)) by
             unfold ArrD
             rw [hkn]
             rfl)
           generalize doesX (wl l) r t = D at *
           generalize refsB r = E1 at *
           generalize refsB t = E2 at *
           clear hkk hN hkr
           cases D with
           | false =>
             have HE2 := Hd (show arrF (wl l) t f = none by rw [HE.out, HA.out]; rfl)
             have HD := Hd HDD.out
             clear HDD
             go_upto_region 3 with fail
             refine Code.wp_mono (Q := PanQ c w4) ?_ ?_
             · rintro e a' w' ⟨rfl, hd', hg'⟩
               go_wp2_with fail
               exact ⟨hd', gb_trans HG4.out hg', Or.inl ⟨HE2.out, rfl⟩⟩
             refine wp_region_held_drew (S := fun W' => W'.cell? ⟨c, 0, none⟩ = some (.map (some b))) (by kernel_rfl) ?_ (fun hHeld => ?_)
             · exact HSC.out _ (Below.refl _ _).drew
             refine wpAnyH_take (i := 0) (oi := { dst := some 13, op := Op.move (Operand.tmp 4), type := 9, pos := "frame.go:259", after := #[], guard := none }) (v := ?_) rfl (by kernel_rfl) (by kernel_rfl) (by kernel_rfl) (fun _ _ _ h => h) (Or.inl ⟨by rfl, ?_⟩) (by assumption) ?_
             rotate_left
             · (intro w hSw; (try dsimp only at hSw); go_simp; try with_reducible rfl)
             try simp only [Act.put, List.setIfInBounds_toArray, List.set_cons_zero, List.set_cons_succ]
             refine wpAnyH_take (i := 1) (oi := { dst := some 14, op := Op.binOp BinOp.eql 9 (Operand.tmp 13) (Operand.const (Value.string { data := #[78] })) 9, type := 4, pos := "frame.go:259", after := #[{ on := 0, ground := Ground.data }], guard := none }) (v := ?_) rfl (by kernel_rfl) (by kernel_rfl) (by kernel_rfl) (fun _ _ _ h => h) (Or.inl ⟨by rfl, ?_⟩) (by assumption) ?_
             rotate_left
             · (intro w hSw; (try dsimp only at hSw); go_simp; try with_reducible rfl)
             try simp only [Act.put, List.setIfInBounds_toArray, List.set_cons_zero, List.set_cons_succ]
             refine wpAnyH_take (i := 2) (oi := { dst := some 15, op := Op.move (Operand.tmp 14), type := 4, pos := "frame.go:259", after := #[{ on := 1, ground := Ground.data }], guard := none }) (v := ?_) rfl (by kernel_rfl) (by kernel_rfl) (by kernel_rfl) (fun _ _ _ h => h) (Or.inl ⟨by rfl, ?_⟩) (by assumption) ?_
             rotate_left
             · (intro w hSw; (try dsimp only at hSw); go_simp; try with_reducible rfl)
             try simp only [Act.put, List.setIfInBounds_toArray, List.set_cons_zero, List.set_cons_succ]
             refine wpAnyH_take (i := 3) (oi := { dst := some 16, op := Op.move (Operand.tmp 4), type := 9, pos := "frame.go:259", after := #[{ on := 2, ground := Ground.guard }], guard := some (2, false) }) (v := ?_) rfl (by kernel_rfl) (by kernel_rfl) (by kernel_rfl) (fun _ _ _ h => h) (Or.inl ⟨by rfl, ?_⟩) (by assumption) ?_
             rotate_left
             · (intro w hSw; (try dsimp only at hSw); go_simp; try with_reducible rfl)
             try simp only [Act.put, List.setIfInBounds_toArray, List.set_cons_zero, List.set_cons_succ]
             refine wpAnyH_take (i := 4) (oi := { dst := some 17, op := Op.index 9 (Operand.tmp 16) (Operand.const (Value.int IntKind.i64 0)), type := 5, pos := "frame.go:259", after := #[{ on := 3, ground := Ground.data }, { on := 2, ground := Ground.guard }], guard := some (2, false) }) (v := ?_) rfl (by kernel_rfl) (by kernel_rfl) (by kernel_rfl) (fun _ _ _ h => h) (Or.inl ⟨by rfl, ?_⟩) (by assumption) ?_
             rotate_left
             · (intro w hSw; (try dsimp only at hSw); go_simp; try with_reducible rfl)
             try simp only [Act.put, List.setIfInBounds_toArray, List.set_cons_zero, List.set_cons_succ]
             refine wpAnyH_take (i := 5) (oi := { dst := some 18, op := Op.binOp BinOp.eql 5 (Operand.tmp 17) (Operand.const (Value.int IntKind.u8 91)) 5, type := 4, pos := "frame.go:259", after := #[{ on := 4, ground := Ground.data }, { on := 2, ground := Ground.guard }], guard := some (2, false) }) (v := ?_) rfl (by kernel_rfl) (by kernel_rfl) (by kernel_rfl) (fun _ _ _ h => h) (Or.inl ⟨by rfl, ?_⟩) (by assumption) ?_
             rotate_left
             · (intro w hSw; (try dsimp only at hSw); go_simp; try with_reducible rfl)
             try simp only [Act.put, List.setIfInBounds_toArray, List.set_cons_zero, List.set_cons_succ]
             refine wpAnyH_take (i := 6) (oi := { dst := some 19, op := Op.move (Operand.tmp 18), type := 4, pos := "frame.go:259", after := #[{ on := 5, ground := Ground.data }, { on := 2, ground := Ground.chain }, { on := 2, ground := Ground.guard }], guard := some (2, false) }) (v := ?_) rfl (by kernel_rfl) (by kernel_rfl) (by kernel_rfl) (fun _ _ _ h => h) (Or.inl ⟨by rfl, ?_⟩) (by assumption) ?_
             rotate_left
             · (intro w hSw; (try dsimp only at hSw); go_simp; try with_reducible rfl)
             try simp only [Act.put, List.setIfInBounds_toArray, List.set_cons_zero, List.set_cons_succ]
             refine wpAnyH_take (i := 7) (oi := { dst := some 20, op := Op.move (Operand.tmp 0), type := 168, pos := "frame.go:259", after := #[{ on := 6, ground := Ground.guard }], guard := some (6, true) }) (v := ?_) rfl (by kernel_rfl) (by kernel_rfl) (by kernel_rfl) (fun _ _ _ h => h) (Or.inl ⟨by rfl, ?_⟩) (by assumption) ?_
             rotate_left
             · (intro w hSw; (try dsimp only at hSw); go_simp; try with_reducible rfl)
             try simp only [Act.put, List.setIfInBounds_toArray, List.set_cons_zero, List.set_cons_succ]
             refine wpAnyH_take (i := 8) (oi := { dst := some 21, op := Op.nilCheck (Operand.tmp 20), type := 0, pos := "frame.go:259", after := #[{ on := 7, ground := Ground.data }, { on := 6, ground := Ground.guard }], guard := some (6, true) }) (v := ?_) rfl (by kernel_rfl) (by kernel_rfl) (by kernel_rfl) (fun _ _ _ h => h) (Or.inl ⟨by rfl, ?_⟩) (by assumption) ?_
             rotate_left
             · (intro w hSw; (try dsimp only at hSw); go_simp; try with_reducible rfl)
             try simp only [Act.put, List.setIfInBounds_toArray, List.set_cons_zero, List.set_cons_succ]
             refine wpAnyH_take (i := 9) (oi := { dst := some 22, op := Op.fieldAddr 171 (Operand.tmp 21) 0, type := 0, pos := "frame.go:259", after := #[{ on := 8, ground := Ground.data }, { on := 6, ground := Ground.guard }], guard := some (6, true) }) (v := ?_) rfl (by kernel_rfl) (by kernel_rfl) (by kernel_rfl) (fun _ _ _ h => h) (Or.inl ⟨by rfl, ?_⟩) (by assumption) ?_
             rotate_left
             · (intro w hSw; (try dsimp only at hSw); go_simp; try with_reducible rfl)
             try simp only [Act.put, List.setIfInBounds_toArray, List.set_cons_zero, List.set_cons_succ]
             refine wpAnyH_take (i := 10) (oi := { dst := some 23, op := Op.load 88 (Operand.tmp 22), type := 88, pos := "frame.go:259", after := #[{ on := 9, ground := Ground.data }, { on := 6, ground := Ground.guard }], guard := some (6, true) }) (v := ?_) rfl (by kernel_rfl) (by kernel_rfl) (by kernel_rfl) (fun _ _ _ h => h) (Or.inl ⟨by rfl, ?_⟩) (by assumption) ?_
             rotate_left
             · (intro w hSw; (try dsimp only at hSw); go_simp; try with_reducible rfl)
             try simp only [Act.put, List.setIfInBounds_toArray, List.set_cons_zero, List.set_cons_succ]
             refine wpAnyH_take (i := 11) (oi := { dst := some 24, op := Op.move (Operand.tmp 4), type := 9, pos := "frame.go:259", after := #[{ on := 6, ground := Ground.guard }], guard := some (6, true) }) (v := ?_) rfl (by kernel_rfl) (by kernel_rfl) (by kernel_rfl) (fun _ _ _ h => h) (Or.inl ⟨by rfl, ?_⟩) (by assumption) ?_
             rotate_left
             · (intro w hSw; (try dsimp only at hSw); go_simp; try with_reducible rfl)
             try simp only [Act.put, List.setIfInBounds_toArray, List.set_cons_zero, List.set_cons_succ]
             refine wpAnyH_take (i := 13) (oi := { dst := some 26, op := Op.move (Operand.tmp 1), type := 9, pos := "frame.go:259", after := #[{ on := 6, ground := Ground.guard }], guard := some (6, true) }) (v := ?_) rfl (by kernel_rfl) (by kernel_rfl) (by kernel_rfl) (fun _ _ _ h => h) (Or.inl ⟨by rfl, ?_⟩) (by assumption) ?_
             rotate_left
             · (intro w hSw; (try dsimp only at hSw); go_simp; try with_reducible rfl)
             try simp only [Act.put, List.setIfInBounds_toArray, List.set_cons_zero, List.set_cons_succ]
             refine wpAnyH_ready (rs := [12]) (by kernel_rfl) (by simp) ?_
             refine AllReadyH.cons (o := { dst := some 25, op := Op.slice 9 (Operand.tmp 24) (some (Operand.const (Value.int IntKind.i64 1))) none none, type := 9, pos := "frame.go:259", after := #[{ on := 11, ground := Ground.data }, { on := 6, ground := Ground.guard }], guard := some (6, true) }) rfl (fun K hK => ?_) AllReadyH.nil
             go_simp
             try go_wp2_with fail
             refine hK.out _ _ ?_ (fun hHeld => ?_)
             · exact HSC.out _ (Below.refl _ _).drew
             clear hK K
             try simp only [Act.put, List.setIfInBounds_toArray, List.set_cons_zero, List.set_cons_succ]
             refine wpAnyH_ready (rs := [14]) (by kernel_rfl) (by simp) ?_
             refine AllReadyH.cons (o := { dst := some 27, op := Op.call { callee := Callee.value (Operand.func 66), args := #[Operand.tmp 23, Operand.tmp 25, Operand.tmp 26], argTypes := #[88, 9, 9] }, type := 4, pos := "frame.go:259", after := #[{ on := 10, ground := Ground.data }, { on := 12, ground := Ground.data }, { on := 13, ground := Ground.data }, { on := 6, ground := Ground.chain }, { on := 6, ground := Ground.guard }], guard := some (6, true) }) rfl (fun K hK => ?_) AllReadyH.nil
             go_simp
             go_wp2_with ((go_at_call 66; refine (HD.out _ (Below.refl _ _).drew).mono ?_; rintro e w6 ⟨rfl, hb6⟩))
             refine hK.out _ _ ?_ (fun hHeld => ?_)
             · exact HSC.out _ (bl_trans (Below.refl _ _).drew hb6)
             clear hK K
             try simp only [Act.put, List.setIfInBounds_toArray, List.set_cons_zero, List.set_cons_succ]
             refine wpAnyH_take (i := 15) (oi := { dst := some 28, op := Op.pick (Operand.tmp 19) (Operand.tmp 27) (Operand.const (Value.bool false)), type := 4, pos := "frame.go:259", after := #[{ on := 6, ground := Ground.data }, { on := 14, ground := Ground.data }, { on := 2, ground := Ground.guard }], guard := some (2, false) }) (v := ?_) rfl (by kernel_rfl) (by kernel_rfl) (by kernel_rfl) (fun _ _ _ h => h) (Or.inl ⟨by rfl, ?_⟩) (by assumption) ?_
             rotate_left
             · (intro w hSw; (try dsimp only at hSw); go_simp; try with_reducible rfl)
             try simp only [Act.put, List.setIfInBounds_toArray, List.set_cons_zero, List.set_cons_succ]
             refine wpAnyH_take (i := 16) (oi := { dst := some 29, op := Op.move (Operand.tmp 28), type := 4, pos := "frame.go:259", after := #[{ on := 15, ground := Ground.data }, { on := 14, ground := Ground.chain }, { on := 2, ground := Ground.guard }], guard := some (2, false) }) (v := ?_) rfl (by kernel_rfl) (by kernel_rfl) (by kernel_rfl) (fun _ _ _ h => h) (Or.inl ⟨by rfl, ?_⟩) (by assumption) ?_
             rotate_left
             · (intro w hSw; (try dsimp only at hSw); go_simp; try with_reducible rfl)
             try simp only [Act.put, List.setIfInBounds_toArray, List.set_cons_zero, List.set_cons_succ]
             refine wpAnyH_take (i := 17) (oi := { dst := some 30, op := Op.move (Operand.tmp 4), type := 9, pos := "frame.go:259", after := #[{ on := 16, ground := Ground.guard }], guard := some (16, true) }) (v := undef) rfl (by kernel_rfl) (by kernel_rfl) (by kernel_rfl) (fun _ _ _ h => h) (Or.inr ⟨by rfl, rfl⟩) (by assumption) ?_
             try simp only [Act.put, List.setIfInBounds_toArray, List.set_cons_zero, List.set_cons_succ]
             refine wpAnyH_take (i := 18) (oi := { dst := some 31, op := Op.slice 9 (Operand.tmp 30) (some (Operand.const (Value.int IntKind.i64 1))) none none, type := 9, pos := "frame.go:259", after := #[{ on := 17, ground := Ground.data }, { on := 16, ground := Ground.guard }], guard := some (16, true) }) (v := undef) rfl (by kernel_rfl) (by kernel_rfl) (by kernel_rfl) (fun _ _ _ h => h) (Or.inr ⟨by rfl, rfl⟩) (by assumption) ?_
             try simp only [Act.put, List.setIfInBounds_toArray, List.set_cons_zero, List.set_cons_succ]
             refine wpAnyH_take (i := 19) (oi := { dst := some 32, op := Op.call { callee := Callee.value (Operand.func 65), args := #[Operand.tmp 31], argTypes := #[9] }, type := 4, pos := "frame.go:259", after := #[{ on := 18, ground := Ground.data }, { on := 16, ground := Ground.chain }, { on := 16, ground := Ground.guard }], guard := some (16, true) }) (v := undef) rfl (by kernel_rfl) (by kernel_rfl) (by kernel_rfl) (fun _ _ _ h => h) (Or.inr ⟨by rfl, rfl⟩) (by assumption) ?_
             try simp only [Act.put, List.setIfInBounds_toArray, List.set_cons_zero, List.set_cons_succ]
             refine wpAnyH_take (i := 20) (oi := { dst := some 33, op := Op.move (Operand.tmp 1), type := 9, pos := "frame.go:259", after := #[{ on := 16, ground := Ground.guard }], guard := some (16, true) }) (v := undef) rfl (by kernel_rfl) (by kernel_rfl) (by kernel_rfl) (fun _ _ _ h => h) (Or.inr ⟨by rfl, rfl⟩) (by assumption) ?_
             try simp only [Act.put, List.setIfInBounds_toArray, List.set_cons_zero, List.set_cons_succ]
             refine wpAnyH_take (i := 21) (oi := { dst := some 34, op := Op.call { callee := Callee.value (Operand.func 65), args := #[Operand.tmp 33], argTypes := #[9] }, type := 4, pos := "frame.go:259", after := #[{ on := 20, ground := Ground.data }, { on := 19, ground := Ground.chain }, { on := 16, ground := Ground.guard }], guard := some (16, true) }) (v := undef) rfl (by kernel_rfl) (by kernel_rfl) (by kernel_rfl) (fun _ _ _ h => h) (Or.inr ⟨by rfl, rfl⟩) (by assumption) ?_
             try simp only [Act.put, List.setIfInBounds_toArray, List.set_cons_zero, List.set_cons_succ]
             refine wpAnyH_take (i := 22) (oi := { dst := some 35, op := Op.binOp BinOp.eql 4 (Operand.tmp 32) (Operand.tmp 34) 4, type := 4, pos := "frame.go:259", after := #[{ on := 19, ground := Ground.data }, { on := 21, ground := Ground.data }, { on := 16, ground := Ground.guard }], guard := some (16, true) }) (v := undef) rfl (by kernel_rfl) (by kernel_rfl) (by kernel_rfl) (fun _ _ _ h => h) (Or.inr ⟨by rfl, rfl⟩) (by assumption) ?_
             try simp only [Act.put, List.setIfInBounds_toArray, List.set_cons_zero, List.set_cons_succ]
             refine wpAnyH_take (i := 23) (oi := { dst := some 36, op := Op.pick (Operand.tmp 29) (Operand.tmp 35) (Operand.const (Value.bool false)), type := 4, pos := "frame.go:259", after := #[{ on := 16, ground := Ground.data }, { on := 22, ground := Ground.data }, { on := 2, ground := Ground.guard }], guard := some (2, false) }) (v := ?_) rfl (by kernel_rfl) (by kernel_rfl) (by kernel_rfl) (fun _ _ _ h => h) (Or.inl ⟨by rfl, ?_⟩) (by assumption) ?_
             rotate_left
             · (intro w hSw; (try dsimp only at hSw); go_simp; try with_reducible rfl)
             try simp only [Act.put, List.setIfInBounds_toArray, List.set_cons_zero, List.set_cons_succ]
             refine wpAnyH_take (i := 24) (oi := { dst := some 37, op := Op.pick (Operand.tmp 15) (Operand.const (Value.bool true)) (Operand.tmp 36), type := 4, pos := "frame.go:259", after := #[{ on := 2, ground := Ground.data }, { on := 23, ground := Ground.data }], guard := none }) (v := ?_) rfl (by kernel_rfl) (by kernel_rfl) (by kernel_rfl) (fun _ _ _ h => h) (Or.inl ⟨by rfl, ?_⟩) (by assumption) ?_
             rotate_left
             · (intro w hSw; (try dsimp only at hSw); go_simp; try with_reducible rfl)
             try simp only [Act.put, List.setIfInBounds_toArray, List.set_cons_zero, List.set_cons_succ]
             refine wpAnyH_ready (rs := [25]) (by kernel_rfl) (by simp) ?_
             refine AllReadyH.cons (o := { dst := some 38, op := Op.call { callee := Callee.value (Operand.func 156), args := #[Operand.tmp 37], argTypes := #[4] }, type := 0, pos := "frame.go:259", after := #[{ on := 24, ground := Ground.data }, { on := 21, ground := Ground.chain }], guard := none }) rfl (fun K hK => ?_) AllReadyH.nil
             go_simp
             go_wp2_with ((go_at_call 156; refine (need_false _).mono ?_; rintro e w5 ⟨rfl, rfl⟩))
             exact ⟨rfl, rfl, gb_below (gb_drew (gb_refl w4 c)) hb6⟩
           | true =>
             have HD := Hd HDD.out
             have HR1 := Hd HRR.out
             have HR2 := Hd HRT.out
             clear HDD HRR HRT
             by_cases hee : E1 = E2
             · have HE2 := Hd (show arrF (wl l) t f = some h by rw [HE.out, HA.out, hee]; simp)
               subst hee
               have HG := Hd (fun (d : Nat) (os : Array Obj) => below_regrown w4 d os)
               have g0 := fun (d : Nat) (os : Array Obj) => HSC.out _ (HG.out d os)
               clear HE
               go_upto_region 3 with fail
               refine wp_region_quiet_below (by kernel_rfl) (by kernel_rfl) ?_
               repeat (first | go_big_quiet_step (first | with_reducible exact Calls.regrown_of (HD.out _ (HG.out _ _)) | with_reducible exact Calls.regrown_of ((HR1.out _).mono fun e w' h => ⟨h.1, by rw [← h.2]; exact Below.refl _ _⟩) | with_reducible exact Calls.regrown_of ((HR2.out _).mono fun e w' h => ⟨h.1, by rw [← h.2]; exact Below.refl _ _⟩) | with_reducible exact Calls.regrown_of ((need_true _).mono fun e w' h => ⟨h.1, by rw [h.2]; exact Below.refl _ _⟩)) | quiet_step (first | with_reducible exact Calls.regrown_of (HD.out _ (HG.out _ _)) | with_reducible exact Calls.regrown_of ((HR1.out _).mono fun e w' h => ⟨h.1, by rw [← h.2]; exact Below.refl _ _⟩) | with_reducible exact Calls.regrown_of ((HR2.out _).mono fun e w' h => ⟨h.1, by rw [← h.2]; exact Below.refl _ _⟩) | with_reducible exact Calls.regrown_of ((need_true _).mono fun e w' h => ⟨h.1, by rw [h.2]; exact Below.refl _ _⟩)))
               refine wpQuiet_nil ?_
               intro _ hw'
               obtain ⟨⟨dq, osq⟩, hw''⟩ := hw'
               subst hw''
               have HB5 := Hd (below_regrown w4 dq osq)
               clear g0
               go_wp2_with fail
               go_end0
               exact ⟨gb_below HG4.out HB5.out, Or.inr ⟨h, HE2.out, rfl, HS4.out.below HB5.out⟩⟩
             · have HE2 := Hd (show arrF (wl l) t f = none by
                 rw [HE.out, HA.out]
                 have : (E1 == E2) = false := by rw [beq_eq_false_iff_ne]; exact hee
                 rw [this]; rfl)
               have q5 : (E1 == E2) = false := by rw [beq_eq_false_iff_ne]; exact hee
               clear hee HE
               go_upto_region 3 with fail
               refine Code.wp_mono (Q := PanQ c w4) ?_ ?_
               · rintro e a' w' ⟨rfl, hd', hg'⟩
                 go_wp2_with fail
                 exact ⟨hd', gb_trans HG4.out hg', Or.inl ⟨HE2.out, rfl⟩⟩
               refine wp_region_held_drew (S := fun W' => W'.cell? ⟨c, 0, none⟩ = some (.map (some b))) (by kernel_rfl) ?_ (fun hHeld => ?_)
               · exact HSC.out _ (Below.refl _ _).drew
               refine wpAnyH_take (i := 0) (oi := { dst := some 13, op := Op.move (Operand.tmp 4), type := 9, pos := "frame.go:259", after := #[], guard := none }) (v := ?_) rfl (by kernel_rfl) (by kernel_rfl) (by kernel_rfl) (fun _ _ _ h => h) (Or.inl ⟨by rfl, ?_⟩) (by assumption) ?_
               rotate_left
               · (intro w hSw; (try dsimp only at hSw); go_simp; try with_reducible rfl)
               try simp only [Act.put, List.setIfInBounds_toArray, List.set_cons_zero, List.set_cons_succ]
               refine wpAnyH_take (i := 1) (oi := { dst := some 14, op := Op.binOp BinOp.eql 9 (Operand.tmp 13) (Operand.const (Value.string { data := #[78] })) 9, type := 4, pos := "frame.go:259", after := #[{ on := 0, ground := Ground.data }], guard := none }) (v := ?_) rfl (by kernel_rfl) (by kernel_rfl) (by kernel_rfl) (fun _ _ _ h => h) (Or.inl ⟨by rfl, ?_⟩) (by assumption) ?_
               rotate_left
               · (intro w hSw; (try dsimp only at hSw); go_simp; try with_reducible rfl)
               try simp only [Act.put, List.setIfInBounds_toArray, List.set_cons_zero, List.set_cons_succ]
               refine wpAnyH_take (i := 2) (oi := { dst := some 15, op := Op.move (Operand.tmp 14), type := 4, pos := "frame.go:259", after := #[{ on := 1, ground := Ground.data }], guard := none }) (v := ?_) rfl (by kernel_rfl) (by kernel_rfl) (by kernel_rfl) (fun _ _ _ h => h) (Or.inl ⟨by rfl, ?_⟩) (by assumption) ?_
               rotate_left
               · (intro w hSw; (try dsimp only at hSw); go_simp; try with_reducible rfl)
               try simp only [Act.put, List.setIfInBounds_toArray, List.set_cons_zero, List.set_cons_succ]
               refine wpAnyH_take (i := 3) (oi := { dst := some 16, op := Op.move (Operand.tmp 4), type := 9, pos := "frame.go:259", after := #[{ on := 2, ground := Ground.guard }], guard := some (2, false) }) (v := ?_) rfl (by kernel_rfl) (by kernel_rfl) (by kernel_rfl) (fun _ _ _ h => h) (Or.inl ⟨by rfl, ?_⟩) (by assumption) ?_
               rotate_left
               · (intro w hSw; (try dsimp only at hSw); go_simp; try with_reducible rfl)
               try simp only [Act.put, List.setIfInBounds_toArray, List.set_cons_zero, List.set_cons_succ]
               refine wpAnyH_take (i := 4) (oi := { dst := some 17, op := Op.index 9 (Operand.tmp 16) (Operand.const (Value.int IntKind.i64 0)), type := 5, pos := "frame.go:259", after := #[{ on := 3, ground := Ground.data }, { on := 2, ground := Ground.guard }], guard := some (2, false) }) (v := ?_) rfl (by kernel_rfl) (by kernel_rfl) (by kernel_rfl) (fun _ _ _ h => h) (Or.inl ⟨by rfl, ?_⟩) (by assumption) ?_
               rotate_left
               · (intro w hSw; (try dsimp only at hSw); go_simp; try with_reducible rfl)
               try simp only [Act.put, List.setIfInBounds_toArray, List.set_cons_zero, List.set_cons_succ]
               refine wpAnyH_take (i := 5) (oi := { dst := some 18, op := Op.binOp BinOp.eql 5 (Operand.tmp 17) (Operand.const (Value.int IntKind.u8 91)) 5, type := 4, pos := "frame.go:259", after := #[{ on := 4, ground := Ground.data }, { on := 2, ground := Ground.guard }], guard := some (2, false) }) (v := ?_) rfl (by kernel_rfl) (by kernel_rfl) (by kernel_rfl) (fun _ _ _ h => h) (Or.inl ⟨by rfl, ?_⟩) (by assumption) ?_
               rotate_left
               · (intro w hSw; (try dsimp only at hSw); go_simp; try with_reducible rfl)
               try simp only [Act.put, List.setIfInBounds_toArray, List.set_cons_zero, List.set_cons_succ]
               refine wpAnyH_take (i := 6) (oi := { dst := some 19, op := Op.move (Operand.tmp 18), type := 4, pos := "frame.go:259", after := #[{ on := 5, ground := Ground.data }, { on := 2, ground := Ground.chain }, { on := 2, ground := Ground.guard }], guard := some (2, false) }) (v := ?_) rfl (by kernel_rfl) (by kernel_rfl) (by kernel_rfl) (fun _ _ _ h => h) (Or.inl ⟨by rfl, ?_⟩) (by assumption) ?_
               rotate_left
               · (intro w hSw; (try dsimp only at hSw); go_simp; try with_reducible rfl)
               try simp only [Act.put, List.setIfInBounds_toArray, List.set_cons_zero, List.set_cons_succ]
               refine wpAnyH_take (i := 7) (oi := { dst := some 20, op := Op.move (Operand.tmp 0), type := 168, pos := "frame.go:259", after := #[{ on := 6, ground := Ground.guard }], guard := some (6, true) }) (v := ?_) rfl (by kernel_rfl) (by kernel_rfl) (by kernel_rfl) (fun _ _ _ h => h) (Or.inl ⟨by rfl, ?_⟩) (by assumption) ?_
               rotate_left
               · (intro w hSw; (try dsimp only at hSw); go_simp; try with_reducible rfl)
               try simp only [Act.put, List.setIfInBounds_toArray, List.set_cons_zero, List.set_cons_succ]
               refine wpAnyH_take (i := 8) (oi := { dst := some 21, op := Op.nilCheck (Operand.tmp 20), type := 0, pos := "frame.go:259", after := #[{ on := 7, ground := Ground.data }, { on := 6, ground := Ground.guard }], guard := some (6, true) }) (v := ?_) rfl (by kernel_rfl) (by kernel_rfl) (by kernel_rfl) (fun _ _ _ h => h) (Or.inl ⟨by rfl, ?_⟩) (by assumption) ?_
               rotate_left
               · (intro w hSw; (try dsimp only at hSw); go_simp; try with_reducible rfl)
               try simp only [Act.put, List.setIfInBounds_toArray, List.set_cons_zero, List.set_cons_succ]
               refine wpAnyH_take (i := 9) (oi := { dst := some 22, op := Op.fieldAddr 171 (Operand.tmp 21) 0, type := 0, pos := "frame.go:259", after := #[{ on := 8, ground := Ground.data }, { on := 6, ground := Ground.guard }], guard := some (6, true) }) (v := ?_) rfl (by kernel_rfl) (by kernel_rfl) (by kernel_rfl) (fun _ _ _ h => h) (Or.inl ⟨by rfl, ?_⟩) (by assumption) ?_
               rotate_left
               · (intro w hSw; (try dsimp only at hSw); go_simp; try with_reducible rfl)
               try simp only [Act.put, List.setIfInBounds_toArray, List.set_cons_zero, List.set_cons_succ]
               refine wpAnyH_take (i := 10) (oi := { dst := some 23, op := Op.load 88 (Operand.tmp 22), type := 88, pos := "frame.go:259", after := #[{ on := 9, ground := Ground.data }, { on := 6, ground := Ground.guard }], guard := some (6, true) }) (v := ?_) rfl (by kernel_rfl) (by kernel_rfl) (by kernel_rfl) (fun _ _ _ h => h) (Or.inl ⟨by rfl, ?_⟩) (by assumption) ?_
               rotate_left
               · (intro w hSw; (try dsimp only at hSw); go_simp; try with_reducible rfl)
               try simp only [Act.put, List.setIfInBounds_toArray, List.set_cons_zero, List.set_cons_succ]
               refine wpAnyH_take (i := 11) (oi := { dst := some 24, op := Op.move (Operand.tmp 4), type := 9, pos := "frame.go:259", after := #[{ on := 6, ground := Ground.guard }], guard := some (6, true) }) (v := ?_) rfl (by kernel_rfl) (by kernel_rfl) (by kernel_rfl) (fun _ _ _ h => h) (Or.inl ⟨by rfl, ?_⟩) (by assumption) ?_
               rotate_left
               · (intro w hSw; (try dsimp only at hSw); go_simp; try with_reducible rfl)
               try simp only [Act.put, List.setIfInBounds_toArray, List.set_cons_zero, List.set_cons_succ]
               refine wpAnyH_take (i := 13) (oi := { dst := some 26, op := Op.move (Operand.tmp 1), type := 9, pos := "frame.go:259", after := #[{ on := 6, ground := Ground.guard }], guard := some (6, true) }) (v := ?_) rfl (by kernel_rfl) (by kernel_rfl) (by kernel_rfl) (fun _ _ _ h => h) (Or.inl ⟨by rfl, ?_⟩) (by assumption) ?_
               rotate_left
               · (intro w hSw; (try dsimp only at hSw); go_simp; try with_reducible rfl)
               try simp only [Act.put, List.setIfInBounds_toArray, List.set_cons_zero, List.set_cons_succ]
               refine wpAnyH_ready (rs := [12]) (by kernel_rfl) (by simp) ?_
               refine AllReadyH.cons (o := { dst := some 25, op := Op.slice 9 (Operand.tmp 24) (some (Operand.const (Value.int IntKind.i64 1))) none none, type := 9, pos := "frame.go:259", after := #[{ on := 11, ground := Ground.data }, { on := 6, ground := Ground.guard }], guard := some (6, true) }) rfl (fun K hK => ?_) AllReadyH.nil
               go_simp
               try go_wp2_with fail
               refine hK.out _ _ ?_ (fun hHeld => ?_)
               · exact HSC.out _ (Below.refl _ _).drew
               clear hK K
               try simp only [Act.put, List.setIfInBounds_toArray, List.set_cons_zero, List.set_cons_succ]
               refine wpAnyH_ready (rs := [14]) (by kernel_rfl) (by simp) ?_
               refine AllReadyH.cons (o := { dst := some 27, op := Op.call { callee := Callee.value (Operand.func 66), args := #[Operand.tmp 23, Operand.tmp 25, Operand.tmp 26], argTypes := #[88, 9, 9] }, type := 4, pos := "frame.go:259", after := #[{ on := 10, ground := Ground.data }, { on := 12, ground := Ground.data }, { on := 13, ground := Ground.data }, { on := 6, ground := Ground.chain }, { on := 6, ground := Ground.guard }], guard := some (6, true) }) rfl (fun K hK => ?_) AllReadyH.nil
               go_simp
               go_wp2_with ((go_at_call 66; refine (HD.out _ (Below.refl _ _).drew).mono ?_; rintro e w6 ⟨rfl, hb6⟩))
               refine hK.out _ _ ?_ (fun hHeld => ?_)
               · exact HSC.out _ (bl_trans (Below.refl _ _).drew hb6)
               clear hK K
               try simp only [Act.put, List.setIfInBounds_toArray, List.set_cons_zero, List.set_cons_succ]
               refine wpAnyH_take (i := 15) (oi := { dst := some 28, op := Op.pick (Operand.tmp 19) (Operand.tmp 27) (Operand.const (Value.bool false)), type := 4, pos := "frame.go:259", after := #[{ on := 6, ground := Ground.data }, { on := 14, ground := Ground.data }, { on := 2, ground := Ground.guard }], guard := some (2, false) }) (v := ?_) rfl (by kernel_rfl) (by kernel_rfl) (by kernel_rfl) (fun _ _ _ h => h) (Or.inl ⟨by rfl, ?_⟩) (by assumption) ?_
               rotate_left
               · (intro w hSw; (try dsimp only at hSw); go_simp; try with_reducible rfl)
               try simp only [Act.put, List.setIfInBounds_toArray, List.set_cons_zero, List.set_cons_succ]
               refine wpAnyH_take (i := 16) (oi := { dst := some 29, op := Op.move (Operand.tmp 28), type := 4, pos := "frame.go:259", after := #[{ on := 15, ground := Ground.data }, { on := 14, ground := Ground.chain }, { on := 2, ground := Ground.guard }], guard := some (2, false) }) (v := ?_) rfl (by kernel_rfl) (by kernel_rfl) (by kernel_rfl) (fun _ _ _ h => h) (Or.inl ⟨by rfl, ?_⟩) (by assumption) ?_
               rotate_left
               · (intro w hSw; (try dsimp only at hSw); go_simp; try with_reducible rfl)
               try simp only [Act.put, List.setIfInBounds_toArray, List.set_cons_zero, List.set_cons_succ]
               refine wpAnyH_take (i := 17) (oi := { dst := some 30, op := Op.move (Operand.tmp 4), type := 9, pos := "frame.go:259", after := #[{ on := 16, ground := Ground.guard }], guard := some (16, true) }) (v := ?_) rfl (by kernel_rfl) (by kernel_rfl) (by kernel_rfl) (fun _ _ _ h => h) (Or.inl ⟨by rfl, ?_⟩) (by assumption) ?_
               rotate_left
               · (intro w hSw; (try dsimp only at hSw); go_simp; try with_reducible rfl)
               try simp only [Act.put, List.setIfInBounds_toArray, List.set_cons_zero, List.set_cons_succ]
               refine wpAnyH_take (i := 20) (oi := { dst := some 33, op := Op.move (Operand.tmp 1), type := 9, pos := "frame.go:259", after := #[{ on := 16, ground := Ground.guard }], guard := some (16, true) }) (v := ?_) rfl (by kernel_rfl) (by kernel_rfl) (by kernel_rfl) (fun _ _ _ h => h) (Or.inl ⟨by rfl, ?_⟩) (by assumption) ?_
               rotate_left
               · (intro w hSw; (try dsimp only at hSw); go_simp; try with_reducible rfl)
               try simp only [Act.put, List.setIfInBounds_toArray, List.set_cons_zero, List.set_cons_succ]
               refine wpAnyH_ready (rs := [18]) (by kernel_rfl) (by simp) ?_
               refine AllReadyH.cons (o := { dst := some 31, op := Op.slice 9 (Operand.tmp 30) (some (Operand.const (Value.int IntKind.i64 1))) none none, type := 9, pos := "frame.go:259", after := #[{ on := 17, ground := Ground.data }, { on := 16, ground := Ground.guard }], guard := some (16, true) }) rfl (fun K hK => ?_) AllReadyH.nil
               go_simp
               try go_wp2_with fail
               refine hK.out _ _ ?_ (fun hHeld => ?_)
               · exact HSC.out _ (bl_trans (Below.refl _ _).drew hb6)
               clear hK K
               try simp only [Act.put, List.setIfInBounds_toArray, List.set_cons_zero, List.set_cons_succ]
               refine wpAnyH_ready (rs := [19]) (by kernel_rfl) (by simp) ?_
               refine AllReadyH.cons (o := { dst := some 32, op := Op.call { callee := Callee.value (Operand.func 65), args := #[Operand.tmp 31], argTypes := #[9] }, type := 4, pos := "frame.go:259", after := #[{ on := 18, ground := Ground.data }, { on := 16, ground := Ground.chain }, { on := 16, ground := Ground.guard }], guard := some (16, true) }) rfl (fun K hK => ?_) AllReadyH.nil
               go_simp
               go_wp2_with ((go_at_call 65; refine (HR1.out _).mono ?_; rintro e w7 ⟨rfl, rfl⟩))
               refine hK.out _ _ ?_ (fun hHeld => ?_)
               · exact HSC.out _ (bl_trans (Below.refl _ _).drew hb6)
               clear hK K
               try simp only [Act.put, List.setIfInBounds_toArray, List.set_cons_zero, List.set_cons_succ]
               refine wpAnyH_ready (rs := [21]) (by kernel_rfl) (by simp) ?_
               refine AllReadyH.cons (o := { dst := some 34, op := Op.call { callee := Callee.value (Operand.func 65), args := #[Operand.tmp 33], argTypes := #[9] }, type := 4, pos := "frame.go:259", after := #[{ on := 20, ground := Ground.data }, { on := 19, ground := Ground.chain }, { on := 16, ground := Ground.guard }], guard := some (16, true) }) rfl (fun K hK => ?_) AllReadyH.nil
               go_simp
               go_wp2_with ((go_at_call 65; refine (HR2.out _).mono ?_; rintro e w8 ⟨rfl, rfl⟩))
               refine hK.out _ _ ?_ (fun hHeld => ?_)
               · exact HSC.out _ (bl_trans (Below.refl _ _).drew hb6)
               clear hK K
               try simp only [Act.put, List.setIfInBounds_toArray, List.set_cons_zero, List.set_cons_succ]
               refine wpAnyH_take (i := 22) (oi := { dst := some 35, op := Op.binOp BinOp.eql 4 (Operand.tmp 32) (Operand.tmp 34) 4, type := 4, pos := "frame.go:259", after := #[{ on := 19, ground := Ground.data }, { on := 21, ground := Ground.data }, { on := 16, ground := Ground.guard }], guard := some (16, true) }) (v := ?_) rfl (by kernel_rfl) (by kernel_rfl) (by kernel_rfl) (fun _ _ _ h => h) (Or.inl ⟨by rfl, ?_⟩) (by assumption) ?_
               rotate_left
               · (intro w hSw; (try dsimp only at hSw); go_simp; try with_reducible rfl)
               try simp only [Act.put, List.setIfInBounds_toArray, List.set_cons_zero, List.set_cons_succ]
               refine wpAnyH_take (i := 23) (oi := { dst := some 36, op := Op.pick (Operand.tmp 29) (Operand.tmp 35) (Operand.const (Value.bool false)), type := 4, pos := "frame.go:259", after := #[{ on := 16, ground := Ground.data }, { on := 22, ground := Ground.data }, { on := 2, ground := Ground.guard }], guard := some (2, false) }) (v := ?_) rfl (by kernel_rfl) (by kernel_rfl) (by kernel_rfl) (fun _ _ _ h => h) (Or.inl ⟨by rfl, ?_⟩) (by assumption) ?_
               rotate_left
               · (intro w hSw; (try dsimp only at hSw); go_simp; try with_reducible rfl)
               try simp only [Act.put, List.setIfInBounds_toArray, List.set_cons_zero, List.set_cons_succ]
               refine wpAnyH_take (i := 24) (oi := { dst := some 37, op := Op.pick (Operand.tmp 15) (Operand.const (Value.bool true)) (Operand.tmp 36), type := 4, pos := "frame.go:259", after := #[{ on := 2, ground := Ground.data }, { on := 23, ground := Ground.data }], guard := none }) (v := ?_) rfl (by kernel_rfl) (by kernel_rfl) (by kernel_rfl) (fun _ _ _ h => h) (Or.inl ⟨by rfl, ?_⟩) (by assumption) ?_
               rotate_left
               · (intro w hSw; (try dsimp only at hSw); go_simp; try with_reducible rfl)
               try simp only [Act.put, List.setIfInBounds_toArray, List.set_cons_zero, List.set_cons_succ]
               refine wpAnyH_ready (rs := [25]) (by kernel_rfl) (by simp) ?_
               refine AllReadyH.cons (o := { dst := some 38, op := Op.call { callee := Callee.value (Operand.func 156), args := #[Operand.tmp 37], argTypes := #[4] }, type := 0, pos := "frame.go:259", after := #[{ on := 24, ground := Ground.data }, { on := 21, ground := Ground.chain }], guard := none }) rfl (fun K hK => ?_) AllReadyH.nil
               go_simp
               go_wp2_with ((go_at_call 156; refine (need_false _).mono ?_; rintro e w5 ⟨rfl, rfl⟩))
               exact ⟨rfl, rfl, gb_below (gb_drew (gb_refl w4 c)) hb6⟩
 · rw [if_neg hk] at HKN
   have HE := Hd (arr_bad (f := f) hk)
   clear hW hb hs hk ht
   go_enter Tryz.func163, Tryz.ntmps163
   go_wp2_with fail
   refine HKN.out.mono ?_
   rintro e w2 ⟨rfl, hb2⟩
   have HG2 := Hd (gb_below (gb_refl w c) hb2)
   clear hb2
   go_wp2_with fail
   exact ⟨rfl, HG2.out, Or.inl ⟨HE.out, rfl⟩⟩
def zeroF : FieldR := ⟨[], []⟩
def fArr (f : FieldR) : Array Value := #[.string ⟨⟨f.nm⟩⟩, .string ⟨⟨f.ty⟩⟩]
theorem fArr_one (f : FieldR) : (fArr f).all (·.oneCell') = true := by simp [fArr, Value.oneCell']
theorem info_field : (Tryz.prog.info? 210).map (·.size) = some 2 := by kernel_rfl
theorem fld_at {L : List CP} (n x : Nm) : fldAt (CL L) n x = ((curP L x).1.fields.find? (fHit n)).map fun f => (x, f) := by
 unfold fldAt
 rw [cur_is]
 cases look (CL L) x with
 | none => rfl
 | some c => rfl
def FofRes (r : Option (Nm × FieldR)) (w : World) (e : Ending) (w' : World) : Prop :=
 Below w.heap.size w w' ∧ ((r = none ∧ e = .returned (.tuple #[.string ⟨#[]⟩, fieldV zeroF, .bool false])) ∨
   ∃ x f, r = some (x, f) ∧ e = .returned (.tuple #[.string ⟨⟨x⟩⟩, fieldV f, .bool true]))
theorem fof_calls (l : List ClassR) (L : List CP) (b : Nat) (c n : Nm) (w : World) (hW : WOk w b l L) (hc : c.length ≤ 1048576) :
   Calls Tryz.prog 206 #[.map (some b), .string ⟨⟨c⟩⟩, .string ⟨⟨n⟩⟩] w (FofRes (fieldOf (wl l) c n) w) := by
 have HW := Hd hW
 have hcl := Hd hW.cl
 have hg := Hd hW.good
 have hml : (1048576 : Nat) ≤ maxLen := by unfold maxLen; omega
 have hl13 := line_len13 hg.out c
 have HLE := Hd (fun x (h : x ∈ line (wl l) c) => show x.length ≤ 1048576 by
   rcases rc_names hg.out.join ((line_rs hg.out _ _).1 h).rc with e | e
   · rw [e]; exact hc
   · have := good_names20 hg.out e; omega)
 have HFO := Hd (show fieldOf (wl l) c n = (line (wl l) c).findSome? (fldAt (wl l) n) from rfl)
 clear hW
 go_enter Tryz.func206, Tryz.ntmps206
 go_wp2_with fail
 refine (line_w (HW.out.below ((Below.refl _ _).alloc (Nat.le_refl _) _)) c hc).mono ?_
 rintro e w2 ⟨⟨v, rfl, ho⟩, hb2⟩
 obtain ⟨A2, C2, rfl, hr2⟩ := srow_of_own ho
 have HR2 := Hd hr2
 have HB2 := Hd (bl_trans ((Below.refl _ _).alloc (Nat.le_refl _) _) hb2)
 have HW2 := Hd (HW.out.below HB2.out)
 have HZ2 := Hd (show Blk w2 w.heap.size 210 (fArr zeroF) from (blk_new w w.heap.size 210 (fArr zeroF) rfl).below hb2)
 have hs2 := HB2.out.size
 have hz2 := HZ2.out.lt
 clear ho hr2 hb2
 generalize line (wl l) c = ln at *
 go_wp2_with fail
 go_loopw [17] (fun i wr => ∃ j : Nat, j ≤ ln.length ∧ i = .int .i64 j ∧ Below w2.heap.size w2 wr ∧ Hid (∀ x ∈ ln.take j, fldAt (wl l) n x = none)) (fun i _ => ln.length - (RowKit.intOf i).toNat)
 case atStart => exact ⟨0, by omega, rfl, Below.refl _ _, Hd (by simp)⟩
 case round =>
   obtain ⟨j, hj, rfl, hb, HA⟩ := hrel
   have HB := Hd hb
   have hsz := hb.size
   by_cases hlk : j < ln.length
   · obtain ⟨x, hx⟩ : ∃ x, ln[j]? = some x := ⟨_, List.getElem?_eq_getElem hlk⟩
     obtain ⟨b1, off, rfl, hlt, c0⟩ := strs_cell (HR2.out.below hb) hx
     have hxl := HLE.out x (List.mem_of_getElem? hx)
     have hlkx := cur_look (n := x) (HW2.out.below hb).at_ (Nat.le_trans hxl hml)
     have hmb := (cur_bounds HW.out x).2.2.2.1
     have HX := Hd hx
     have HCA := Hd (cur_at HW2.out.at_ x).2.1
     have HFA := Hd (fld_at (L := L) n x)
     rw [hcl.out] at HFA
     clear hb hx
     generalize curP L x = cx at *
     obtain ⟨cc, ⟨fa, fc, ga, gc, ma, mc, pms⟩⟩ := cx
     dsimp only at *
     obtain ⟨w3, hw3⟩ : ∃ w3, w3 = wr := ⟨wr, rfl⟩
     subst hw3
     go_wp2_with fail
     go_loopw [26] (fun i wr => ∃ k : Nat, k ≤ cc.fields.length ∧ i = .int .i64 k ∧ Below w2.heap.size w2 wr ∧ Hid (∀ f ∈ cc.fields.take k, fHit n f = false)) (fun i _ => cc.fields.length - (RowKit.intOf i).toNat)
     case atStart => exact ⟨0, by omega, rfl, HB.out, Hd (by simp)⟩
     case round =>
       obtain ⟨k, hk, rfl, hb, HZ⟩ := hrel
       have HBQ := Hd hb
       have hsq := hb.size
       by_cases hkm : k < cc.fields.length
       · obtain ⟨f, hf⟩ : ∃ f, cc.fields[k]? = some f := ⟨_, List.getElem?_eq_getElem hkm⟩
         obtain ⟨b3, off3, hga, hlt3, c1, c2⟩ := (HCA.out.below hb).cells hf
         subst hga
         have HF := Hd hf
         clear hb hf
         cases h1 : f.nm == n with
         | false =>
           have HZ2' := Hd (take_all_succ (P := fun f => fHit n f = false) HZ.out HF.out (by unfold fHit; exact h1))
           go_wp2_with fail
           go_roundw
           case rel => exact ⟨k + 1, by omega, by go_num, HBQ.out.alloc hsq _, HZ2'⟩
           case measure => simp [RowKit.intOf]; omega
         | true =>
           have HH := Hd (show (ln.findSome? (fldAt (wl l) n)) = some (x, f) from some_at HA.out HX.out (by rw [HFA.out, find_at HZ.out HF.out (by unfold fHit; exact h1)]; rfl))
           have HZ6 := Hd (HZ2.out.below HBQ.out)
           have e1 := eq_of_beq h1
           clear h1
           subst e1
           go_wp2_with fail
           refine wp_tail 3 (by kernel_rfl) (by kernel_rfl) ?_
           simp only [List.take_succ_cons, List.take_zero, List.drop_succ_cons, List.drop_zero]
           repeat still_step
           refine wpStill_nil ?_
           go_wp2_with (refine wpList_store_blk (x := .tmp 7) (y := .tmp 35) (ty := 210) (g := w.heap.size) (cells := fArr f) (by rfl) (by rfl) (by rfl) (by rfl) (HZ6.out.below ((Below.refl _ _).alloc (Nat.le_refl _) _)).drew info_field rfl (fArr_one f) ?_)
           intro W2 hbk hgr
           have d0 : W2.cell? ⟨w.heap.size, 0, none⟩ = some (.string ⟨⟨f.nm⟩⟩) := hbk.cell 0
           have d1 : W2.cell? ⟨w.heap.size, 1, none⟩ = some (.string ⟨⟨f.ty⟩⟩) := hbk.cell 1
           have HB9 := Hd (below_grown (HB2.out.trans ((HBQ.out.alloc hsq _).drew.mono hs2)) hgr (Nat.le_refl _) (by simp; omega))
           clear hbk hgr
           go_wp2_with fail
           exact bodyPost_ret (v := .tuple #[.string ⟨⟨x⟩⟩, fieldV f, .bool true]) (by simp [results, Tryz.results206, go_sem, d0, d1, fieldV]) rfl ⟨HB9.out, Or.inr ⟨x, f, by rw [HFO.out]; exact HH.out, rfl⟩⟩
       · obtain rfl : k = cc.fields.length := by omega
         have HA2 := Hd (take_all_succ (P := fun x => fldAt (wl l) n x = none) HA.out HX.out (by rw [HFA.out, find_none (by have := HZ.out; rwa [List.take_length] at this)]; rfl))
         clear hb
         go_wp2_with fail
         go_roundw
         case rel => exact ⟨j + 1, by omega, by go_num, HBQ.out, HA2⟩
         case measure => simp [RowKit.intOf]; omega
   · obtain rfl : j = ln.length := by omega
     have HH := Hd (show (ln.findSome? (fldAt (wl l) n)) = none from none_all (by have := HA.out; rwa [List.take_length] at this))
     have HZ6 := Hd (HZ2.out.below HB.out)
     clear hb
     go_wp2_with (refine wpList_store_blk (x := .tmp 7) (y := .tmp 38) (ty := 210) (g := w.heap.size) (cells := fArr zeroF) (by rfl) (by rfl) (by rfl) (by rfl) HZ6.out info_field rfl (fArr_one zeroF) ?_)
     intro W2 hbk hgr
     have d0 : W2.cell? ⟨w.heap.size, 0, none⟩ = some (.string ⟨#[]⟩) := hbk.cell 0
     have d1 : W2.cell? ⟨w.heap.size, 1, none⟩ = some (.string ⟨#[]⟩) := hbk.cell 1
     have HB9 := Hd (below_grown (HB2.out.trans (HB.out.mono hs2)) hgr (Nat.le_refl _) (by omega))
     clear hbk hgr
     go_wp2_with fail
     exact bodyPost_ret (v := .tuple #[.string ⟨#[]⟩, fieldV zeroF, .bool false]) (by simp [results, Tryz.results206, go_sem, d0, d1, fieldV, zeroF]) rfl ⟨HB9.out, Or.inl ⟨by rw [HFO.out]; exact HH.out, rfl⟩⟩
def insArr (x : InsR) : Array Value := #[.int .i64 x.op, .int .i64 x.a, .int .i64 x.b, .string ⟨⟨x.ty⟩⟩, .string ⟨⟨x.cl⟩⟩, .string ⟨⟨x.nm⟩⟩]
def FldTRes (L : List ClassR) (r : Option Nm) (f : FrR) (B c b : Nat) (fr gv : Nm) (w : World) (e : Ending) (w' : World) : Prop :=
 w.grownBy w' (some c) ∧ ((r = none ∧ e = .panicked unfitP) ∨ ∃ t, r = some t ∧ e = .returned (.string ⟨⟨t⟩⟩) ∧ kindErr L t = 0 ∧ Stp L w' B c b fr gv f)
theorem fld_bad {L : List ClassR} {c n : Nm} (h : kindErr L (thing c) ≠ 0) : fldF L c n = none := by unfold fldF; rw [if_pos h]
theorem fld_none {L : List ClassR} {c n : Nm} (h : fieldOf L c n = none) : fldF L c n = none := by unfold fldF; rw [h]; split <;> rfl
theorem fld_some {L : List ClassR} {c n x : Nm} {fd : FieldR} (h0 : kindErr L (thing c) = 0) (h : fieldOf L c n = some (x, fd)) : fldF L c n = if kindErr L fd.ty ≠ 0 then none else some fd.ty := by
 unfold fldF; rw [h, if_neg (by simpa using h0)]; rfl
theorem field_types2 {c : ClassR} (h : classErr c = 0) : ∀ f ∈ c.fields, TypeOk f.ty := by
 intro f hf
 obtain ⟨j, hj⟩ := List.getElem?_of_mem hf
 have := (classErr_ok h).2.2.2.1 j (List.getElem?_eq_some_iff.1 hj).1
 unfold fieldErr at this
 rw [hj] at this
 simp only [Option.elim_some] at this
 split at this
 · omega
 · rename_i h1
   exact Classical.not_not.1 fun h2 => h1 (Or.inr h2)
theorem fieldOf_ty {l : List ClassR} (hg : Good l) {c n x : Nm} {fd : FieldR} (h : fieldOf (wl l) c n = some (x, fd)) : TypeOk fd.ty := by
 have hm := (fieldOf_mem h).2
 unfold slotsF at hm
 obtain ⟨c2, _, hc⟩ := List.mem_flatMap.1 hm
 unfold addF at hc
 obtain ⟨g, hg2, e⟩ := List.mem_map.1 hc
 simp only [Prod.mk.injEq] at e
 obtain ⟨_, rfl⟩ := e
 unfold fieldsAt at hg2
 cases hl : look (wl l) c2 with
 | none => rw [hl] at hg2; cases hg2
 | some d =>
   rw [hl] at hg2
   have hd := (find_name hl).2
   unfold wl at hd
   simp only [List.mem_cons] at hd
   rcases hd with rfl | rfl | hd
   · cases hg2
   · cases hg2
   · exact field_types2 (hg.ok d hd) g hg2
theorem type_len25 {t : Nm} (h : TypeOk t) : t.length ≤ 25 := by
 obtain ⟨d, b, rfl, hd, hn⟩ := type_kd.1 h
 cases b with
 | int => simp [Kd.text, Bse.text]; omega
 | long => simp [Kd.text, Bse.text]; omega
 | cls n => have := (name_len (hn n rfl)).2; simp [Kd.text, Bse.text]; omega
theorem bl_setn {w3 w : World} (h : Below w3.heap.size w3 w) (j : Nat) (u : Value) : Below w3.heap.size w3 (w.setCell ⟨w3.heap.size, j, none⟩ u) := h.setCell (p := ⟨w3.heap.size, j, none⟩) (Nat.le_refl _) u
theorem field_calls_stp (l : List ClassR) (L : List CP) (b c : Nat) (fr gv : Nm) (f : FrR) (x : InsR) (w0 w : World) (hW : WOk w0 b l L) (hb : Below w0.heap.size w0 w) (hs : Stp (wl l) w w0.heap.size c b fr gv f) (hcl : x.cl.length ≤ 20) :
   Calls Tryz.prog 162 #[.pointer (some ⟨c, 0, none⟩), insV x] w (FldTRes (wl l) (fldF (wl l) x.cl x.nm) f w0.heap.size c b fr gv w) := by
 obtain ⟨op, ia, ib, ty, cl, nm⟩ := x
 obtain ⟨w1, hw1⟩ : ∃ w1, w1 = w.alloc (.cells (insArr ⟨op, ia, ib, ty, cl, nm⟩) 40) := ⟨_, rfl⟩
 have hal : Below w.heap.size w w1 := by rw [hw1]; exact bl_alloc (Below.refl _ _) _
 have HX := Hd (show Blk w1 w.heap.size 40 #[.int .i64 op, .int .i64 ia, .int .i64 ib, .string ⟨⟨ty⟩⟩, .string ⟨⟨cl⟩⟩, .string ⟨⟨nm⟩⟩] by rw [hw1]; exact blk_new _ _ _ _ rfl)
 have HG1 := Hd (gb_below (gb_refl w c) hal)
 have HB1 := Hd (hb.trans (hal.mono hb.size))
 have HS1 := Hd (hs.below hal)
 have HW := Hd hW
 have HB := Hd hb
 have HCB := Hd hs.cB
 dsimp only at hcl ⊢
 have htl : (thing cl).length ≤ 8388608 := by simp [thing]; omega
 have HTH := Hd (fun w => thing_calls cl (by omega) w)
 have HKN := Hd (known_calls l L b c w0.heap.size fr gv f (thing cl) w0 w1 hW rfl HB1.out HS1.out htl)
 have HGD := Hd hW.good
 have HFO := Hd (fun W (hw : Below w0.heap.size w0 W) => fof_calls l L b cl nm W (hW.below hw) (by omega))
 unfold insArr at hw1
 unfold insV
 clear hW hb hs hal htl
 by_cases hk : kindErr (wl l) (thing cl) = 0
 · rw [if_pos hk] at HKN
   have HKT := Hd hk
   clear hk
   have e0 := HX.out.cell 4
   have e1 := HX.out.lt
   go_enter Tryz.func162, Tryz.ntmps162
   go_upto_region 1 with fail
   rw [← hw1]
   clear hw1
   go_wp2_with fail
   refine (HTH.out _).mono ?_
   rintro e w2 ⟨rfl, rfl⟩
   go_wp2_with fail
   refine HKN.out.mono ?_
   rintro e w3 ⟨rfl, hb3⟩
   have HG3 := Hd (gb_below HG1.out hb3)
   have HB3 := Hd (gb_to_below HB.out HG3.out HCB.out)
   have HS3 := Hd (HS1.out.below hb3)
   have HX3 := Hd (HX.out.below hb3)
   clear hb3 e0 e1
   have HSC := Hd (fun W (hw : Below w3.heap.size w3 W) => (show W.cell? ⟨c, 0, none⟩ = some (.map (some b)) ∧ W.cell? ⟨w.heap.size, 4, none⟩ = some (.string ⟨⟨cl⟩⟩) ∧ W.cell? ⟨w.heap.size, 5, none⟩ = some (.string ⟨⟨nm⟩⟩) from ⟨(HS3.out.below hw).cell0, (HX3.out.below hw).cell 4, (HX3.out.below hw).cell 5⟩))
   cases hf : fieldOf (wl l) cl nm with
   | none =>
     have HFS := Hd (show ∀ W, Below w0.heap.size w0 W → Calls Tryz.prog 206 #[.map (some b), .string ⟨⟨cl⟩⟩, .string ⟨⟨nm⟩⟩] W fun e w' => e = .returned (.tuple #[.string ⟨#[]⟩, .agg #[.string ⟨#[]⟩, .string ⟨#[]⟩], .bool false]) ∧ Below W.heap.size W w' from fun W hw => (HFO.out W hw).mono (fun e w' ⟨hb, h⟩ => by
       rcases h with ⟨_, h⟩ | ⟨x, f2, h, he⟩
       · exact ⟨h, hb⟩
       · rw [hf] at h; cases h))
     have HE := Hd (fld_none hf)
     clear hf
     have HAL := Hd (show Below w3.heap.size w3 (w3.alloc (.cells #[.string ⟨#[]⟩, .string ⟨#[]⟩] 210)).drew from (bl_alloc (Below.refl _ _) _).drew)
     have HZ1 := Hd (show Blk (w3.alloc (.cells #[.string ⟨#[]⟩, .string ⟨#[]⟩] 210)).drew w3.heap.size 210 #[.string ⟨#[]⟩, .string ⟨#[]⟩] from blk_new _ _ _ _ rfl)
     go_upto_region 2 with fail
     go_region_held3 (fun W' => W'.cell? ⟨c, 0, none⟩ = some (.map (some b)) ∧ W'.cell? ⟨w.heap.size, 4, none⟩ = some (.string ⟨⟨cl⟩⟩) ∧ W'.cell? ⟨w.heap.size, 5, none⟩ = some (.string ⟨⟨nm⟩⟩))
       (first | exact HSC.out _ (Below.refl _ _) | exact HSC.out _ (Below.refl _ _).drew | exact HSC.out _ HAL.out | exact HSC.out _ (bl_alloc (Below.refl _ _) _) | exact HSC.out _ hb34 | exact HSC.out _ (bl_alloc hb34 _) | exact HSC.out _ (bl_setn hb34 _ _) | exact HSC.out _ (bl_setn (bl_setn hb34 _ _) _ _))
       ((first
       | (go_at_call 206
          with_reducible refine (HFS.out w3.drew (HB3.out.trans ((Below.refl _ _).drew.mono HB3.out.size))).mono ?_
          rintro e w4 ⟨rfl, hb4⟩
          have hb34 := bl_trans (Below.refl w3.heap.size w3).drew hb4)
       | (go_at_call 206
          with_reducible refine (HFS.out (w3.alloc (.cells #[.string ⟨#[]⟩, .string ⟨#[]⟩] 210)).drew (HB3.out.trans (HAL.out.mono HB3.out.size))).mono ?_
          rintro e w4 ⟨rfl, hb4⟩
          have hb34 := bl_trans HAL.out hb4
          have hk4 := HZ1.out.below hb4
          have z0 := hk4.cell 0
          have z1 := hk4.cell 1
          have z2 := hk4.frozen 0
          have z3 := hk4.frozen 1
          have z4 := hk4.lt)))
     all_goals
       (first
       | (obtain ⟨w5, hw5⟩ : ∃ w5, w5 = w4.alloc (.cells #[.string ⟨#[]⟩, .string ⟨#[]⟩] 210) := ⟨_, rfl⟩
          rw [← hw5]
          have hk5 : Blk w5 w4.heap.size 210 #[.string ⟨#[]⟩, .string ⟨#[]⟩] := by rw [hw5]; exact blk_new _ _ _ _ rfl
          have hb5 : Below w3.heap.size w3 w5 := by rw [hw5]; exact bl_alloc hb34 _
          clear hw5)
       | (obtain ⟨w5, hw5⟩ : ∃ w5, w5 = (w4.setCell ⟨w3.heap.size, 0, none⟩ (.string ⟨#[]⟩)).setCell ⟨w3.heap.size, 1, none⟩ (.string ⟨#[]⟩) := ⟨_, rfl⟩
          rw [← hw5]
          have hk5 : Blk w5 w3.heap.size 210 #[.string ⟨#[]⟩, .string ⟨#[]⟩] := by rw [hw5]; exact blk_set (blk_set hk4 0 _) 1 _
          have hb5 : Below w3.heap.size w3 w5 := by rw [hw5]; exact bl_setn (bl_setn hb34 _ _) _ _
          clear hw5 z0 z1 z2 z3 z4 hk4))
       have HB5 := Hd hb5
       clear hb5 hb34 hb4 hk5 HSC HAL HZ1
       go_wp2_with fail
       refine (need_false _).mono ?_
       rintro e w6 ⟨rfl, rfl⟩
       go_wp2_with fail
       exact ⟨rfl, gb_below HG3.out HB5.out, Or.inl ⟨HE.out, rfl⟩⟩
   | some p =>
     obtain ⟨y, fd⟩ := p
     have HFS := Hd (show ∀ W, Below w0.heap.size w0 W → Calls Tryz.prog 206 #[.map (some b), .string ⟨⟨cl⟩⟩, .string ⟨⟨nm⟩⟩] W fun e w' => e = .returned (.tuple #[.string ⟨⟨y⟩⟩, .agg #[.string ⟨⟨fd.nm⟩⟩, .string ⟨⟨fd.ty⟩⟩], .bool true]) ∧ Below W.heap.size W w' from fun W hw => (HFO.out W hw).mono (fun e w' ⟨hb, h⟩ => by
       rcases h with ⟨h, _⟩ | ⟨x, f2, h, he⟩
       · rw [hf] at h; cases h
       · rw [hf] at h
         simp only [Option.some.injEq, Prod.mk.injEq] at h
         obtain ⟨rfl, rfl⟩ := h
         exact ⟨he, hb⟩))
     have HFF := Hd (fld_some HKT.out hf)
     have HTL := Hd (type_len25 (fieldOf_ty HGD.out hf))
     clear hf
     have HAL := Hd (show Below w3.heap.size w3 (w3.alloc (.cells #[.string ⟨#[]⟩, .string ⟨#[]⟩] 210)).drew from (bl_alloc (Below.refl _ _) _).drew)
     have HZ1 := Hd (show Blk (w3.alloc (.cells #[.string ⟨#[]⟩, .string ⟨#[]⟩] 210)).drew w3.heap.size 210 #[.string ⟨#[]⟩, .string ⟨#[]⟩] from blk_new _ _ _ _ rfl)
     go_upto_region 2 with fail
     go_region_held3 (fun W' => W'.cell? ⟨c, 0, none⟩ = some (.map (some b)) ∧ W'.cell? ⟨w.heap.size, 4, none⟩ = some (.string ⟨⟨cl⟩⟩) ∧ W'.cell? ⟨w.heap.size, 5, none⟩ = some (.string ⟨⟨nm⟩⟩))
       (first | exact HSC.out _ (Below.refl _ _) | exact HSC.out _ (Below.refl _ _).drew | exact HSC.out _ HAL.out | exact HSC.out _ (bl_alloc (Below.refl _ _) _) | exact HSC.out _ hb34 | exact HSC.out _ (bl_alloc hb34 _) | exact HSC.out _ (bl_setn hb34 _ _) | exact HSC.out _ (bl_setn (bl_setn hb34 _ _) _ _))
       ((first
       | (go_at_call 206
          with_reducible refine (HFS.out w3.drew (HB3.out.trans ((Below.refl _ _).drew.mono HB3.out.size))).mono ?_
          rintro e w4 ⟨rfl, hb4⟩
          have hb34 := bl_trans (Below.refl w3.heap.size w3).drew hb4)
       | (go_at_call 206
          with_reducible refine (HFS.out (w3.alloc (.cells #[.string ⟨#[]⟩, .string ⟨#[]⟩] 210)).drew (HB3.out.trans (HAL.out.mono HB3.out.size))).mono ?_
          rintro e w4 ⟨rfl, hb4⟩
          have hb34 := bl_trans HAL.out hb4
          have hk4 := HZ1.out.below hb4
          have z0 := hk4.cell 0
          have z1 := hk4.cell 1
          have z2 := hk4.frozen 0
          have z3 := hk4.frozen 1
          have z4 := hk4.lt)))
     all_goals
       (first
       | (obtain ⟨w5, hw5⟩ : ∃ w5, w5 = w4.alloc (.cells #[.string ⟨⟨fd.nm⟩⟩, .string ⟨⟨fd.ty⟩⟩] 210) := ⟨_, rfl⟩
          rw [← hw5]
          have hk5 : Blk w5 w4.heap.size 210 #[.string ⟨⟨fd.nm⟩⟩, .string ⟨⟨fd.ty⟩⟩] := by rw [hw5]; exact blk_new _ _ _ _ rfl
          have hb5 : Below w3.heap.size w3 w5 := by rw [hw5]; exact bl_alloc hb34 _
          clear hw5)
       | (obtain ⟨w5, hw5⟩ : ∃ w5, w5 = (w4.setCell ⟨w3.heap.size, 0, none⟩ (.string ⟨⟨fd.nm⟩⟩)).setCell ⟨w3.heap.size, 1, none⟩ (.string ⟨⟨fd.ty⟩⟩) := ⟨_, rfl⟩
          rw [← hw5]
          have hk5 : Blk w5 w3.heap.size 210 #[.string ⟨⟨fd.nm⟩⟩, .string ⟨⟨fd.ty⟩⟩] := by rw [hw5]; exact blk_set (blk_set hk4 0 _) 1 _
          have hb5 : Below w3.heap.size w3 w5 := by rw [hw5]; exact bl_setn (bl_setn hb34 _ _) _ _
          clear hw5 z0 z1 z2 z3 z4 hk4))
       have HB5 := Hd hb5
       have x1 := hk5.cell 1
       have x2 := hk5.lt
       have HK5 := Hd hk5
       clear hb5 hb34 hb4 hk5 HSC HAL HZ1
       go_wp2_with fail
       refine (need_true _).mono ?_
       rintro e w6 ⟨rfl, rfl⟩
       go_wp2_with fail
       by_cases hk2 : kindErr (wl l) fd.ty = 0
       · have hkc := known_calls l L b c w0.heap.size fr gv f fd.ty w0 w6 HW.out rfl (HB3.out.trans (HB5.out.mono HB3.out.size)) (HS3.out.below HB5.out) (by have := HTL.out; omega)
         rw [if_pos hk2] at hkc
         refine hkc.mono ?_
         rintro e w7 ⟨rfl, hb7⟩
         have HB7 := Hd hb7
         have HE := Hd (show fldF (wl l) cl nm = some fd.ty by rw [HFF.out, if_neg (by simpa using hk2)])
         have HK2 := Hd hk2
         have y1 := (HK5.out.below hb7).cell 1
         have y2 := (HK5.out.below hb7).lt
         clear hb7 hkc hk2 x1 x2
         go_wp2_with fail
         go_ret
         exact ⟨gb_below (gb_below HG3.out HB5.out) HB7.out, Or.inr ⟨_, HE.out, rfl, HK2.out, (HS3.out.below HB5.out).below HB7.out⟩⟩
       · have hkc := known_calls l L b c w0.heap.size fr gv f fd.ty w0 w6 HW.out rfl (HB3.out.trans (HB5.out.mono HB3.out.size)) (HS3.out.below HB5.out) (by have := HTL.out; omega)
         rw [if_neg hk2] at hkc
         refine hkc.mono ?_
         rintro e w7 ⟨rfl, hb7⟩
         have HB7 := Hd hb7
         have HE := Hd (show fldF (wl l) cl nm = none by rw [HFF.out, if_pos hk2])
         clear hb7 hkc hk2 x1 x2
         go_wp2_with fail
         exact ⟨rfl, gb_below (gb_below HG3.out HB5.out) HB7.out, Or.inl ⟨HE.out, rfl⟩⟩
 · rw [if_neg hk] at HKN
   have HE := Hd (fld_bad (n := nm) hk)
   clear hk
   have e0 := HX.out.cell 4
   have e1 := HX.out.lt
   go_enter Tryz.func162, Tryz.ntmps162
   go_upto_region 1 with fail
   rw [← hw1]
   clear hw1
   go_wp2_with fail
   refine (HTH.out _).mono ?_
   rintro e w2 ⟨rfl, rfl⟩
   go_wp2_with fail
   refine HKN.out.mono ?_
   rintro e w3 ⟨rfl, hb3⟩
   have HG3 := Hd (gb_below HG1.out hb3)
   clear hb3 e0 e1
   go_wp2_with fail
   exact ⟨rfl, HG3.out, Or.inl ⟨HE.out, rfl⟩⟩
end Go.Proofs.YtddbnboicmaooaaGreatDoor
