import Derived.Test.YtddbnboicmaooaaGreatDoorSa
import Derived.Deep.RegionHeld3
import Derived.Deep.RegionHeld2
import Derived.Lib.QuietBelow
namespace Go.Proofs.YtddbnboicmaooaaGreatDoor
set_option maxRecDepth 100000
set_option maxHeartbeats 16000000
set_option linter.unusedVariables false
set_option linter.unusedSimpArgs false
open Go.RowKit Go.Shelf Go.Lib
theorem does_X (l : List ClassR) (L : List CP) (m : Nat) {s t : Nm} (hs : kindErr (wl l) s = 0) (ht : kindErr (wl l) t = 0) (w : World) (hW : WOk w m l L) :
   Calls Tryz.prog 66 #[.map (some m), .string ⟨⟨s⟩⟩, .string ⟨⟨t⟩⟩] w fun e w' => e = .returned (.bool (doesX (wl l) s t)) ∧ Below w.heap.size w w' := by
 have h := does_calls l L m (kd_spec hs).1 (kd_spec ht).1 w hW
 unfold DoesAt at h
 rw [← (kd_spec hs).2, ← (kd_spec ht).2] at h
 exact h
theorem pop_none (L : List ClassR) (b c B : Nat) (fr gv : Nm) (f : FrR) (w : World) (hs : Stp L w B c b fr gv f) (h : popF f = none) :
   Calls Tryz.prog 157 #[.pointer (some ⟨c, 0, none⟩)] w fun e w' => e = .panicked unfitP ∧ w.grownBy w' (some c) := by
 refine (pop_calls L b c B fr gv f w hs).mono ?_
 rintro e w' ⟨hg, ⟨_, he⟩ | ⟨k, g, h2, _⟩⟩
 · exact ⟨he, hg⟩
 · rw [h] at h2; cases h2
theorem pop_some (L : List ClassR) (b c B : Nat) (fr gv : Nm) (f g : FrR) (k : Nm) (w : World) (hs : Stp L w B c b fr gv f) (h : popF f = some (k, g)) :
   Calls Tryz.prog 157 #[.pointer (some ⟨c, 0, none⟩)] w fun e w' => e = .returned (.string ⟨⟨k⟩⟩) ∧ w.grownBy w' (some c) ∧ Stp L w' B c b fr gv g := by
 refine (pop_calls L b c B fr gv f w hs).mono ?_
 rintro e w' ⟨hg, ⟨h2, _⟩ | ⟨k2, g2, h2, he, hst⟩⟩
 · rw [h] at h2; cases h2
 · rw [h] at h2
   simp only [Option.some.injEq, Prod.mk.injEq] at h2
   obtain ⟨rfl, rfl⟩ := h2
   exact ⟨he, hg, hst⟩
def PanQ (c : Nat) (w : World) : Exit → Act → World → Prop := fun e a w' => e = .panic unfitP ∧ a.defers = [] ∧ w.grownBy w' (some c)
def TakeRes (L : List ClassR) (r : Option FrR) (B c b : Nat) (fr gv : Nm) (w : World) (e : Ending) (w' : World) : Prop :=
 w.grownBy w' (some c) ∧ ((r = none ∧ e = .panicked unfitP) ∨ ∃ f, r = some f ∧ e = .returned (.tuple #[]) ∧ Stp L w' B c b fr gv f)
theorem take_bad {L : List ClassR} {t : Nm} {r : List Nm} {f : FrR} (h : kindErr L t ≠ 0) : takeF L (t :: r) f = none := by unfold takeF; rw [if_pos h]
theorem take_nil {L : List ClassR} {t : Nm} {r : List Nm} {f : FrR} (h : popF f = none) : takeF L (t :: r) f = none := by unfold takeF; rw [h]; split <;> rfl
theorem take_not {L : List ClassR} {t k : Nm} {r : List Nm} {f g : FrR} (h : popF f = some (k, g)) (hd : doesX L k t = false) : takeF L (t :: r) f = none := by
 unfold takeF; rw [h]; split
 · rfl
 · simp [hd]
theorem take_one {L : List ClassR} {t k : Nm} {r : List Nm} {f g : FrR} (hk : kindErr L t = 0) (h : popF f = some (k, g)) (hd : doesX L k t = true) : takeF L (t :: r) f = takeF L r g := by
 conv => lhs; unfold takeF
 rw [h, if_neg (by simpa using hk)]
 simp [hd]
theorem take_calls (l : List ClassR) (L : List CP) (b c B : Nat) (fr gv : Nm) (f : FrR) (ts : List Nm) (ga : Option Addr) (gc : Nat) (w0 w : World) (hW : WOk w0 b l L) (hB : B = w0.heap.size) (hb : Below B w0 w) (hs : Stp (wl l) w B c b fr gv f) (hr : SRow w ga gc ts) (hne : ∀ ad, ga = some ad → ad.block ≠ c) (hl : ts.length ≤ 100) (ht : ∀ t ∈ ts, t.length ≤ 8388608) :
   Calls Tryz.prog 158 #[.pointer (some ⟨c, 0, none⟩), .slice ga ts.length gc] w (TakeRes (wl l) (takeF (wl l) ts f) B c b fr gv w) := by
 subst hB
 have HW := Hd hW
 have HB := Hd hb
 have HS := Hd hs
 have HR := Hd hr
 have HNE := Hd hne
 have HT := Hd ht
 have HCB := Hd hs.cB
 clear hW hb hs hr hne ht
 go_enter Tryz.func158, Tryz.ntmps158
 go_wp2_with fail
 go_loopw [8] (fun i wr => ∃ j : Nat, j ≤ ts.length ∧ i = .int .i64 j ∧ w.grownBy wr (some c) ∧ ∃ g, takeF (wl l) ts f = takeF (wl l) (ts.drop j) g ∧ Stp (wl l) wr w0.heap.size c b fr gv g) (fun i _ => ts.length - (RowKit.intOf i).toNat)
 case atStart => exact ⟨0, by omega, rfl, gb_refl _ _, f, rfl, HS.out⟩
 case round =>
   obtain ⟨j, hj, rfl, hg, g, hq, hst⟩ := hrel
   by_cases hlj : j < ts.length
   · obtain ⟨t, hx⟩ : ∃ t, ts[j]? = some t := ⟨_, List.getElem?_eq_getElem hlj⟩
     have hdr : ts.drop j = t :: ts.drop (j + 1) := by
       rw [List.drop_eq_getElem_cons hlj]
       congr 1
       have := List.getElem?_eq_getElem hlj
       rw [this] at hx
       simpa using hx
     rw [hdr] at hq
     obtain ⟨_, h2 | ⟨b5, off5, rfl, hlt5, hc5⟩⟩ := gb_srow hg HR.out HNE.out
     · rw [h2] at hlj; simp at hlj
     have x0 := hc5 j t hx
     have hji : (j : Int) < (ts.length : Int) := by omega
     have hj0 : (0 : Int) ≤ (j : Int) := Int.natCast_nonneg _
     have hbr := gb_to_below HB.out hg HCB.out
     have HTL := Hd (HT.out t (List.mem_of_getElem? hx))
     have HKN := Hd (known_calls l L b c w0.heap.size fr gv g t w0 wr HW.out rfl hbr hst HTL.out)
     have HG := Hd hg
     have HQ := Hd hq
     have HST := Hd hst
     have HBR := Hd hbr
     have HKOK := Hd hst.kok
     have x9 : (⟨b5, off5, none⟩ : Addr).block ≠ c := HNE.out _ rfl
     clear hx hdr hc5 hg hq hst hbr
     by_cases hk : kindErr (wl l) t = 0
     · rw [if_pos hk] at HKN
       cases hp : popF g with
       | none =>
         have HN := Hd (take_nil (L := wl l) (t := t) (r := ts.drop (j + 1)) hp)
         have HP := Hd hp
         clear hp hk
         go_wp2_with fail
         refine HKN.out.mono ?_
         rintro e w3 ⟨rfl, hb3⟩
         have HS3 := Hd (HST.out.below hb3)
         have HG3 := Hd (gb_below HG.out hb3)
         have HPO := Hd (fun W (hw : Below w3.heap.size w3 W) => pop_none (wl l) b c w0.heap.size fr gv g W (HS3.out.below hw) HP.out)
         have HSC := Hd (fun W (hw : Below w3.heap.size w3 W) => (show W.cell? ⟨c, 0, none⟩ = some (.map (some b)) from by obtain ⟨_, _, _, _, h⟩ := HS3.out.below hw; exact h.blk.cell 0))
         have hc3 : c < w3.heap.size := by obtain ⟨_, _, _, _, h⟩ := HS3.out; exact h.blk.lt
         clear hb3 x0
         go_upto_region 4 with fail
         refine Code.wp_mono (Q := PanQ c w3) ?_ ?_
         · rintro e a' w' ⟨rfl, hd', hg'⟩
           go_wp2_with fail
           exact ⟨hd', gb_trans HG3.out hg', Or.inl ⟨by rw [HQ.out, HN.out], rfl⟩⟩
         refine wp_region_held_drew (S := fun W' => W'.cell? ⟨c, 0, none⟩ = some (.map (some b))) (by kernel_rfl) ?_ (fun hHeld => ?_)
         · exact HSC.out _ (Below.refl _ _).drew
         refine wpAnyH_take (i := 0) (oi := { dst := some 15, op := Op.move (Operand.tmp 0), type := 168, pos := "frame.go:117", after := #[], guard := none }) (v := ?_) rfl (by kernel_rfl) (by kernel_rfl) (by kernel_rfl) (fun _ _ _ h => h) (Or.inl ⟨by rfl, ?_⟩) (by assumption) ?_
         rotate_left
         · (intro w hSw; (try dsimp only at hSw); go_simp; try with_reducible rfl)
         try simp only [Act.put, List.setIfInBounds_toArray, List.set_cons_zero, List.set_cons_succ]
         refine wpAnyH_take (i := 1) (oi := { dst := some 16, op := Op.nilCheck (Operand.tmp 15), type := 0, pos := "frame.go:117", after := #[{ on := 0, ground := Ground.data }], guard := none }) (v := ?_) rfl (by kernel_rfl) (by kernel_rfl) (by kernel_rfl) (fun _ _ _ h => h) (Or.inl ⟨by rfl, ?_⟩) (by assumption) ?_
         rotate_left
         · (intro w hSw; (try dsimp only at hSw); go_simp; try with_reducible rfl)
         try simp only [Act.put, List.setIfInBounds_toArray, List.set_cons_zero, List.set_cons_succ]
         refine wpAnyH_take (i := 2) (oi := { dst := some 17, op := Op.fieldAddr 171 (Operand.tmp 16) 0, type := 0, pos := "frame.go:117", after := #[{ on := 1, ground := Ground.data }], guard := none }) (v := ?_) rfl (by kernel_rfl) (by kernel_rfl) (by kernel_rfl) (fun _ _ _ h => h) (Or.inl ⟨by rfl, ?_⟩) (by assumption) ?_
         rotate_left
         · (intro w hSw; (try dsimp only at hSw); go_simp; try with_reducible rfl)
         try simp only [Act.put, List.setIfInBounds_toArray, List.set_cons_zero, List.set_cons_succ]
         refine wpAnyH_take (i := 3) (oi := { dst := some 18, op := Op.load 88 (Operand.tmp 17), type := 88, pos := "frame.go:117", after := #[{ on := 2, ground := Ground.data }], guard := none }) (v := ?_) rfl (by kernel_rfl) (by kernel_rfl) (by kernel_rfl) (fun _ _ _ h => h) (Or.inl ⟨by rfl, ?_⟩) (by assumption) ?_
         rotate_left
         · (intro w hSw; (try dsimp only at hSw); go_simp; try with_reducible rfl)
         try simp only [Act.put, List.setIfInBounds_toArray, List.set_cons_zero, List.set_cons_succ]
         refine wpAnyH_take (i := 4) (oi := { dst := some 19, op := Op.move (Operand.tmp 0), type := 168, pos := "frame.go:117", after := #[], guard := none }) (v := ?_) rfl (by kernel_rfl) (by kernel_rfl) (by kernel_rfl) (fun _ _ _ h => h) (Or.inl ⟨by rfl, ?_⟩) (by assumption) ?_
         rotate_left
         · (intro w hSw; (try dsimp only at hSw); go_simp; try with_reducible rfl)
         try simp only [Act.put, List.setIfInBounds_toArray, List.set_cons_zero, List.set_cons_succ]
         refine wpAnyH_take (i := 6) (oi := { dst := some 21, op := Op.move (Operand.tmp 5), type := 9, pos := "frame.go:117", after := #[], guard := none }) (v := ?_) rfl (by kernel_rfl) (by kernel_rfl) (by kernel_rfl) (fun _ _ _ h => h) (Or.inl ⟨by rfl, ?_⟩) (by assumption) ?_
         rotate_left
         · (intro w hSw; (try dsimp only at hSw); go_simp; try with_reducible rfl)
         try simp only [Act.put, List.setIfInBounds_toArray, List.set_cons_zero, List.set_cons_succ]
         refine wpAnyH_ready (rs := [5]) (by kernel_rfl) (by simp) ?_
         refine AllReadyH.cons (o := { dst := some 20, op := Op.call { callee := Callee.value (Operand.func 157), args := #[Operand.tmp 19], argTypes := #[168] }, type := 9, pos := "frame.go:117", after := #[{ on := 4, ground := Ground.data }], guard := none }) rfl (fun K hK => ?_) AllReadyH.nil
         go_simp
         go_wp2_with ((go_at_call 157; refine (HPO.out _ (Below.refl _ _).drew).mono ?_; rintro e w4 ⟨rfl, hg4⟩))
         exact ⟨rfl, rfl, gb_trans (gb_drew (gb_refl w3 c)) hg4⟩
       | some kg =>
         obtain ⟨k, g2⟩ := kg
         obtain ⟨_, hkk, _⟩ := HKOK.out.pop hp
         have HPK := Hd hp
         have HKT := Hd hk
         have HDD := Hd (fun W (hw : Below w0.heap.size w0 W) => does_X l L b hkk hk W (HW.out.below hw))
         obtain ⟨q, hq⟩ : ∃ q, q = doesX (wl l) k t := ⟨_, rfl⟩
         rw [← hq] at HDD
         have HQD := Hd hq
         clear hp hk hkk hq
         go_wp2_with fail
         refine HKN.out.mono ?_
         rintro e w3 ⟨rfl, hb3⟩
         have HS3 := Hd (HST.out.below hb3)
         have HG3 := Hd (gb_below HG.out hb3)
         have HBR3 := Hd (gb_to_below HB.out HG3.out HCB.out)
         have HPO := Hd (fun W (hw : Below w3.heap.size w3 W) => pop_some (wl l) b c w0.heap.size fr gv g g2 k W (HS3.out.below hw) HPK.out)
         have HSC := Hd (fun W (hw : Below w3.heap.size w3 W) => (HS3.out.below hw).cell0)
         have hc3 : c < w3.heap.size := HS3.out.lt
         clear hb3 x0
         cases q with
         | false =>
           have HDX := Hd HDD.out
           have HN := Hd (take_not (r := ts.drop (j + 1)) HPK.out HQD.out.symm)
           go_upto_region 4 with fail
           refine Code.wp_mono (Q := PanQ c w3) ?_ ?_
           · rintro e a' w' ⟨rfl, hd', hg'⟩
             go_wp2_with fail
             exact ⟨hd', gb_trans HG3.out hg', Or.inl ⟨by rw [HQ.out, HN.out], rfl⟩⟩
           refine wp_region_held_drew (S := fun W' => W'.cell? ⟨c, 0, none⟩ = some (.map (some b))) (by kernel_rfl) ?_ (fun hHeld => ?_)
           · exact HSC.out _ (Below.refl _ _).drew
           refine wpAnyH_take (i := 0) (oi := { dst := some 15, op := Op.move (Operand.tmp 0), type := 168, pos := "frame.go:117", after := #[], guard := none }) (v := ?_) rfl (by kernel_rfl) (by kernel_rfl) (by kernel_rfl) (fun _ _ _ h => h) (Or.inl ⟨by rfl, ?_⟩) (by assumption) ?_
           rotate_left
           · (intro w hSw; (try dsimp only at hSw); go_simp; try with_reducible rfl)
           try simp only [Act.put, List.setIfInBounds_toArray, List.set_cons_zero, List.set_cons_succ]
           refine wpAnyH_take (i := 1) (oi := { dst := some 16, op := Op.nilCheck (Operand.tmp 15), type := 0, pos := "frame.go:117", after := #[{ on := 0, ground := Ground.data }], guard := none }) (v := ?_) rfl (by kernel_rfl) (by kernel_rfl) (by kernel_rfl) (fun _ _ _ h => h) (Or.inl ⟨by rfl, ?_⟩) (by assumption) ?_
           rotate_left
           · (intro w hSw; (try dsimp only at hSw); go_simp; try with_reducible rfl)
           try simp only [Act.put, List.setIfInBounds_toArray, List.set_cons_zero, List.set_cons_succ]
           refine wpAnyH_take (i := 2) (oi := { dst := some 17, op := Op.fieldAddr 171 (Operand.tmp 16) 0, type := 0, pos := "frame.go:117", after := #[{ on := 1, ground := Ground.data }], guard := none }) (v := ?_) rfl (by kernel_rfl) (by kernel_rfl) (by kernel_rfl) (fun _ _ _ h => h) (Or.inl ⟨by rfl, ?_⟩) (by assumption) ?_
           rotate_left
           · (intro w hSw; (try dsimp only at hSw); go_simp; try with_reducible rfl)
           try simp only [Act.put, List.setIfInBounds_toArray, List.set_cons_zero, List.set_cons_succ]
           refine wpAnyH_take (i := 3) (oi := { dst := some 18, op := Op.load 88 (Operand.tmp 17), type := 88, pos := "frame.go:117", after := #[{ on := 2, ground := Ground.data }], guard := none }) (v := ?_) rfl (by kernel_rfl) (by kernel_rfl) (by kernel_rfl) (fun _ _ _ h => h) (Or.inl ⟨by rfl, ?_⟩) (by assumption) ?_
           rotate_left
           · (intro w hSw; (try dsimp only at hSw); go_simp; try with_reducible rfl)
           try simp only [Act.put, List.setIfInBounds_toArray, List.set_cons_zero, List.set_cons_succ]
           refine wpAnyH_take (i := 4) (oi := { dst := some 19, op := Op.move (Operand.tmp 0), type := 168, pos := "frame.go:117", after := #[], guard := none }) (v := ?_) rfl (by kernel_rfl) (by kernel_rfl) (by kernel_rfl) (fun _ _ _ h => h) (Or.inl ⟨by rfl, ?_⟩) (by assumption) ?_
           rotate_left
           · (intro w hSw; (try dsimp only at hSw); go_simp; try with_reducible rfl)
           try simp only [Act.put, List.setIfInBounds_toArray, List.set_cons_zero, List.set_cons_succ]
           refine wpAnyH_take (i := 6) (oi := { dst := some 21, op := Op.move (Operand.tmp 5), type := 9, pos := "frame.go:117", after := #[], guard := none }) (v := ?_) rfl (by kernel_rfl) (by kernel_rfl) (by kernel_rfl) (fun _ _ _ h => h) (Or.inl ⟨by rfl, ?_⟩) (by assumption) ?_
           rotate_left
           · (intro w hSw; (try dsimp only at hSw); go_simp; try with_reducible rfl)
           try simp only [Act.put, List.setIfInBounds_toArray, List.set_cons_zero, List.set_cons_succ]
           refine wpAnyH_ready (rs := [5]) (by kernel_rfl) (by simp) ?_
           refine AllReadyH.cons (o := { dst := some 20, op := Op.call { callee := Callee.value (Operand.func 157), args := #[Operand.tmp 19], argTypes := #[168] }, type := 9, pos := "frame.go:117", after := #[{ on := 4, ground := Ground.data }], guard := none }) rfl (fun K hK => ?_) AllReadyH.nil
           go_simp
           go_wp2_with ((go_at_call 157; refine (HPO.out _ (Below.refl _ _).drew).mono ?_; rintro e w4 ⟨rfl, hg4, hs4⟩))
           refine hK.out _ _ ?_ (fun hHeld => ?_)
           · exact hs4.cell0
           clear hK K
           try simp only [Act.put, List.setIfInBounds_toArray, List.set_cons_zero, List.set_cons_succ]
           refine wpAnyH_ready (rs := [7]) (by kernel_rfl) (by simp) ?_
           refine AllReadyH.cons (o := { dst := some 22, op := Op.call { callee := Callee.value (Operand.func 66), args := #[Operand.tmp 18, Operand.tmp 20, Operand.tmp 21], argTypes := #[88, 9, 9] }, type := 4, pos := "frame.go:117", after := #[{ on := 3, ground := Ground.data }, { on := 5, ground := Ground.data }, { on := 6, ground := Ground.data }, { on := 5, ground := Ground.chain }], guard := none }) rfl (fun K hK => ?_) AllReadyH.nil
           go_simp
           go_wp2_with ((go_at_call 66; refine (HDX.out _ (gb_to_below HBR3.out (gb_trans (gb_drew (gb_refl w3 c)) hg4) HCB.out)).mono ?_; rintro e w5 ⟨rfl, hb5⟩))
           refine hK.out _ _ ?_ (fun hHeld => ?_)
           · exact (hs4.below hb5).cell0
           clear hK K
           try simp only [Act.put, List.setIfInBounds_toArray, List.set_cons_zero, List.set_cons_succ]
           refine wpAnyH_ready (rs := [8]) (by kernel_rfl) (by simp) ?_
           refine AllReadyH.cons (o := { dst := some 23, op := Op.call { callee := Callee.value (Operand.func 156), args := #[Operand.tmp 22], argTypes := #[4] }, type := 0, pos := "frame.go:117", after := #[{ on := 7, ground := Ground.data }, { on := 7, ground := Ground.chain }], guard := none }) rfl (fun K hK => ?_) AllReadyH.nil
           go_simp
           go_wp2_with ((go_at_call 156; refine (need_false _).mono ?_; rintro e w6 ⟨rfl, rfl⟩))
           exact ⟨rfl, rfl, gb_below (gb_trans (gb_drew (gb_refl w3 c)) hg4) hb5⟩
         | true =>
           have HDX := Hd HDD.out
           have HN := Hd (take_one (r := ts.drop (j + 1)) HKT.out HPK.out HQD.out.symm)
           go_upto_region 4 with fail
           go_region_held3 (fun W' => W'.cell? ⟨c, 0, none⟩ = some (.map (some b)))
             (first | exact HSC.out _ (Below.refl _ _) | exact HSC.out _ (Below.refl _ _).drew | exact hs4.cell0 | exact (hs4.below hb5).cell0)
             ((first
             | (go_at_call 157
                refine (HPO.out _ (Below.refl _ _).drew).mono ?_
                rintro e w4 ⟨rfl, hg4, hs4⟩)
             | (go_at_call 66
                refine (HDX.out _ (gb_to_below HBR3.out (gb_trans (gb_drew (gb_refl w3 c)) hg4) HCB.out)).mono ?_
                rintro e w5 ⟨rfl, hb5⟩)
             | (go_at_call 156
                refine (need_true _).mono ?_
                rintro e w6 ⟨rfl, rfl⟩)))
           all_goals
             have HG6 := Hd (gb_trans HG3.out (gb_below (gb_trans (gb_drew (gb_refl w3 c)) hg4) hb5))
             have HS6 := Hd (hs4.below hb5)
             clear hg4 hs4 hb5
             go_wp2_with fail
             go_roundw
             case rel => exact ⟨j + 1, by omega, by go_num, HG6.out, g2, by rw [HQ.out, HN.out], HS6.out⟩
             case measure => simp [RowKit.intOf]; omega
     · rw [if_neg hk] at HKN
       have HN := Hd (take_bad (r := ts.drop (j + 1)) (f := g) hk)
       clear hk
       go_wp2_with fail
       refine HKN.out.mono ?_
       rintro e w3 ⟨rfl, hb3⟩
       have HG3 := Hd (gb_below HG.out hb3)
       clear hb3
       go_wp2_with fail
       exact ⟨rfl, HG3.out, Or.inl ⟨by rw [HQ.out, HN.out], rfl⟩⟩
   · obtain rfl : j = ts.length := by omega
     have HG := Hd hg
     have HST := Hd hst
     have HQ := Hd hq
     clear hg hst hq
     go_wp2_with fail
     go_end0
     exact ⟨HG.out, Or.inr ⟨g, by rw [HQ.out, List.drop_length]; rfl, rfl, HST.out⟩⟩
open Go.Sort
theorem ref_none {f : FrR} (h : popF f = none) : refF f = none := by unfold refF; rw [h]; rfl
theorem ref_no {f g : FrR} {k : Nm} (h : popF f = some (k, g)) (hq : ((k == [78]) || refsB k) = false) : refF f = none := by unfold refF; rw [h]; simp only [Option.elim_some]; rw [hq]; rfl
theorem ref_yes {f g : FrR} {k : Nm} (h : popF f = some (k, g)) (hq : ((k == [78]) || refsB k) = true) : refF f = some (k, g) := by unfold refF; rw [h]; simp only [Option.elim_some]; rw [hq]; rfl
theorem KOk.ref {L : List ClassR} {f g : FrR} {k : Nm} (h : KOk L f) (hp : refF f = some (k, g)) : KOk L g ∧ kindErr L k = 0 ∧ g.loc = f.loc ∧ ((k == [78]) || refsB k) = true := by
 cases hq : popF f with
 | none => rw [ref_none hq] at hp; cases hp
 | some p =>
   obtain ⟨k2, g2⟩ := p
   cases hr : ((k2 == [78]) || refsB k2) with
   | false => rw [ref_no hq hr] at hp; cases hp
   | true =>
     rw [ref_yes hq hr] at hp
     simp only [Option.some.injEq, Prod.mk.injEq] at hp
     obtain ⟨rfl, rfl⟩ := hp
     obtain ⟨h1, h2, h3⟩ := h.pop hq
     exact ⟨h1, h2, h3, hr⟩
theorem ref_calls (L : List ClassR) (b c B : Nat) (fr gv : Nm) (f : FrR) (w : World) (hs : Stp L w B c b fr gv f) :
   Calls Tryz.prog 160 #[.pointer (some ⟨c, 0, none⟩)] w (PopRes L (refF f) B c b fr gv w) := by
 cases hp : popF f with
 | none =>
   have HP := Hd (pop_none L b c B fr gv f w hs hp)
   rw [ref_none hp]
   clear hs hp
   go_enter Tryz.func160, Tryz.ntmps160
   go_wp2_with fail
   refine HP.out.mono ?_
   rintro e w2 ⟨rfl, hg⟩
   have HG := Hd hg
   clear hg
   go_wp2_with fail
   exact ⟨rfl, HG.out, Or.inl ⟨rfl, rfl⟩⟩
 | some p =>
   obtain ⟨k, g⟩ := p
   have HP := Hd (pop_some L b c B fr gv f g k w hs hp)
   have HRF := Hd (fun w => refs_calls k w)
   have HPP := Hd hp
   clear hs hp
   by_cases hk : k = [78]
   · subst hk
     rw [ref_yes HPP.out rfl]
     go_enter Tryz.func160, Tryz.ntmps160
     go_wp2_with fail
     refine HP.out.mono ?_
     rintro e w2 ⟨rfl, hg, hst⟩
     have HG := Hd hg
     have HST := Hd hst
     clear hg hst
     go_wp2_with fail
     refine (need_true _).mono ?_
     rintro e w3 ⟨rfl, rfl⟩
     go_wp2_with fail
     go_ret
     exact ⟨HG.out, Or.inr ⟨_, g, rfl, rfl, HST.out⟩⟩
   · have hq : (k == [78]) = false := by rw [beq_eq_false_iff_ne]; exact hk
     cases hr : refsB k with
     | true =>
       rw [ref_yes HPP.out (by rw [hq, hr]; rfl)]
       rw [hr] at HRF
       clear hr hk
       go_enter Tryz.func160, Tryz.ntmps160
       go_wp2_with fail
       refine HP.out.mono ?_
       rintro e w2 ⟨rfl, hg, hst⟩
       have HG := Hd hg
       have HST := Hd hst
       clear hg hst
       go_wp2_with fail
       refine (HRF.out _).mono ?_
       rintro e w3 ⟨rfl, hb3⟩
       have HB3 := Hd hb3
       clear hb3
       go_wp2_with fail
       refine (need_true _).mono ?_
       rintro e w4 ⟨rfl, rfl⟩
       go_wp2_with fail
       go_ret
       exact ⟨by first | exact gb_below HG.out HB3.out | (rw [HB3.out] at HG; exact HG.out) | (rw [← HB3.out]; exact HG.out), Or.inr ⟨k, g, rfl, rfl, by first | exact HST.out.below HB3.out | (rw [← HB3.out]; exact HST.out) | (rw [HB3.out]; exact HST.out)⟩⟩
     | false =>
       rw [ref_no HPP.out (by rw [hq, hr]; rfl)]
       rw [hr] at HRF
       clear hr hk
       go_enter Tryz.func160, Tryz.ntmps160
       go_wp2_with fail
       refine HP.out.mono ?_
       rintro e w2 ⟨rfl, hg, hst⟩
       have HG := Hd hg
       clear hg hst
       go_wp2_with fail
       refine (HRF.out _).mono ?_
       rintro e w3 ⟨rfl, hb3⟩
       have HB3 := Hd hb3
       clear hb3
       go_wp2_with fail
       refine (need_false _).mono ?_
       rintro e w4 ⟨rfl, rfl⟩
       go_wp2_with fail
       exact ⟨rfl, by first | exact gb_below HG.out HB3.out | (rw [← HB3.out]; exact HG.out) | (rw [HB3.out]; exact HG.out), Or.inl ⟨rfl, rfl⟩⟩
theorem srow_new1 (W : World) (t : Nm) : SRow (W.alloc (.cells #[.string ⟨⟨t⟩⟩] 9)) (some ⟨W.heap.size, 0, none⟩) 1 [t] :=
 ⟨Nat.le_refl _, Or.inr ⟨_, 0, rfl, by simp, fun j x hx => by
   cases j with
   | zero =>
     simp only [List.getElem?_cons_zero, Option.some.injEq] at hx
     subst hx
     exact (blk_new W _ 9 #[.string ⟨⟨t⟩⟩] rfl).cell 0
   | succ j => simp at hx⟩⟩
theorem srow_new2 (W : World) (t u : Nm) : SRow (W.alloc (.cells #[.string ⟨⟨t⟩⟩, .string ⟨⟨u⟩⟩] 9)) (some ⟨W.heap.size, 0, none⟩) 2 [t, u] :=
 ⟨Nat.le_refl _, Or.inr ⟨_, 0, rfl, by simp, fun j x hx => by
   match j with
   | 0 =>
     simp only [List.getElem?_cons_zero, Option.some.injEq] at hx
     subst hx
     exact (blk_new W _ 9 #[.string ⟨⟨t⟩⟩, .string ⟨⟨u⟩⟩] rfl).cell 0
   | 1 =>
     simp only [List.getElem?_cons_succ, List.getElem?_cons_zero, Option.some.injEq] at hx
     subst hx
     exact (blk_new W _ 9 #[.string ⟨⟨t⟩⟩, .string ⟨⟨u⟩⟩] rfl).cell 1
   | j + 2 => simp at hx⟩⟩
theorem take1 (l : List ClassR) (L : List CP) (b c : Nat) (fr gv : Nm) (f : FrR) (t : Nm) (w0 w : World) (hW : WOk w0 b l L) (hb : Below w0.heap.size w0 w) (hs : Stp (wl l) w w0.heap.size c b fr gv f) (ht : t.length ≤ 8388608) :
   Calls Tryz.prog 158 #[.pointer (some ⟨c, 0, none⟩), .slice (some ⟨w.heap.size, 0, none⟩) 1 1] (w.alloc (.cells #[.string ⟨⟨t⟩⟩] 9)) (fun e w' => w.grownBy w' (some c) ∧ ((takeF (wl l) [t] f = none ∧ e = .panicked unfitP) ∨ ∃ g, takeF (wl l) [t] f = some g ∧ e = .returned (.tuple #[]) ∧ Stp (wl l) w' w0.heap.size c b fr gv g)) := by
 have hal : Below w.heap.size w (w.alloc (.cells #[.string ⟨⟨t⟩⟩] 9)) := bl_alloc (Below.refl _ _) _
 refine (take_calls l L b c w0.heap.size fr gv f [t] (some ⟨w.heap.size, 0, none⟩) 1 w0 _ hW rfl (hb.trans (hal.mono hb.size)) (hs.below hal) (srow_new1 w t) (fun ad e => by simp only [Option.some.injEq] at e; subst e; have := hs.lt; show w.heap.size ≠ c; omega) (by simp) (by simpa using ht)).mono ?_
 rintro e w' ⟨hg, h⟩
 exact ⟨gb_trans (gb_below (gb_refl w c) hal) hg, h⟩
theorem take2 (l : List ClassR) (L : List CP) (b c : Nat) (fr gv : Nm) (f : FrR) (t u : Nm) (w0 w : World) (hW : WOk w0 b l L) (hb : Below w0.heap.size w0 w) (hs : Stp (wl l) w w0.heap.size c b fr gv f) (ht : t.length ≤ 8388608) (hu : u.length ≤ 8388608) :
   Calls Tryz.prog 158 #[.pointer (some ⟨c, 0, none⟩), .slice (some ⟨w.heap.size, 0, none⟩) 2 2] (w.alloc (.cells #[.string ⟨⟨t⟩⟩, .string ⟨⟨u⟩⟩] 9)) (fun e w' => w.grownBy w' (some c) ∧ ((takeF (wl l) [t, u] f = none ∧ e = .panicked unfitP) ∨ ∃ g, takeF (wl l) [t, u] f = some g ∧ e = .returned (.tuple #[]) ∧ Stp (wl l) w' w0.heap.size c b fr gv g)) := by
 have hal : Below w.heap.size w (w.alloc (.cells #[.string ⟨⟨t⟩⟩, .string ⟨⟨u⟩⟩] 9)) := bl_alloc (Below.refl _ _) _
 refine (take_calls l L b c w0.heap.size fr gv f [t, u] (some ⟨w.heap.size, 0, none⟩) 2 w0 _ hW rfl (hb.trans (hal.mono hb.size)) (hs.below hal) (srow_new2 w t u) (fun ad e => by simp only [Option.some.injEq] at e; subst e; have := hs.lt; show w.heap.size ≠ c; omega) (by simp) (by simp; exact ⟨ht, hu⟩)).mono ?_
 rintro e w' ⟨hg, h⟩
 exact ⟨gb_trans (gb_below (gb_refl w c) hal) hg, h⟩
noncomputable def ArrD (L : List ClassR) (k t : Nm) : Bool := (k == [78]) || ((k.head? == some 91) && doesX L k.tail t && (refsB k.tail == refsB t))
theorem arr_bad {L : List ClassR} {t : Nm} {f : FrR} (h : kindErr L t ≠ 0) : arrF L t f = none := by unfold arrF; rw [if_pos h]
theorem arr_t {L : List ClassR} {t : Nm} {f : FrR} (h : takeF L [[73]] f = none) : arrF L t f = none := by unfold arrF; rw [h]; split <;> rfl
theorem arr_r {L : List ClassR} {t : Nm} {f g : FrR} (h : takeF L [[73]] f = some g) (hr : refF g = none) : arrF L t f = none := by unfold arrF; rw [h]; simp only [Option.elim_some]; rw [hr]; split <;> rfl
end Go.Proofs.YtddbnboicmaooaaGreatDoor
