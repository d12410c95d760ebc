import Derived.Test.YtbnkckjdgpiggaaGreatDoorSa
import Derived.Deep.RegionHeld3
import Derived.Deep.RegionHeld2
import Derived.Lib.QuietBelow
namespace Go.Proofs.YtbnkckjdgpiggaaGreatDoor
set_option maxRecDepth 100000
set_option maxHeartbeats 16000000
set_option linter.unusedVariables false
set_option linter.unusedSimpArgs false
open Go.RowKit Go.Shelf Go.Lib
theorem z4c (l : List zd) (L : List CP) (m : Nat) {s t : Nm} (hs : zh (wl l) s = 0) (ht : zh (wl l) t = 0) (w : World) (hW : WOk w m l L) :
   Calls Tryz.prog 50 #[.map (some m), .string ⟨⟨s⟩⟩, .string ⟨⟨t⟩⟩] w fun e w' => e = .returned (.bool (zlp (wl l) s t)) /\ Below w.heap.size w w' := by
 have h := zu9 l L m (zch hs).1 (zch ht).1 w hW
 unfold zco at h
 rw [<- (zch hs).2, <- (zch ht).2] at h
 exact h
theorem z3n (L : List zd) (b c B : Nat) (fr gv : Nm) (f : FrR) (w : World) (hs : Stp L w B c b fr gv f) (h : zkg f = none) :
   Calls Tryz.prog 189 #[.pointer (some ⟨c, 0, none⟩)] w fun e w' => e = .panicked zge /\ w.grownBy w' (some c) := by
 refine (zrt L b c B fr gv f w hs).mono ?_
 rintro e w' ⟨hg, ⟨_, he⟩ | ⟨k, g, h2, _⟩⟩
 . exact ⟨he, hg⟩
 . rw [h] at h2; cases h2
theorem z1y (L : List zd) (b c B : Nat) (fr gv : Nm) (f g : FrR) (k : Nm) (w : World) (hs : Stp L w B c b fr gv f) (h : zkg f = some (k, g)) :
   Calls Tryz.prog 189 #[.pointer (some ⟨c, 0, none⟩)] w fun e w' => e = .returned (.string ⟨⟨k⟩⟩) /\ w.grownBy w' (some c) /\ Stp L w' B c b fr gv g := by
 refine (zrt L b c B fr gv f w hs).mono ?_
 rintro e w' ⟨hg, ⟨h2, _⟩ | ⟨k2, g2, h2, he, hst⟩⟩
 . rw [h] at h2; cases h2
 . rw [h] at h2
   simp only [Option.some.injEq, Prod.mk.injEq] at h2
   obtain ⟨rfl, rfl⟩ := h2
   exact ⟨he, hg, hst⟩
def z8i (c : Nat) (w : World) : Exit -> Act -> World -> Prop := fun e a w' => e = .panic zge /\ a.defers = [] /\ w.grownBy w' (some c)
def z44 (L : List zd) (r : Option FrR) (B c b : Nat) (fr gv : Nm) (w : World) (e : Ending) (w' : World) : Prop :=
 w.grownBy w' (some c) /\ ((r = none /\ e = .panicked zge) \/ ∃ f, r = some f /\ e = .returned (.tuple #[]) /\ Stp L w' B c b fr gv f)
theorem z1k {L : List zd} {t : Nm} {r : List Nm} {f : FrR} (h : zh L t ≠ 0) : zbk L (t :: r) f = none := by unfold zbk; rw [if_pos h]
theorem z2e {L : List zd} {t : Nm} {r : List Nm} {f : FrR} (h : zkg f = none) : zbk L (t :: r) f = none := by unfold zbk; rw [h]; split <;> rfl
theorem z1d {L : List zd} {t k : Nm} {r : List Nm} {f g : FrR} (h : zkg f = some (k, g)) (hd : zlp L k t = false) : zbk L (t :: r) f = none := by
 unfold zbk; rw [h]; split
 . rfl
 . simp [hd]
theorem ztr {L : List zd} {t k : Nm} {r : List Nm} {f g : FrR} (hk : zh L t = 0) (h : zkg f = some (k, g)) (hd : zlp L k t = true) : zbk L (t :: r) f = zbk L r g := by
 conv => lhs; unfold zbk
 rw [h, if_neg (by simpa using hk)]
 simp [hd]
theorem zwh (l : List zd) (L : List CP) (b c B : Nat) (fr gv : Nm) (f : FrR) (ts : List Nm) (ga : Option Addr) (gc : Nat) (w0 w : World) (hW : WOk w0 b l L) (hB : B = w0.heap.size) (hb : Below B w0 w) (hs : Stp (wl l) w B c b fr gv f) (hr : zdl w ga gc ts) (hne : ∀ ad, ga = some ad -> ad.block ≠ c) (hl : ts.length <= 100) (ht : ∀ t ∈ ts, t.length <= 8388608) :
   Calls Tryz.prog 190 #[.pointer (some ⟨c, 0, none⟩), .slice ga ts.length gc] w (z44 (wl l) (zbk (wl l) ts f) B c b fr gv w) := by
 subst hB
 have HW := Hq hW
 have HB := Hq hb
 have HS := Hq hs
 have HR := Hq hr
 have HNE := Hq hne
 have HT := Hq ht
 have HCB := Hq hs.cB
 clear hW hb hs hr hne ht
 go_enter Tryz.func190, Tryz.ntmps190
 go_wp2_with fail
 go_loopw [8] (fun i wr => ∃ j : Nat, j <= ts.length /\ i = .int .i64 j /\ w.grownBy wr (some c) /\ ∃ g, zbk (wl l) ts f = zbk (wl l) (ts.drop j) g /\ Stp (wl l) wr w0.heap.size c b fr gv g) (fun i _ => ts.length - (RowKit.intOf i).toNat)
 case atStart => exact ⟨0, by omega, rfl, zp _ _, f, rfl, HS.out⟩
 case round =>
   obtain ⟨j, hj, rfl, hg, g, hq, hst⟩ := hrel
   by_cases hlj : j < ts.length
   . obtain ⟨t, hx⟩ : ∃ t, ts[j]? = some t := ⟨_, List.getElem?_eq_getElem hlj⟩
     have hdr : ts.drop j = t :: ts.drop (j + 1) := by
       rw [List.drop_eq_getElem_cons hlj]
       congr 1
       have := List.getElem?_eq_getElem hlj
       rw [this] at hx
       simpa using hx
     rw [hdr] at hq
     obtain ⟨_, h2 | ⟨b5, off5, rfl, hlt5, hc5⟩⟩ := zcs hg HR.out HNE.out
     . rw [h2] at hlj; simp at hlj
     have x0 := hc5 j t hx
     have hji : (j : Int) < (ts.length : Int) := by omega
     have hj0 : (0 : Int) <= (j : Int) := Int.natCast_nonneg _
     have hbr := zj HB.out hg HCB.out
     have HTL := Hq (HT.out t (List.mem_of_getElem? hx))
     have HKN := Hq (zsw l L b c w0.heap.size fr gv g t w0 wr HW.out rfl hbr hst HTL.out)
     have HG := Hq hg
     have HQ := Hq hq
     have HST := Hq hst
     have HBR := Hq hbr
     have HKOK := Hq hst.kok
     have x9 : (⟨b5, off5, none⟩ : Addr).block ≠ c := HNE.out _ rfl
     clear hx hdr hc5 hg hq hst hbr
     by_cases hk : zh (wl l) t = 0
     . rw [if_pos hk] at HKN
       cases hp : zkg g with
       | none =>
         have HN := Hq (z2e (L := wl l) (t := t) (r := ts.drop (j + 1)) hp)
         have HP := Hq hp
         clear hp hk
         go_wp2_with fail
         refine HKN.out.mono ?_
         rintro e w3 ⟨rfl, hb3⟩
         have HS3 := Hq (HST.out.below hb3)
         have HG3 := Hq (zay HG.out hb3)
         have HPO := Hq (fun W (hw : Below w3.heap.size w3 W) => z3n (wl l) b c w0.heap.size fr gv g W (HS3.out.below hw) HP.out)
         have HSC := Hq (fun W (hw : Below w3.heap.size w3 W) => (show W.cell? ⟨c, 0, none⟩ = some (.map (some b)) from by obtain ⟨_, _, _, _, h⟩ := HS3.out.below hw; exact h.blk.cell 0))
         have hc3 : c < w3.heap.size := by obtain ⟨_, _, _, _, h⟩ := HS3.out; exact h.blk.lt
         clear hb3 x0
         go_upto_region 4 with fail
         refine Code.wp_mono (Q := z8i c w3) ?_ ?_
         . rintro e a' w' ⟨rfl, hd', hg'⟩
           go_wp2_with fail
           exact ⟨hd', zc0 HG3.out hg', Or.inl ⟨by rw [HQ.out, HN.out], rfl⟩⟩
         refine wp_region_held_drew (S := fun W' => W'.cell? ⟨c, 0, none⟩ = some (.map (some b))) (by kernel_rfl) ?_ (fun hHeld => ?_)
         . exact HSC.out _ (Below.refl _ _).drew
         refine wpAnyH_take (i := 0) (oi := { dst := some 15, op := Op.move (Operand.tmp 0), type := 218, pos := "frame.go:117", after := #[], guard := none }) (v := ?_) rfl (by kernel_rfl) (by kernel_rfl) (by kernel_rfl) (fun _ _ _ h => h) (Or.inl ⟨by rfl, ?_⟩) (by assumption) ?_
         rotate_left
         . (intro w hSw; (try dsimp only at hSw); go_simp; try with_reducible rfl)
         refine wpAnyH_take (i := 1) (oi := { dst := some 16, op := Op.nilCheck (Operand.tmp 15), type := 0, pos := "frame.go:117", after := #[{ on := 0, ground := Ground.data }], guard := none }) (v := ?_) rfl (by kernel_rfl) (by kernel_rfl) (by kernel_rfl) (fun _ _ _ h => h) (Or.inl ⟨by rfl, ?_⟩) (by assumption) ?_
         rotate_left
         . (intro w hSw; (try dsimp only at hSw); go_simp; try with_reducible rfl)
         refine wpAnyH_take (i := 2) (oi := { dst := some 17, op := Op.fieldAddr 221 (Operand.tmp 16) 0, type := 0, pos := "frame.go:117", after := #[{ on := 1, ground := Ground.data }], guard := none }) (v := ?_) rfl (by kernel_rfl) (by kernel_rfl) (by kernel_rfl) (fun _ _ _ h => h) (Or.inl ⟨by rfl, ?_⟩) (by assumption) ?_
         rotate_left
         . (intro w hSw; (try dsimp only at hSw); go_simp; try with_reducible rfl)
         refine wpAnyH_take (i := 3) (oi := { dst := some 18, op := Op.load 74 (Operand.tmp 17), type := 74, pos := "frame.go:117", after := #[{ on := 2, ground := Ground.data }], guard := none }) (v := ?_) rfl (by kernel_rfl) (by kernel_rfl) (by kernel_rfl) (fun _ _ _ h => h) (Or.inl ⟨by rfl, ?_⟩) (by assumption) ?_
         rotate_left
         . (intro w hSw; (try dsimp only at hSw); go_simp; try with_reducible rfl)
         refine wpAnyH_take (i := 4) (oi := { dst := some 19, op := Op.move (Operand.tmp 0), type := 218, pos := "frame.go:117", after := #[], guard := none }) (v := ?_) rfl (by kernel_rfl) (by kernel_rfl) (by kernel_rfl) (fun _ _ _ h => h) (Or.inl ⟨by rfl, ?_⟩) (by assumption) ?_
         rotate_left
         . (intro w hSw; (try dsimp only at hSw); go_simp; try with_reducible rfl)
         refine wpAnyH_take (i := 6) (oi := { dst := some 21, op := Op.move (Operand.tmp 5), type := 9, pos := "frame.go:117", after := #[], guard := none }) (v := ?_) rfl (by kernel_rfl) (by kernel_rfl) (by kernel_rfl) (fun _ _ _ h => h) (Or.inl ⟨by rfl, ?_⟩) (by assumption) ?_
         rotate_left
         . (intro w hSw; (try dsimp only at hSw); go_simp; try with_reducible rfl)
         try simp only [Act.put, List.setIfInBounds_toArray, List.set_cons_zero, List.set_cons_succ]
         refine wpAnyH_ready (rs := [5]) (by kernel_rfl) (by simp) ?_
         refine AllReadyH.cons (o := { dst := some 20, op := Op.call { callee := Callee.value (Operand.func 189), args := #[Operand.tmp 19], argTypes := #[218] }, type := 9, pos := "frame.go:117", after := #[{ on := 4, ground := Ground.data }], guard := none }) rfl (fun K hK => ?_) AllReadyH.nil
         go_simp
         go_wp2_with ((go_at_call 189; refine (HPO.out _ (Below.refl _ _).drew).mono ?_; rintro e w4 ⟨rfl, hg4⟩))
         exact ⟨rfl, rfl, zc0 (zb9 (zp w3 c)) hg4⟩
       | some kg =>
         obtain ⟨k, g2⟩ := kg
         obtain ⟨_, hkk, _⟩ := HKOK.out.pop hp
         have HPK := Hq hp
         have HKT := Hq hk
         have HDD := Hq (fun W (hw : Below w0.heap.size w0 W) => z4c l L b hkk hk W (HW.out.below hw))
         obtain ⟨q, hq⟩ : ∃ q, q = zlp (wl l) k t := ⟨_, rfl⟩
         rw [<- hq] at HDD
         have HQD := Hq hq
         clear hp hk hkk hq
         go_wp2_with fail
         refine HKN.out.mono ?_
         rintro e w3 ⟨rfl, hb3⟩
         have HS3 := Hq (HST.out.below hb3)
         have HG3 := Hq (zay HG.out hb3)
         have HBR3 := Hq (zj HB.out HG3.out HCB.out)
         have HPO := Hq (fun W (hw : Below w3.heap.size w3 W) => z1y (wl l) b c w0.heap.size fr gv g g2 k W (HS3.out.below hw) HPK.out)
         have HSC := Hq (fun W (hw : Below w3.heap.size w3 W) => (HS3.out.below hw).cell0)
         have hc3 : c < w3.heap.size := HS3.out.lt
         clear hb3 x0
         cases q with
         | false =>
           have HDX := Hq HDD.out
           have HN := Hq (z1d (r := ts.drop (j + 1)) HPK.out HQD.out.symm)
           go_upto_region 4 with fail
           refine Code.wp_mono (Q := z8i c w3) ?_ ?_
           . rintro e a' w' ⟨rfl, hd', hg'⟩
             go_wp2_with fail
             exact ⟨hd', zc0 HG3.out hg', Or.inl ⟨by rw [HQ.out, HN.out], rfl⟩⟩
           refine wp_region_held_drew (S := fun W' => W'.cell? ⟨c, 0, none⟩ = some (.map (some b))) (by kernel_rfl) ?_ (fun hHeld => ?_)
           . exact HSC.out _ (Below.refl _ _).drew
           refine wpAnyH_take (i := 0) (oi := { dst := some 15, op := Op.move (Operand.tmp 0), type := 218, pos := "frame.go:117", after := #[], guard := none }) (v := ?_) rfl (by kernel_rfl) (by kernel_rfl) (by kernel_rfl) (fun _ _ _ h => h) (Or.inl ⟨by rfl, ?_⟩) (by assumption) ?_
           rotate_left
           . (intro w hSw; (try dsimp only at hSw); go_simp; try with_reducible rfl)
           refine wpAnyH_take (i := 1) (oi := { dst := some 16, op := Op.nilCheck (Operand.tmp 15), type := 0, pos := "frame.go:117", after := #[{ on := 0, ground := Ground.data }], guard := none }) (v := ?_) rfl (by kernel_rfl) (by kernel_rfl) (by kernel_rfl) (fun _ _ _ h => h) (Or.inl ⟨by rfl, ?_⟩) (by assumption) ?_
           rotate_left
           . (intro w hSw; (try dsimp only at hSw); go_simp; try with_reducible rfl)
           refine wpAnyH_take (i := 2) (oi := { dst := some 17, op := Op.fieldAddr 221 (Operand.tmp 16) 0, type := 0, pos := "frame.go:117", after := #[{ on := 1, ground := Ground.data }], guard := none }) (v := ?_) rfl (by kernel_rfl) (by kernel_rfl) (by kernel_rfl) (fun _ _ _ h => h) (Or.inl ⟨by rfl, ?_⟩) (by assumption) ?_
           rotate_left
           . (intro w hSw; (try dsimp only at hSw); go_simp; try with_reducible rfl)
           refine wpAnyH_take (i := 3) (oi := { dst := some 18, op := Op.load 74 (Operand.tmp 17), type := 74, pos := "frame.go:117", after := #[{ on := 2, ground := Ground.data }], guard := none }) (v := ?_) rfl (by kernel_rfl) (by kernel_rfl) (by kernel_rfl) (fun _ _ _ h => h) (Or.inl ⟨by rfl, ?_⟩) (by assumption) ?_
           rotate_left
           . (intro w hSw; (try dsimp only at hSw); go_simp; try with_reducible rfl)
           refine wpAnyH_take (i := 4) (oi := { dst := some 19, op := Op.move (Operand.tmp 0), type := 218, pos := "frame.go:117", after := #[], guard := none }) (v := ?_) rfl (by kernel_rfl) (by kernel_rfl) (by kernel_rfl) (fun _ _ _ h => h) (Or.inl ⟨by rfl, ?_⟩) (by assumption) ?_
           rotate_left
           . (intro w hSw; (try dsimp only at hSw); go_simp; try with_reducible rfl)
           refine wpAnyH_take (i := 6) (oi := { dst := some 21, op := Op.move (Operand.tmp 5), type := 9, pos := "frame.go:117", after := #[], guard := none }) (v := ?_) rfl (by kernel_rfl) (by kernel_rfl) (by kernel_rfl) (fun _ _ _ h => h) (Or.inl ⟨by rfl, ?_⟩) (by assumption) ?_
           rotate_left
           . (intro w hSw; (try dsimp only at hSw); go_simp; try with_reducible rfl)
           try simp only [Act.put, List.setIfInBounds_toArray, List.set_cons_zero, List.set_cons_succ]
           refine wpAnyH_ready (rs := [5]) (by kernel_rfl) (by simp) ?_
           refine AllReadyH.cons (o := { dst := some 20, op := Op.call { callee := Callee.value (Operand.func 189), args := #[Operand.tmp 19], argTypes := #[218] }, type := 9, pos := "frame.go:117", after := #[{ on := 4, ground := Ground.data }], guard := none }) rfl (fun K hK => ?_) AllReadyH.nil
           go_simp
           go_wp2_with ((go_at_call 189; refine (HPO.out _ (Below.refl _ _).drew).mono ?_; rintro e w4 ⟨rfl, hg4, hs4⟩))
           refine hK.out _ _ ?_ (fun hHeld => ?_)
           . exact hs4.cell0
           clear hK K
           try simp only [Act.put, List.setIfInBounds_toArray, List.set_cons_zero, List.set_cons_succ]
           refine wpAnyH_ready (rs := [7]) (by kernel_rfl) (by simp) ?_
           refine AllReadyH.cons (o := { dst := some 22, op := Op.call { callee := Callee.value (Operand.func 50), args := #[Operand.tmp 18, Operand.tmp 20, Operand.tmp 21], argTypes := #[74, 9, 9] }, type := 4, pos := "frame.go:117", after := #[{ on := 3, ground := Ground.data }, { on := 5, ground := Ground.data }, { on := 6, ground := Ground.data }, { on := 5, ground := Ground.chain }], guard := none }) rfl (fun K hK => ?_) AllReadyH.nil
           go_simp
           go_wp2_with ((go_at_call 50; refine (HDX.out _ (zj HBR3.out (zc0 (zb9 (zp w3 c)) hg4) HCB.out)).mono ?_; rintro e w5 ⟨rfl, hb5⟩))
           refine hK.out _ _ ?_ (fun hHeld => ?_)
           . exact (hs4.below hb5).cell0
           clear hK K
           try simp only [Act.put, List.setIfInBounds_toArray, List.set_cons_zero, List.set_cons_succ]
           refine wpAnyH_ready (rs := [8]) (by kernel_rfl) (by simp) ?_
           refine AllReadyH.cons (o := { dst := some 23, op := Op.call { callee := Callee.value (Operand.func 188), args := #[Operand.tmp 22], argTypes := #[4] }, type := 0, pos := "frame.go:117", after := #[{ on := 7, ground := Ground.data }, { on := 7, ground := Ground.chain }], guard := none }) rfl (fun K hK => ?_) AllReadyH.nil
           go_simp
           go_wp2_with ((go_at_call 188; refine (zdr _).mono ?_; rintro e w6 ⟨rfl, rfl⟩))
           exact ⟨rfl, rfl, zay (zc0 (zb9 (zp w3 c)) hg4) hb5⟩
         | true =>
           have HDX := Hq HDD.out
           have HN := Hq (ztr (r := ts.drop (j + 1)) HKT.out HPK.out HQD.out.symm)
           go_upto_region 4 with fail
           go_region_held3 (fun W' => W'.cell? ⟨c, 0, none⟩ = some (.map (some b)))
             (first | exact HSC.out _ (Below.refl _ _) | exact HSC.out _ (Below.refl _ _).drew | exact hs4.cell0 | exact (hs4.below hb5).cell0)
             ((first
             | (go_at_call 189
                refine (HPO.out _ (Below.refl _ _).drew).mono ?_
                rintro e w4 ⟨rfl, hg4, hs4⟩)
             | (go_at_call 50
                refine (HDX.out _ (zj HBR3.out (zc0 (zb9 (zp w3 c)) hg4) HCB.out)).mono ?_
                rintro e w5 ⟨rfl, hb5⟩)
             | (go_at_call 188
                refine (zev _).mono ?_
                rintro e w6 ⟨rfl, rfl⟩)))
           all_goals
             have HG6 := Hq (zc0 HG3.out (zay (zc0 (zb9 (zp w3 c)) hg4) hb5))
             have HS6 := Hq (hs4.below hb5)
             clear hg4 hs4 hb5
             go_wp2_with fail
             go_roundw
             case rel => exact ⟨j + 1, by omega, by go_num, HG6.out, g2, by rw [HQ.out, HN.out], HS6.out⟩
             case measure => simp [RowKit.intOf]; omega
     . rw [if_neg hk] at HKN
       have HN := Hq (z1k (r := ts.drop (j + 1)) (f := g) hk)
       clear hk
       go_wp2_with fail
       refine HKN.out.mono ?_
       rintro e w3 ⟨rfl, hb3⟩
       have HG3 := Hq (zay HG.out hb3)
       clear hb3
       go_wp2_with fail
       exact ⟨rfl, HG3.out, Or.inl ⟨by rw [HQ.out, HN.out], rfl⟩⟩
   . obtain rfl : j = ts.length := by omega
     have HG := Hq hg
     have HST := Hq hst
     have HQ := Hq hq
     clear hg hst hq
     go_wp2_with fail
     go_end0
     exact ⟨HG.out, Or.inr ⟨g, by rw [HQ.out, List.drop_length]; rfl, rfl, HST.out⟩⟩
open Go.Sort
theorem z3a {f : FrR} (h : zkg f = none) : zvf f = none := by unfold zvf; rw [h]; rfl
theorem z7x {f g : FrR} {k : Nm} (h : zkg f = some (k, g)) (hq : ((k == [78]) || zbb k) = false) : zvf f = none := by unfold zvf; rw [h]; simp only [Option.elim_some]; rw [hq]; rfl
theorem z5v {f g : FrR} {k : Nm} (h : zkg f = some (k, g)) (hq : ((k == [78]) || zbb k) = true) : zvf f = some (k, g) := by unfold zvf; rw [h]; simp only [Option.elim_some]; rw [hq]; rfl
theorem KOk.ref {L : List zd} {f g : FrR} {k : Nm} (h : KOk L f) (hp : zvf f = some (k, g)) : KOk L g /\ zh L k = 0 /\ g.loc = f.loc /\ ((k == [78]) || zbb k) = true := by
 cases hq : zkg f with
 | none => rw [z3a hq] at hp; cases hp
 | some p =>
   obtain ⟨k2, g2⟩ := p
   cases hr : ((k2 == [78]) || zbb k2) with
   | false => rw [z7x hq hr] at hp; cases hp
   | true =>
     rw [z5v hq hr] at hp
     simp only [Option.some.injEq, Prod.mk.injEq] at hp
     obtain ⟨rfl, rfl⟩ := hp
     obtain ⟨h1, h2, h3⟩ := h.pop hq
     exact ⟨h1, h2, h3, hr⟩
theorem zqq (W : World) (t : Nm) : zdl (W.alloc (.cells #[.string ⟨⟨t⟩⟩] 9)) (some ⟨W.heap.size, 0, none⟩) 1 [t] :=
 ⟨Nat.le_refl _, Or.inr ⟨_, 0, rfl, by simp, fun j x hx => by
   cases j with
   | zero =>
     simp only [List.getElem?_cons_zero, Option.some.injEq] at hx
     subst hx
     exact (zg W _ 9 #[.string ⟨⟨t⟩⟩] rfl).cell 0
   | succ j => simp at hx⟩⟩
theorem zm5 (l : List zd) (L : List CP) (b c : Nat) (fr gv : Nm) (f : FrR) (t : Nm) (w0 w : World) (hW : WOk w0 b l L) (hb : Below w0.heap.size w0 w) (hs : Stp (wl l) w w0.heap.size c b fr gv f) (ht : t.length <= 8388608) :
   Calls Tryz.prog 190 #[.pointer (some ⟨c, 0, none⟩), .slice (some ⟨w.heap.size, 0, none⟩) 1 1] (w.alloc (.cells #[.string ⟨⟨t⟩⟩] 9)) (fun e w' => w.grownBy w' (some c) /\ ((zbk (wl l) [t] f = none /\ e = .panicked zge) \/ ∃ g, zbk (wl l) [t] f = some g /\ e = .returned (.tuple #[]) /\ Stp (wl l) w' w0.heap.size c b fr gv g)) := by
 have hal : Below w.heap.size w (w.alloc (.cells #[.string ⟨⟨t⟩⟩] 9)) := ze (Below.refl _ _) _
 refine (zwh l L b c w0.heap.size fr gv f [t] (some ⟨w.heap.size, 0, none⟩) 1 w0 _ hW rfl (hb.trans (hal.mono hb.size)) (hs.below hal) (zqq w t) (fun ad e => by simp only [Option.some.injEq] at e; subst e; have := hs.lt; show w.heap.size ≠ c; omega) (by simp) (by simpa using ht)).mono ?_
 rintro e w' ⟨hg, h⟩
 exact ⟨zc0 (zay (zp w c) hal) hg, h⟩
noncomputable def ArrD (L : List zd) (k t : Nm) : Bool := (k == [78]) || ((k.head? == some 91) && zlp L k.tail t && (zbb k.tail == zbb t))
end Go.Proofs.YtbnkckjdgpiggaaGreatDoor
