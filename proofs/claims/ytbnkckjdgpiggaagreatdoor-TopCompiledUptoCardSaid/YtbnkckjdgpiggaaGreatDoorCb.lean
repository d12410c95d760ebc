import Derived.Test.YtbnkckjdgpiggaaGreatDoorJa
namespace Go.Proofs.YtbnkckjdgpiggaaGreatDoor
set_option maxRecDepth 100000
set_option maxHeartbeats 16000000
set_option linter.unusedVariables false
set_option linter.unusedSimpArgs false
open Go.RowKit Go.Shelf Go.Lib
theorem z2d (W : World) (x : Nm) (B : Nat) (hB : B <= W.heap.size) : (W.alloc (.cells #[.string ⟨⟨x⟩⟩] 9)).ownsRow B 9 1 (.slice (some ⟨W.heap.size, 0, none⟩) 1 1) 1 [zz x] :=
 ⟨by simp, .inr ⟨W.heap.size, 1, #[.string ⟨⟨x⟩⟩], rfl, hB, heap_alloc_new W _, Nat.le_refl _, by unfold maxLen; omega, rfl, rfl⟩⟩
theorem zo8 {W W' : World} {B g : Nat} {T : TypeId} {cs : Array Value} (h : Blk W g T cs) (hb : Below B W W') (hg : g < B) : Blk W' g T cs := (hb.block g hg).trans h
def z64 (f : FrR) (g : Nm) (w : World) (e : Ending) (w' : World) : Prop :=
 Below w.heap.size w w' /\ ∃ q, e = .returned (.tuple #[frV f q, .string ⟨⟨g⟩⟩]) /\ zfg w' f q /\ zs5 w.heap.size q
theorem zy7 (c : Nm) (m : zo) (p : zaf) (w : World) (hm : MOk m) (hc : c.length <= 1048576) (hty : m.ty.length <= 8388608) :
   Calls Tryz.prog 80 #[.string ⟨⟨c⟩⟩, zca m p] w (z64 (zc8 c m) (zdw m) w) := by
 have HTH := Hq (fun w => zcg c hc w)
 have HMC := Hq (fun w => zat m.ty hty w)
 have HAG := Hq (zfq hm.ty)
 have HGL := Hq (zrs hm c)
 have HLO := Hq hm.loc
 obtain ⟨w1, hw1⟩ : ∃ w1, w1 = (w.alloc (.cells (zj4 m p) 45)).alloc (.cells #[.slice none 0 0, .slice none 0 0] 141) := ⟨_, rfl⟩
 have HB1 := Hq (show Below w.heap.size w w1 by rw [hw1]; exact ze (ze (Below.refl _ _) _) _)
 have HM1 := Hq (show Blk w1 w.heap.size 45 (zj4 m p) by rw [hw1]; exact (zg _ _ _ _ rfl).alloc _)
 have HR1 := Hq (show Blk w1 (w.heap.size + 1) 141 #[.slice none 0 0, .slice none 0 0] by rw [hw1]; exact zg _ _ _ _ (by simp))
 have hs1 : w1.heap.size = w.heap.size + 1 + 1 := by rw [hw1]; simp
 clear hm
 rw [ziw]
 have z1 := (zei HM1.out).2.1
 have z2 := HM1.out.lt
 unfold zj4 at hw1 |-
 go_enter Tryz.func80, Tryz.ntmps80
 go_upto_region 1 with fail
 rw [<- hw1]
 clear hw1
 go_wp2_with fail
 refine (HMC.out _).mono ?_
 rintro e w2 ⟨hb2, ⟨rfl, hn⟩ | ⟨v, A, g, rfl, hmo, ho⟩⟩
 . exact absurd HAG.out (hn _ _)
 obtain ⟨rfl, rfl⟩ := zap hmo HAG.out
 obtain ⟨Av, Ac, rfl, hrA⟩ := zl ho
 have HRA := Hq hrA
 have HA5 := Hq hmo.2.2.1
 have hs2 := hb2.size
 have HB2 := Hq (zc HB1.out hb2)
 have HM2 := Hq (HM1.out.below hb2)
 have HR2 := Hq (HR1.out.below hb2)
 have zs := (zei HM2.out).2.2.1
 have z3 := HM2.out.lt
 clear z1 hb2 ho hmo hrA HMC
 obtain ⟨F, hF⟩ : ∃ F, F = w2.heap.size := ⟨_, rfl⟩
 obtain ⟨w3, hw3⟩ : ∃ w3, w3 = w2.alloc (.cells #[.slice none 0 0, .slice none 0 0] 141) := ⟨_, rfl⟩
 have HF3 := Hq (show Blk w3 F 141 #[.slice none 0 0, .slice none 0 0] by rw [hw3, hF]; exact zg _ _ _ _ rfl)
 have HB3 := Hq (show Below F w2 w3 by rw [hw3, hF]; exact (Below.refl _ _).alloc (Nat.le_refl _) _)
 have hs3 : w3.heap.size = F + 1 := by rw [hw3, hF]; simp
 have key : ∃ X4, X4 ++ zgl m = zdv c m /\ ((m.stat = true /\ X4 = []) \/ (m.stat = false /\ X4 = [z7 c])) := by
   cases hst : m.stat with
   | true => exact ⟨[], by simp [zdv, hst], Or.inl ⟨rfl, rfl⟩⟩
   | false => exact ⟨[z7 c], by simp [zdv, hst], Or.inr ⟨rfl, rfl⟩⟩
 obtain ⟨X4, hX4, hcase⟩ := key
 have HX4 := Hq hX4
 have hx1 : X4.length <= 1 := by rcases hcase with ⟨_, e⟩ | ⟨_, e⟩ <;> rw [e] <;> simp
 clear hX4
 have HFW := Hq hF
 have HW3 := Hq hw3
 clear hF hw3
 have HFE := Hq (show zc8 c m = ⟨zdv c m ++ List.replicate (m.loc.toNat - (zdv c m).length) [84], []⟩ from rfl)
 generalize zc8 c m = FF at *
 rcases hcase with ⟨hst, hX⟩ | ⟨hst, hX⟩
 . rw [hst] at zs
   clear hst
   go_upto_region 7 with fail
   rw [<- HW3.out, <- HFW.out]
   obtain ⟨v4, w4, hv4, hw4, ho4, hf4, hb4, hs4⟩ : ∃ v4 w4, v4 = Value.slice none 0 0 /\ w4 = w3 /\ w4.ownsRow (F + 1) 9 1 v4 X4.length (X4.map zz) /\ Blk w4 F 141 #[v4, .slice none 0 0] /\ Below F w2 w4 /\ F + 1 <= w4.heap.size :=
     ⟨_, _, rfl, rfl, by rw [hX]; exact World.ownsRow_nil _ _ _ _, HF3.out, HB3.out, by omega⟩
   rw [<- hw4]
   clear hw4 zs HTH
   clear hv4
   have HXX := Hq hX
   clear hX
   obtain ⟨a4, c4, rfl, _⟩ := zy ho4
   have HO4 := Hq ho4
   have HF4 := Hq hf4
   have HB4 := Hq hb4
   have f0 := hf4.cell 0
   have f1 := hf4.lt
   have HSA := Hq (zh9 (HRA.out.below (show Below w2.heap.size w2 w4 by rw [<- HFW.out]; exact hb4)))
   clear ho4 hb4 hf4
   go_wp2_with (at_builtin; refine z8 zdu rfl _ _ rfl (F + 1) _ X4.length (X4.map zz) rfl HO4.out _ (zgl m).length ((zgl m).map zz) rfl HSA.out ?c2 ?c3 ?c4 ?_)
   case c2 => have := HA5.out; omega
   case c3 => have := HA5.out; omega
   case c4 => exact hs4
   intro v5 w5 ho5 hg5
   have hne5 : (Value.slice a4 X4.length c4).ownBlock ≠ some F := fun e => by have := (HO4.out.lt _ e).1; omega
   have hf5 := zfm HF4.out hg5 hne5
   have hb5 : Below F w2 w5 := HB4.out.grown hg5 (by omega) (fun k hk => by have := (HO4.out.lt k hk).1; omega)
   have hs5 := hg5.size
   obtain ⟨a5, c5, rfl, _⟩ := zy ho5
   have f2 := hf5.cell 0
   have f3 := hf5.frozen 0
   have f4 := hf5.lt
   obtain ⟨w6, hw6⟩ : ∃ w6, w6 = w5.setCell ⟨F, 0, none⟩ (.slice a5 (X4.length + (zgl m).length) c5) := ⟨_, rfl⟩
   have HF6 := Hq (show Blk w6 F 141 #[.slice a5 (X4.length + (zgl m).length) c5, .slice none 0 0] by rw [hw6]; exact zm hf5 0 _)
   have HB6 := Hq (show Below F w2 w6 by rw [hw6]; exact hb5.setCell (p := ⟨F, 0, none⟩) (Nat.le_refl _) _)
   have hne6 : (Value.slice a5 (X4.length + (zgl m).length) c5).ownBlock ≠ some F := fun e => by have := (ho5.lt _ e).1; omega
   have HO6 := Hq (show w6.ownsRow (F + 1) 9 1 (.slice a5 (X4.length + (zgl m).length) c5) (zdv c m).length ((zdv c m).map zz) by
     rw [hw6, <- HX4.out, List.length_append, List.map_append]
     exact zax ho5 hne6 _)
   have hs6 : w6.heap.size = w5.heap.size := by rw [hw6]; simp [World.setCell]
   clear ho5 hg5 hf5 hb5 HSA f0 f1 hne5 hne6
   go_upto_region 8 with fail
   rw [<- hw6]
   clear hw6 f2 f3 f4
   generalize zdv c m = G at *
   go_loopg [] (m.loc.toNat - G.length) (fun gk wr => ∃ (j : Nat) (v7 : Value), (j : Int) + G.length <= m.loc /\ gk = m.loc.toNat - G.length - j /\ Blk wr F 141 #[v7, .slice none 0 0] /\ Below F w2 wr /\ wr.ownsRow (F + 1) 9 1 v7 (G.length + j) ((G ++ List.replicate j [84]).map zz) /\ F + 1 <= wr.heap.size)
   case atStart => exact ⟨0, _, by have := HGL.out; omega, by omega, HF6.out, HB6.out, by simpa using HO6.out, by omega⟩
   case round =>
     obtain ⟨j, v7, hj, rfl, hf7, hb7, ho7, hs7⟩ := hrel
     obtain ⟨a7, c7, rfl, hc7⟩ := zy ho7
     have g0 := hf7.cell 0
     have g1 := hf7.lt
     have hm7 := zo8 HM2.out (hb7.mono (Nat.le_refl _)) (by have := HFW.out; omega)
     have g2 := (zei hm7).2.2.2.2.2.1
     have g3 := hm7.lt
     have HF7 := Hq hf7
     have HB7 := Hq hb7
     have HO7 := Hq ho7
     have HLO2 := HLO.out
     have hFw : w.heap.size + 1 < F := by have := HFW.out; omega
     clear hf7 hb7 ho7 hm7
     by_cases hlt : ((G.length + j : Nat) : Int) < m.loc
     . go_wp2_with (at_builtin; refine zt zdu rfl _ _ rfl (F + 1) _ (G.length + j) ((G ++ List.replicate j [84]).map zz) rfl ?d0 [zz [84]] rfl ?d1 _ rfl ?dg ?d2 ?d3 ?d4 ?_)
       case d0 => exact HO7.out
       case d1 => intro u hu; rw [List.mem_singleton.1 hu]; rfl
       case dg => rfl
       case d2 => omega
       case d3 => omega
       case d4 => exact hs7
       intro v8 w8 ho8 hg8
       have hne8 : (Value.slice a7 (G.length + j) c7).ownBlock ≠ some F := fun e => by have := (HO7.out.lt _ e).1; omega
       have hf8 := zfm (HF7.out.alloc _) hg8 hne8
       have hb8 : Below F w2 w8 := (HB7.out.alloc (by omega) _).grown hg8 (by simp; omega) (fun k hk => by have := (HO7.out.lt k hk).1; omega)
       have hs8 := hg8.size
       obtain ⟨a8, c8, rfl, _⟩ := zy ho8
       have f2 := hf8.cell 0
       have f3 := hf8.frozen 0
       have f4 := hf8.lt
       have hne9 : (Value.slice a8 (G.length + j + 1) c8).ownBlock ≠ some F := fun e => by have := (ho8.lt _ e).1; omega
       have HF9 := Hq (zm hf8 0 (.slice a8 (G.length + j + 1) c8))
       have HB9 := Hq (hb8.setCell (p := ⟨F, 0, none⟩) (Nat.le_refl _) (.slice a8 (G.length + j + 1) c8))
       have HO9 := Hq (show (w8.setCell ⟨F, 0, none⟩ (.slice a8 (G.length + j + 1) c8)).ownsRow (F + 1) 9 1 (.slice a8 (G.length + j + 1) c8) (G.length + (j + 1)) ((G ++ List.replicate (j + 1) [84]).map zz) by
         have := zax (g := F) (j := 0) ho8 hne9 (.slice a8 (G.length + j + 1) c8)
         simpa [List.replicate_succ', Nat.add_assoc] using this)
       have HS9 := Hq (show F + 1 <= (w8.setCell ⟨F, 0, none⟩ (.slice a8 (G.length + j + 1) c8)).heap.size by
         have e9 : (w8.setCell ⟨F, 0, none⟩ (.slice a8 (G.length + j + 1) c8)).heap.size = w8.heap.size := by simp [World.setCell]
         have e8 : ∀ o, (wr.alloc o).heap.size = wr.heap.size + 1 := fun o => by simp
         rw [e8] at hs8
         omega)
       clear ho8 hg8 hf8 hb8 hne8 hne9
       go_wp2_with fail
       go_roundg (m.loc.toNat - G.length - (j + 1))
       case measure => omega
       case rel => exact ⟨j + 1, _, by omega, rfl, HF9.out, HB9.out, HO9.out, HS9.out⟩
     . have HJL := Hq (show j = m.loc.toNat - G.length by omega)
       obtain ⟨a9, c9, e9, hr9⟩ := zl (A := G ++ List.replicate j [84]) (by simpa using HO7.out)
       simp only [Value.slice.injEq] at e9
       obtain ⟨rfl, hxx, rfl⟩ := e9
       clear hxx
       have hr7 := zo8 HR2.out (HB7.out.mono (Nat.le_refl _)) (by omega)
       have r0 := hr7.cell 0
       have r1 := hr7.cell 1
       have r2 := hr7.frozen 0
       have r3 := hr7.frozen 1
       have r4 := hr7.lt
       have g5 := HF7.out.cell 1
       have HR9 := Hq hr9
       have hk9 := zm (zm hr7 0 (.slice a7 (G.length + j) c7)) 1 (.slice none 0 0)
       have y0 := hk9.cell 0
       have y1 := hk9.cell 1
       have HN9 := Hq (show ∀ ad, a7 = some ad -> F + 1 <= ad.block from fun ad e => (HO7.out.lt ad.block (by rw [e]; rfl)).1)
       have HBE := Hq (show Below w.heap.size w ((wr.setCell ⟨w.heap.size + 1, 0, none⟩ (.slice a7 (G.length + j) c7)).setCell ⟨w.heap.size + 1, 1, none⟩ (.slice none 0 0)) from
         ((HB2.out.trans (HB7.out.mono (by omega))).setCell (p := ⟨w.heap.size + 1, 0, none⟩) (by show w.heap.size <= w.heap.size + 1; omega) _).setCell (p := ⟨w.heap.size + 1, 1, none⟩) (by show w.heap.size <= w.heap.size + 1; omega) _)
       have HSR := Hq (show zdl ((wr.setCell ⟨w.heap.size + 1, 0, none⟩ (.slice a7 (G.length + j) c7)).setCell ⟨w.heap.size + 1, 1, none⟩ (.slice none 0 0)) a7 c7 (G ++ List.replicate j [84]) from by
         refine zcs (zai (zai (zp wr (w.heap.size + 1)) 0 _) 1 _) hr9 (fun ad e => ?_)
         have := HN9.out ad e
         omega)
       clear hr9 hk9 hr7
       go_wp2_with fail
       refine bodyPost_ret (v := .tuple #[.agg #[.slice a7 (G.length + j) c7, .slice none 0 0], .string ⟨⟨zdw m⟩⟩]) (by simp [results, Tryz.results80, go_sem, y0, y1]) rfl ⟨HBE.out, ⟨a7, c7, none, 0⟩, ?_, ⟨?_, ?_⟩, ?_, ?_⟩
       . unfold frV; rw [HFE.out, <- HJL.out]; simp
       . rw [HFE.out]; rw [<- HJL.out]; exact HSR.out
       . rw [HFE.out]; exact ⟨Nat.le_refl _, Or.inl rfl⟩
       . intro ad e; have := HN9.out ad e; omega
       . intro ad e; cases e
 . rw [hst] at zs
   clear hst
   go_upto_region 6 with fail
   go_wp2_with fail
   refine (HTH.out _).mono ?_
   rintro e wt ⟨rfl, rfl⟩
   go_upto_region 7 with fail
   obtain ⟨v4, w4, hv4, hw4, ho4, hf4, hb4, hs4⟩ : ∃ v4 w4, v4 = Value.slice (some ⟨w2.heap.size + 1, 0, none⟩) 1 1 /\ w4 = (w2.alloc (.cells #[v4, .slice none 0 0] 141)).alloc (.cells #[.string ⟨⟨z7 c⟩⟩] 9) /\ w4.ownsRow (F + 1) 9 1 v4 X4.length (X4.map zz) /\ Blk w4 F 141 #[v4, .slice none 0 0] /\ Below F w2 w4 /\ F + 1 <= w4.heap.size :=
     ⟨_, _, rfl, rfl, by
       rw [hX, HFW.out]
       have := z2d (w2.alloc (.cells #[.slice (some ⟨w2.heap.size + 1, 0, none⟩) 1 1, .slice none 0 0] 141)) (z7 c) (w2.heap.size + 1) (by simp)
       simpa using this, by rw [HFW.out]; exact (zg _ _ _ _ rfl).alloc _, by rw [HFW.out]; exact ze (ze (Below.refl _ _) _) _, by rw [HFW.out]; simp⟩
   rw [<- hv4, <- hw4, <- HFW.out]
   clear hw4 zs HTH
   clear hv4
   have HXX := Hq hX
   clear hX
   obtain ⟨a4, c4, rfl, _⟩ := zy ho4
   have HO4 := Hq ho4
   have HF4 := Hq hf4
   have HB4 := Hq hb4
   have f0 := hf4.cell 0
   have f1 := hf4.lt
   have HSA := Hq (zh9 (HRA.out.below (show Below w2.heap.size w2 w4 by rw [<- HFW.out]; exact hb4)))
   clear ho4 hb4 hf4
   go_wp2_with (at_builtin; refine z8 zdu rfl _ _ rfl (F + 1) _ X4.length (X4.map zz) rfl HO4.out _ (zgl m).length ((zgl m).map zz) rfl HSA.out ?c2 ?c3 ?c4 ?_)
   case c2 => have := HA5.out; omega
   case c3 => have := HA5.out; omega
   case c4 => exact hs4
   intro v5 w5 ho5 hg5
   have hne5 : (Value.slice a4 X4.length c4).ownBlock ≠ some F := fun e => by have := (HO4.out.lt _ e).1; omega
   have hf5 := zfm HF4.out hg5 hne5
   have hb5 : Below F w2 w5 := HB4.out.grown hg5 (by omega) (fun k hk => by have := (HO4.out.lt k hk).1; omega)
   have hs5 := hg5.size
   obtain ⟨a5, c5, rfl, _⟩ := zy ho5
   have f2 := hf5.cell 0
   have f3 := hf5.frozen 0
   have f4 := hf5.lt
   obtain ⟨w6, hw6⟩ : ∃ w6, w6 = w5.setCell ⟨F, 0, none⟩ (.slice a5 (X4.length + (zgl m).length) c5) := ⟨_, rfl⟩
   have HF6 := Hq (show Blk w6 F 141 #[.slice a5 (X4.length + (zgl m).length) c5, .slice none 0 0] by rw [hw6]; exact zm hf5 0 _)
   have HB6 := Hq (show Below F w2 w6 by rw [hw6]; exact hb5.setCell (p := ⟨F, 0, none⟩) (Nat.le_refl _) _)
   have hne6 : (Value.slice a5 (X4.length + (zgl m).length) c5).ownBlock ≠ some F := fun e => by have := (ho5.lt _ e).1; omega
   have HO6 := Hq (show w6.ownsRow (F + 1) 9 1 (.slice a5 (X4.length + (zgl m).length) c5) (zdv c m).length ((zdv c m).map zz) by
     rw [hw6, <- HX4.out, List.length_append, List.map_append]
     exact zax ho5 hne6 _)
   have hs6 : w6.heap.size = w5.heap.size := by rw [hw6]; simp [World.setCell]
   clear ho5 hg5 hf5 hb5 HSA f0 f1 hne5 hne6
   go_upto_region 8 with fail
   rw [<- hw6]
   clear hw6 f2 f3 f4
   generalize zdv c m = G at *
   go_loopg [] (m.loc.toNat - G.length) (fun gk wr => ∃ (j : Nat) (v7 : Value), (j : Int) + G.length <= m.loc /\ gk = m.loc.toNat - G.length - j /\ Blk wr F 141 #[v7, .slice none 0 0] /\ Below F w2 wr /\ wr.ownsRow (F + 1) 9 1 v7 (G.length + j) ((G ++ List.replicate j [84]).map zz) /\ F + 1 <= wr.heap.size)
   case atStart => exact ⟨0, _, by have := HGL.out; omega, by omega, HF6.out, HB6.out, by simpa using HO6.out, by omega⟩
   case round =>
     obtain ⟨j, v7, hj, rfl, hf7, hb7, ho7, hs7⟩ := hrel
     obtain ⟨a7, c7, rfl, hc7⟩ := zy ho7
     have g0 := hf7.cell 0
     have g1 := hf7.lt
     have hm7 := zo8 HM2.out (hb7.mono (Nat.le_refl _)) (by have := HFW.out; omega)
     have g2 := (zei hm7).2.2.2.2.2.1
     have g3 := hm7.lt
     have HF7 := Hq hf7
     have HB7 := Hq hb7
     have HO7 := Hq ho7
     have HLO2 := HLO.out
     have hFw : w.heap.size + 1 < F := by have := HFW.out; omega
     clear hf7 hb7 ho7 hm7
     by_cases hlt : ((G.length + j : Nat) : Int) < m.loc
     . go_wp2_with (at_builtin; refine zt zdu rfl _ _ rfl (F + 1) _ (G.length + j) ((G ++ List.replicate j [84]).map zz) rfl ?d0 [zz [84]] rfl ?d1 _ rfl ?dg ?d2 ?d3 ?d4 ?_)
       case d0 => exact HO7.out
       case d1 => intro u hu; rw [List.mem_singleton.1 hu]; rfl
       case dg => rfl
       case d2 => omega
       case d3 => omega
       case d4 => exact hs7
       intro v8 w8 ho8 hg8
       have hne8 : (Value.slice a7 (G.length + j) c7).ownBlock ≠ some F := fun e => by have := (HO7.out.lt _ e).1; omega
       have hf8 := zfm (HF7.out.alloc _) hg8 hne8
       have hb8 : Below F w2 w8 := (HB7.out.alloc (by omega) _).grown hg8 (by simp; omega) (fun k hk => by have := (HO7.out.lt k hk).1; omega)
       have hs8 := hg8.size
       obtain ⟨a8, c8, rfl, _⟩ := zy ho8
       have f2 := hf8.cell 0
       have f3 := hf8.frozen 0
       have f4 := hf8.lt
       have hne9 : (Value.slice a8 (G.length + j + 1) c8).ownBlock ≠ some F := fun e => by have := (ho8.lt _ e).1; omega
       have HF9 := Hq (zm hf8 0 (.slice a8 (G.length + j + 1) c8))
       have HB9 := Hq (hb8.setCell (p := ⟨F, 0, none⟩) (Nat.le_refl _) (.slice a8 (G.length + j + 1) c8))
       have HO9 := Hq (show (w8.setCell ⟨F, 0, none⟩ (.slice a8 (G.length + j + 1) c8)).ownsRow (F + 1) 9 1 (.slice a8 (G.length + j + 1) c8) (G.length + (j + 1)) ((G ++ List.replicate (j + 1) [84]).map zz) by
         have := zax (g := F) (j := 0) ho8 hne9 (.slice a8 (G.length + j + 1) c8)
         simpa [List.replicate_succ', Nat.add_assoc] using this)
       have HS9 := Hq (show F + 1 <= (w8.setCell ⟨F, 0, none⟩ (.slice a8 (G.length + j + 1) c8)).heap.size by
         have e9 : (w8.setCell ⟨F, 0, none⟩ (.slice a8 (G.length + j + 1) c8)).heap.size = w8.heap.size := by simp [World.setCell]
         have e8 : ∀ o, (wr.alloc o).heap.size = wr.heap.size + 1 := fun o => by simp
         rw [e8] at hs8
         omega)
       clear ho8 hg8 hf8 hb8 hne8 hne9
       go_wp2_with fail
       go_roundg (m.loc.toNat - G.length - (j + 1))
       case measure => omega
       case rel => exact ⟨j + 1, _, by omega, rfl, HF9.out, HB9.out, HO9.out, HS9.out⟩
     . have HJL := Hq (show j = m.loc.toNat - G.length by omega)
       obtain ⟨a9, c9, e9, hr9⟩ := zl (A := G ++ List.replicate j [84]) (by simpa using HO7.out)
       simp only [Value.slice.injEq] at e9
       obtain ⟨rfl, hxx, rfl⟩ := e9
       clear hxx
       have hr7 := zo8 HR2.out (HB7.out.mono (Nat.le_refl _)) (by omega)
       have r0 := hr7.cell 0
       have r1 := hr7.cell 1
       have r2 := hr7.frozen 0
       have r3 := hr7.frozen 1
       have r4 := hr7.lt
       have g5 := HF7.out.cell 1
       have HR9 := Hq hr9
       have hk9 := zm (zm hr7 0 (.slice a7 (G.length + j) c7)) 1 (.slice none 0 0)
       have y0 := hk9.cell 0
       have y1 := hk9.cell 1
       have HN9 := Hq (show ∀ ad, a7 = some ad -> F + 1 <= ad.block from fun ad e => (HO7.out.lt ad.block (by rw [e]; rfl)).1)
       have HBE := Hq (show Below w.heap.size w ((wr.setCell ⟨w.heap.size + 1, 0, none⟩ (.slice a7 (G.length + j) c7)).setCell ⟨w.heap.size + 1, 1, none⟩ (.slice none 0 0)) from
         ((HB2.out.trans (HB7.out.mono (by omega))).setCell (p := ⟨w.heap.size + 1, 0, none⟩) (by show w.heap.size <= w.heap.size + 1; omega) _).setCell (p := ⟨w.heap.size + 1, 1, none⟩) (by show w.heap.size <= w.heap.size + 1; omega) _)
       have HSR := Hq (show zdl ((wr.setCell ⟨w.heap.size + 1, 0, none⟩ (.slice a7 (G.length + j) c7)).setCell ⟨w.heap.size + 1, 1, none⟩ (.slice none 0 0)) a7 c7 (G ++ List.replicate j [84]) from by
         refine zcs (zai (zai (zp wr (w.heap.size + 1)) 0 _) 1 _) hr9 (fun ad e => ?_)
         have := HN9.out ad e
         omega)
       clear hr9 hk9 hr7
       go_wp2_with fail
       refine bodyPost_ret (v := .tuple #[.agg #[.slice a7 (G.length + j) c7, .slice none 0 0], .string ⟨⟨zdw m⟩⟩]) (by simp [results, Tryz.results80, go_sem, y0, y1]) rfl ⟨HBE.out, ⟨a7, c7, none, 0⟩, ?_, ⟨?_, ?_⟩, ?_, ?_⟩
       . unfold frV; rw [HFE.out, <- HJL.out]; simp
       . rw [HFE.out]; rw [<- HJL.out]; exact HSR.out
       . rw [HFE.out]; exact ⟨Nat.le_refl _, Or.inl rfl⟩
       . intro ad e; have := HN9.out ad e; omega
       . intro ad e; cases e
end Go.Proofs.YtbnkckjdgpiggaaGreatDoor
