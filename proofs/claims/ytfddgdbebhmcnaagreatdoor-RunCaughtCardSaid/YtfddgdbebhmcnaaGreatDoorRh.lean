import Derived.Test.YtfddgdbebhmcnaaGreatDoorRg
import Derived.Test.YtfddgdbebhmcnaaGreatDoorRf
namespace Go.Proofs.YtfddgdbebhmcnaaGreatDoor
set_option maxRecDepth 100000
set_option maxHeartbeats 8000000
set_option linter.unusedVariables false
set_option linter.unusedSimpArgs false
open Go.RowKit Go.Shelf Go.Lib Go.Sort
theorem flt_types (l : List ClassR) : typesF (wl l) fltN = [] := by
 have h1 : look (wl l) fltN = some fltC := by simp [look, wl, objC, fltC, objN, fltN]
 have h2 : look (wl l) objN = some objC := by simp [look, wl, objC]
 have s0 : supers (wl l) 99 objN = [] := by
   show supers (wl l) (98 + 1) objN = []
   unfold supers
   rw [h2]
   exact if_pos rfl
 have s1 : supers (wl l) 100 fltN = [objN] := by
   show supers (wl l) (99 + 1) fltN = _
   unfold supers
   rw [h1]
   show (if fltC.sup = [] then [] else fltC.sup :: supers (wl l) 99 fltC.sup) = _
   rw [if_neg (by simp [fltC, objN])]
   show objN :: supers (wl l) 99 objN = _
   rw [s0]
 have h3 : line (wl l) fltN = [fltN, objN] := by unfold line; rw [s1]
 unfold typesF slotsF
 rw [h3]
 have f1 : fieldsAt (wl l) fltN = [] := by unfold fieldsAt; rw [h1]; rfl
 have f2 : fieldsAt (wl l) objN = [] := by unfold fieldsAt; rw [h2]; rfl
 simp [addF, f1, f2]
theorem fresh_flt (l : List ClassR) (L : List CP) (b : Nat) (w : World) (hW : WOk w b l L) :
   Calls Tryz.prog 120 #[.map (some b), .string ⟨⟨fltN⟩⟩] w fun e w' => (∃ g, e = .returned (.agg #[.string ⟨⟨thing fltN⟩⟩, .slice (some ⟨g, 0, none⟩) 0 0])) ∧ Below w.heap.size w w' := by
 have HT := Hd (fun W (hw : Below w.heap.size w W) => (show Calls Tryz.prog 167 #[.map (some b), .string ⟨⟨fltN⟩⟩] W (LineRes [] W) from by have := types_calls l L b fltN W (hW.below hw) (by simp [fltN]); rwa [flt_types] at this))
 have HTH := Hd (fun W => thing_calls fltN (by simp [fltN]) W)
 obtain ⟨F, hF⟩ := made_vals 0 (by omega)
 have HF := Hd hF
 have HZ := Hd (blk_new w w.heap.size 133 #[.string ⟨#[]⟩, .slice none 0 0] rfl)
 clear hW hF
 unfold fltN at HT HTH ⊢
 go_enter Tryz.func120, Tryz.ntmps120
 go_wp2_with fail
 refine (HTH.out _).mono ?_
 rintro e w2 ⟨rfl, rfl⟩
 go_wp2_with fail
 refine (HT.out _ (bl_alloc (Below.refl _ _) _)).mono ?_
 rintro e w3 ⟨⟨v, rfl, ho⟩, hb3⟩
 obtain ⟨a3, c3, rfl, _⟩ := slice_of_own ho
 obtain ⟨hF1, hF2, hF3⟩ := HF.out w3
 obtain ⟨w4, hw4⟩ : ∃ w4, w4 = F w3 := ⟨_, rfl⟩
 rw [← hw4] at hF1 hF3
 have hF1' : (Instr.makeSlice 71 (.int .i64 0) (.int .i64 0)).run Tryz.prog w3 = .ok (.slice (some ⟨w3.heap.size, 0, none⟩) 0 0) w4 := hF1
 have hb4 : Below w3.heap.size w3 w4 := ⟨hF3.os, hF3.tape, hF3.output, hF3.size, fun k hk => hF3.block k hk (by simp)⟩
 have hz := (HZ.out.below hb3).below hb4
 have z0 := hz.cell 0
 have z1 := hz.cell 1
 have z2 := hz.frozen 0
 have z3 := hz.frozen 1
 have z4 := hz.lt
 have HB4 := Hd (bl_trans (bl_trans (bl_alloc (Below.refl w.heap.size w) _) hb3) hb4)
 have HZ9 := Hd (blk_set (blk_set hz 0 (.string ⟨⟨thing [70, 97, 117, 108, 116]⟩⟩)) 1 (.slice (some ⟨w3.heap.size, 0, none⟩) 0 0))
 clear hF1 hF2 hF3 hw4 ho hb3 hb4 hz
 go_wp2_with fail
 have y0 := HZ9.out.cell 0
 have y1 := HZ9.out.cell 1
 exact bodyPost_ret (v := .agg #[.string ⟨⟨thing [70, 97, 117, 108, 116]⟩⟩, .slice (some ⟨w3.heap.size, 0, none⟩) 0 0]) (by simp [results, Tryz.results120, go_sem, y0, y1]) rfl ⟨⟨_, rfl⟩, (HB4.out.setCell (p := ⟨w.heap.size, 0, none⟩) (Nat.le_refl _) _).setCell (p := ⟨w.heap.size, 1, none⟩) (Nat.le_refl _) _⟩
theorem more_flt (l : List ClassR) (L : List CP) (b g : Nat) (w : World) (hW : WOk w b l L) :
   Calls Tryz.prog 166 #[.map (some b), .agg #[.slice none 0 0], .agg #[.string ⟨⟨thing fltN⟩⟩, .slice (some ⟨g, 0, none⟩) 0 0]] w fun e w' => (∃ gt ct, e = .returned (.tuple #[.agg #[.slice (some ⟨gt, 0, none⟩) 1 ct], .int .i64 1, .nilIface]) ∧ w'.cell? ⟨gt, 0, none⟩ = some (.string ⟨⟨thing fltN⟩⟩) ∧ gt < w'.heap.size ∧ w.heap.size ≤ gt) ∧ Below w.heap.size w w' := by
 have HT := Hd (fun W (hw : Below w.heap.size w W) => (show Calls Tryz.prog 193 #[.map (some b), .agg #[.string ⟨⟨thing fltN⟩⟩, .slice (some ⟨g, 0, none⟩) 0 0]] W (TysRes [] W) from by
   have hL : TyL (wl l) ⟨thing fltN, []⟩ fltN := ⟨rfl, by decide, by simp [look, wl, objC, fltC, objN, fltN]⟩
   have := htypes_calls l L b ⟨thing fltN, []⟩ (some ⟨g, 0, none⟩, 0) W (hW.below hw) (Or.inl ⟨_, hL⟩)
   rwa [typesH_L hL, flt_types] at this))
 obtain ⟨T, hT⟩ : ∃ T, T = thing fltN := ⟨_, rfl⟩
 rw [← hT] at HT ⊢
 clear hW hT
 obtain ⟨W, hWd⟩ : ∃ W, W = ((w.alloc (.cells #[.slice none 0 0] 90)).alloc (.cells #[.string ⟨⟨T⟩⟩, .slice (some ⟨g, 0, none⟩) 0 0] 133)).alloc (.cells #[.slice none 0 0] 90) := ⟨_, rfl⟩
 have hbW : Below w.heap.size w W := by rw [hWd]; exact bl_alloc (bl_alloc (bl_alloc (Below.refl _ _) _) _) _
 have HA := Hd (show Blk W w.heap.size 90 #[.slice none 0 0] by rw [hWd]; exact ((blk_new _ _ _ _ rfl).alloc _).alloc _)
 have HX := Hd (show Blk W (w.heap.size + 1) 133 #[.string ⟨⟨T⟩⟩, .slice (some ⟨g, 0, none⟩) 0 0] by rw [hWd]; exact (blk_new _ _ _ _ (by simp)).alloc _)
 have HR := Hd (show Blk W (w.heap.size + 1 + 1) 90 #[.slice none 0 0] by rw [hWd]; exact blk_new _ _ _ _ (by simp))
 have HBW := Hd hbW
 have a0 := HA.out.cell 0
 have a1 := HA.out.lt
 have x0 := HX.out.cell 0
 have x1 := HX.out.cell 1
 have x2 := HX.out.lt
 clear hbW
 go_enter Tryz.func166, Tryz.ntmps166
 go_upto_region 1 with fail
 rw [← hWd]
 clear hWd
 go_wp2_with fail
 refine (HT.out W HBW.out).mono ?_
 rintro e w2 ⟨hb2, a2, c2, rfl, _⟩
 have HB2 := Hd hb2
 have HA2 := Hd (HA.out.below hb2)
 have HX2 := Hd (HX.out.below hb2)
 have HR2 := Hd (HR.out.below hb2)
 clear hb2 a0 a1 x0 x1 x2
 have hln : ([] : List Nm).length = 0 := rfl
 rw [hln]
 go_wp2_with fail
 go_loopw [21] (fun i wr => i = .int .i64 0 ∧ wr = w2) (fun _ _ => 0)
 case atStart => exact ⟨rfl, rfl⟩
 case round =>
   obtain ⟨rfl, rfl⟩ := hrel
   have HSC := Hd (fun W' (hw : Below wr.heap.size wr W') => (show W'.cell? ⟨w.heap.size, 0, none⟩ = some (.slice none 0 0) ∧ W'.cell? ⟨w.heap.size + 1, 0, none⟩ = some (.string ⟨⟨T⟩⟩) ∧ W'.cell? ⟨w.heap.size + 1, 1, none⟩ = some (.slice (some ⟨g, 0, none⟩) 0 0) from ⟨(HA2.out.below hw).cell 0, (HX2.out.below hw).cell 0, (HX2.out.below hw).cell 1⟩))
   have HSD := Hd (fun W' (u : Value) (hw : Below wr.heap.size wr W') => (show (W'.setCell ⟨w.heap.size + 1 + 1, 0, none⟩ u).cell? ⟨w.heap.size, 0, none⟩ = some (.slice none 0 0) ∧ (W'.setCell ⟨w.heap.size + 1 + 1, 0, none⟩ u).cell? ⟨w.heap.size + 1, 0, none⟩ = some (.string ⟨⟨T⟩⟩) ∧ (W'.setCell ⟨w.heap.size + 1 + 1, 0, none⟩ u).cell? ⟨w.heap.size + 1, 1, none⟩ = some (.slice (some ⟨g, 0, none⟩) 0 0) from
     ⟨(blk_apart (j := 0) (HA2.out.below hw) (by omega) u).cell 0, (blk_apart (j := 0) (HX2.out.below hw) (by omega) u).cell 0, (blk_apart (j := 0) (HX2.out.below hw) (by omega) u).cell 1⟩))
   have HNC := Hd (fun (j : Nat) (u : Value) (hj : ([Value.string ⟨⟨T⟩⟩, .slice (some ⟨g, 0, none⟩) 0 0] : List Value)[j]? = some u) => show (wr.alloc (.cells #[.string ⟨⟨T⟩⟩, .slice (some ⟨g, 0, none⟩) 0 0] 133)).drew.cell? ((⟨wr.heap.size, 0, none⟩ : Addr).add j) = some u from new_cells wr [Value.string ⟨⟨T⟩⟩, .slice (some ⟨g, 0, none⟩) 0 0] 133 j u hj)
   go_upto_region 8 with fail
   go_region_held3 (fun W' => W'.cell? ⟨w.heap.size, 0, none⟩ = some (.slice none 0 0) ∧ W'.cell? ⟨w.heap.size + 1, 0, none⟩ = some (.string ⟨⟨T⟩⟩) ∧ W'.cell? ⟨w.heap.size + 1, 1, none⟩ = some (.slice (some ⟨g, 0, none⟩) 0 0))
     (first | exact HSC.out _ (Below.refl _ _) | exact HSC.out _ (Below.refl _ _).drew | exact HSC.out _ (bl_alloc (Below.refl _ _) _) | exact HSC.out _ (bl_alloc (Below.refl _ _) _).drew | exact HSC.out _ (bl_alloc (Below.refl _ _).drew _) | exact hs4 | exact hs5)
     ((first
     | (refine step_app_lies rowThing rfl (.tmp 34) (.tmp 36) rfl wr.heap.size (.slice none 0 0) 0 [] rfl ⟨rfl, Or.inl ⟨rfl, rfl⟩⟩ ⟨_, 0, none⟩ 1 1 [.string ⟨⟨T⟩⟩, .slice (some ⟨g, 0, none⟩) 0 0] rfl rfl ?_ ?_ (by omega) (by omega) (by omega) ?_ ?_
        · first | exact HNC.out | (intro j u hj; exact HNC.out j u hj)
        · intro u hu
          simp only [List.mem_cons, List.not_mem_nil, or_false] at hu
          rcases hu with rfl | rfl <;> rfl
        · simp
        intro g6 c6 w6 ho6 hg6 hl6 hlt6
        have hb6 : Below wr.heap.size wr w6 := by
          first
          | exact (bl_alloc (Below.refl _ _) _).drew.trans ⟨hg6.os, hg6.tape, hg6.output, hg6.size, fun k hk => hg6.block k (by simp; omega) (by simp [Value.ownBlock])⟩
          | exact (bl_alloc (Below.refl _ _) _).trans ⟨hg6.os, hg6.tape, hg6.output, hg6.size, fun k hk => hg6.block k (by simp; omega) (by simp [Value.ownBlock])⟩
        have hs4 := HSC.out _ hb6
        have hs5 := HSD.out _ (.slice (some ⟨g6, 0, none⟩) 1 c6) hb6
        have z0 := (HR2.out.below hb6).cell 0
        have z1 := (HR2.out.below hb6).frozen 0
        have z2 := (HR2.out.below hb6).lt)))
   have hg6' : wr.heap.size ≤ g6 := by
     rcases hl6 with h | h
     · simp [Value.ownBlock] at h
     · rw [h]; simp
   have hrl := HR2.out.lt
   have hc0 : w6.cell? ⟨g6, 0, none⟩ = some (.string ⟨⟨T⟩⟩) := by
     have h := ho6.cells (g := g6) rfl 0 (.string ⟨⟨T⟩⟩) rfl
     exact h
   have HC9 := Hd (show (w6.setCell ⟨w.heap.size + 1 + 1, 0, none⟩ (.slice (some ⟨g6, 0, none⟩) 1 c6)).cell? ⟨g6, 0, none⟩ = some (.string ⟨⟨T⟩⟩) from by
     rw [World.cell?_setCell_far _ _ _ _ (by show w.heap.size + 1 + 1 ≠ g6; omega)]
     exact hc0)
   have HZ9 := Hd (blk_set (HR2.out.below hb6) 0 (.slice (some ⟨g6, 0, none⟩) 1 c6))
   have HB9 := Hd ((bl_trans (bl_trans HBW.out HB2.out) hb6).setCell (p := ⟨w.heap.size + 1 + 1, 0, none⟩) (by show w.heap.size ≤ w.heap.size + 1 + 1; omega) (.slice (some ⟨g6, 0, none⟩) 1 c6))
   have HL9 := Hd (show g6 < (w6.setCell ⟨w.heap.size + 1 + 1, 0, none⟩ (.slice (some ⟨g6, 0, none⟩) 1 c6)).heap.size from by simpa [World.setCell] using hlt6)
   have hw9 : w.heap.size ≤ g6 := by omega
   clear hs4 hs5 z0 z1 z2 hb6 ho6 hg6 hl6 hc0 hlt6
   go_wp2_with fail
   have y0 := HZ9.out.cell 0
   exact bodyPost_ret (v := .tuple #[.agg #[.slice (some ⟨g6, 0, none⟩) 1 c6], .int .i64 1, .nilIface]) (by simp [results, Tryz.results166, go_sem, y0]; rfl) rfl ⟨⟨g6, c6, rfl, HC9.out, HL9.out, hw9⟩, HB9.out⟩
theorem rmore_flt (l : List ClassR) (L : List CP) (K b g : Nat) (cv : Value) (s : Int) (w : World) (hW : WOk w b l L) (hK : Blk w K 94 (macArr b (.slice none 0 0) cv 0 0 [] s false)) :
   Calls Tryz.prog 119 #[.pointer (some ⟨K, 0, none⟩), .agg #[.string ⟨⟨thing fltN⟩⟩, .slice (some ⟨g, 0, none⟩) 0 0]] w fun e w' => e = .returned (.agg #[.int .i64 3, .int .i64 1]) ∧ w.grownBy w' (some K) ∧ ∃ gt ct, Blk w' K 94 (macArr b (.slice (some ⟨gt, 0, none⟩) 1 ct) cv 0 0 [] s false) ∧ w'.cell? ⟨gt, 0, none⟩ = some (.string ⟨⟨thing fltN⟩⟩) ∧ gt < w'.heap.size ∧ w.heap.size ≤ gt := by
 obtain ⟨W, hWd⟩ : ∃ W, W = (w.alloc (.cells #[.string ⟨⟨thing fltN⟩⟩, .slice (some ⟨g, 0, none⟩) 0 0] 133)).alloc (.cells #[.int .i64 0, .int .i64 0] 42) := ⟨_, rfl⟩
 have hbW : Below w.heap.size w W := by rw [hWd]; exact bl_alloc (bl_alloc (Below.refl _ _) _) _
 have HX := Hd (show Blk W w.heap.size 133 #[.string ⟨⟨thing fltN⟩⟩, .slice (some ⟨g, 0, none⟩) 0 0] by rw [hWd]; exact (blk_new _ _ _ _ rfl).alloc _)
 have HV := Hd (show Blk W (w.heap.size + 1) 42 #[.int .i64 0, .int .i64 0] by rw [hWd]; exact blk_new _ _ _ _ (by simp))
 have HK := Hd (hK.below hbW)
 have HBW := Hd hbW
 have hKl := hK.lt
 have HMO := Hd (fun W' (hw : Below w.heap.size w W') => more_flt l L b g W' (hW.below hw))
 obtain ⟨T, hT⟩ : ∃ T, T = thing fltN := ⟨_, rfl⟩
 rw [← hT] at HX HMO ⊢
 have hWd2 : W = (w.alloc (.cells #[.string ⟨⟨T⟩⟩, .slice (some ⟨g, 0, none⟩) 0 0] 133)).alloc (.cells #[.int .i64 0, .int .i64 0] 42) := by rw [hT]; exact hWd
 have HSC := Hd (fun W' (hw : Below W.heap.size W W') => (show W'.cell? ⟨K, 0, none⟩ = some (.map (some b)) ∧ W'.cell? ⟨K, 1, none⟩ = some (.slice none 0 0) ∧ W'.cell? ⟨w.heap.size, 0, none⟩ = some (.string ⟨⟨T⟩⟩) ∧ W'.cell? ⟨w.heap.size, 1, none⟩ = some (.slice (some ⟨g, 0, none⟩) 0 0) from ⟨(HK.out.below hw).cell 0, (HK.out.below hw).cell 1, (HX.out.below hw).cell 0, (HX.out.below hw).cell 1⟩))
 have e1 := HK.out.lt
 clear hW hK hbW hWd hT
 go_enter Tryz.func119, Tryz.ntmps119
 go_upto_region 1 with fail
 rw [← hWd2]
 clear hWd2
 go_region_held3 (fun W' => W'.cell? ⟨K, 0, none⟩ = some (.map (some b)) ∧ W'.cell? ⟨K, 1, none⟩ = some (.slice none 0 0) ∧ W'.cell? ⟨w.heap.size, 0, none⟩ = some (.string ⟨⟨T⟩⟩) ∧ W'.cell? ⟨w.heap.size, 1, none⟩ = some (.slice (some ⟨g, 0, none⟩) 0 0))
   (first | exact HSC.out _ (Below.refl _ _) | exact HSC.out _ (Below.refl _ _).drew | exact HSC.out _ (bl_alloc (Below.refl _ _) _) | exact HSC.out _ (bl_alloc (Below.refl _ _) _).drew | exact HSC.out _ (bl_alloc (Below.refl _ _).drew _) | exact hs4 | exact HSC.out _ hb9 | exact HSC.out _ (bl_alloc hb9 _) | exact hs5)
   ((go_at_call 166
     first
     | (refine (HMO.out W.drew (bl_trans HBW.out (Below.refl _ _).drew)).mono ?_
        rintro e w4 ⟨⟨gt, ct, rfl, hc4, hl4, hg4⟩, hb4⟩
        have hb9 := bl_trans (Below.refl W.heap.size W).drew hb4
        have hs4 := HSC.out _ hb9)
     | (refine (HMO.out (W.alloc (.cells #[.slice none 0 0] 90)).drew (bl_trans HBW.out (bl_alloc (Below.refl _ _) _).drew)).mono ?_
        rintro e w4 ⟨⟨gt, ct, rfl, hc4, hl4, hg4⟩, hb4⟩
        have hb9 := bl_trans (bl_alloc (Below.refl W.heap.size W) (.cells #[.slice none 0 0] 90)).drew hb4
        have hs4 := HSC.out _ hb9
        have hz4 := ((blk_new W W.heap.size 90 #[.slice none 0 0] rfl).drew).below hb4
        have hs5 := HSC.out _ (show Below W.heap.size W (w4.setCell ⟨W.heap.size, 0, none⟩ (.slice (some ⟨gt, 0, none⟩) 1 ct)) from hb9.setCell (p := ⟨W.heap.size, 0, none⟩) (Nat.le_refl _) _)
        have z0 := hz4.cell 0
        have z1 := hz4.frozen 0
        have z2 := hz4.lt)))
 · have hs9 := hb9.size
   have hVl := HV.out.lt
   obtain ⟨w5, hw5⟩ : ∃ w5, w5 = w4.alloc (.cells #[.slice (some ⟨gt, 0, none⟩) 1 ct] 90) := ⟨_, rfl⟩
   have hb5 : Below W.heap.size W w5 := by rw [hw5]; exact bl_alloc hb9 _
   have hN5 : Blk w5 w4.heap.size 90 #[.slice (some ⟨gt, 0, none⟩) 1 ct] := by rw [hw5]; exact blk_new _ _ _ _ rfl
   have hc5 : w5.cell? ⟨gt, 0, none⟩ = some (.string ⟨⟨T⟩⟩) := by rw [hw5]; exact ((Below.refl w4.heap.size w4).alloc (Nat.le_refl _) _ |>.cell (p := ⟨gt, 0, none⟩) hl4).trans hc4
   have hl5 : gt < w5.heap.size := by rw [hw5]; simp; omega
   have hgg : W.heap.size ≤ gt := hg4
   rw [← hw5]
   clear hw5
   have HK5 := Hd (HK.out.below hb5)
   have HV5 := Hd (HV.out.below hb5)
   have n0 := hN5.cell 0
   have n1 := hN5.lt
   have k1 := HK5.out.cell 1
   have k2 := HK5.out.frozen 1
   have k3 := HK5.out.lt
   have v0 := HV5.out.cell 0
   have v1 := HV5.out.cell 1
   have v2 := HV5.out.frozen 0
   have v3 := HV5.out.frozen 1
   have v4 := HV5.out.lt
   unfold macArr at k1
   have hVK : w.heap.size + 1 ≠ K := by omega
   have hgK : gt ≠ K := by omega
   have hgV : gt ≠ w.heap.size + 1 := by omega
   have HK9 := Hd (blk_apart (j := 1) (blk_apart (j := 0) (blk_set HK5.out 1 (.slice (some ⟨gt, 0, none⟩) 1 ct)) hVK.symm (.int .i64 3)) hVK.symm (.int .i64 1))
   have HV9 := Hd (blk_set (blk_set (blk_apart (j := 1) HV5.out hVK (.slice (some ⟨gt, 0, none⟩) 1 ct)) 0 (.int .i64 3)) 1 (.int .i64 1))
   have HG9 := Hd (show w.grownBy (((w5.setCell ⟨K, 1, none⟩ (.slice (some ⟨gt, 0, none⟩) 1 ct)).setCell ⟨w.heap.size + 1, 0, none⟩ (.int .i64 3)).setCell ⟨w.heap.size + 1, 1, none⟩ (.int .i64 1)) (some K) from by
     have h1 := gb_set (gb_below (gb_refl w K) (bl_trans HBW.out hb5)) 1 (.slice (some ⟨gt, 0, none⟩) 1 ct)
     have h2 := (Below.refl w.heap.size (w5.setCell ⟨K, 1, none⟩ (.slice (some ⟨gt, 0, none⟩) 1 ct))).setCell (p := ⟨w.heap.size + 1, 0, none⟩) (by show w.heap.size ≤ w.heap.size + 1; omega) (.int .i64 3)
     have h3 := h2.setCell (p := ⟨w.heap.size + 1, 1, none⟩) (by show w.heap.size ≤ w.heap.size + 1; omega) (.int .i64 1)
     exact ⟨h3.os.trans h1.os, h3.tape.trans h1.tape, h3.output.trans h1.output, Nat.le_trans h1.size h3.size, fun k hk hne => (h3.block k hk).trans (h1.block k hk hne)⟩)
   have HC9 := Hd (show (((w5.setCell ⟨K, 1, none⟩ (.slice (some ⟨gt, 0, none⟩) 1 ct)).setCell ⟨w.heap.size + 1, 0, none⟩ (.int .i64 3)).setCell ⟨w.heap.size + 1, 1, none⟩ (.int .i64 1)).cell? ⟨gt, 0, none⟩ = some (.string ⟨⟨T⟩⟩) from by
     rw [World.cell?_setCell_far _ _ _ _ (by show w.heap.size + 1 ≠ gt; omega), World.cell?_setCell_far _ _ _ _ (by show w.heap.size + 1 ≠ gt; omega), World.cell?_setCell_far _ _ _ _ (by show K ≠ gt; omega)]
     exact hc5)
   have HL9 := Hd (show gt < (((w5.setCell ⟨K, 1, none⟩ (.slice (some ⟨gt, 0, none⟩) 1 ct)).setCell ⟨w.heap.size + 1, 0, none⟩ (.int .i64 3)).setCell ⟨w.heap.size + 1, 1, none⟩ (.int .i64 1)).heap.size from by simpa [World.setCell] using hl5)
   have hgw : w.heap.size ≤ gt := by omega
   clear hs4 hb9 hc4 hl4 hg4 hb4 hb5 hN5 hc5 hl5
   go_wp2_with fail
   have y0 := HV9.out.cell 0
   have y1 := HV9.out.cell 1
   exact bodyPost_ret (v := .agg #[.int .i64 3, .int .i64 1]) (by simp [results, Tryz.results119, go_sem, y0, y1]) rfl ⟨rfl, HG9.out, gt, ct, HK9.out, HC9.out, HL9.out, hgw⟩
 · have hs9 := hb9.size
   have hVl := HV.out.lt
   have hgg : W.heap.size < gt := by
     have h : (W.alloc (.cells #[.slice none 0 0] 90)).drew.heap.size = W.heap.size + 1 := by show (W.alloc _).heap.size = _; simp
     rw [h] at hg4; omega
   obtain ⟨w5, hw5⟩ : ∃ w5, w5 = w4.setCell ⟨W.heap.size, 0, none⟩ (.slice (some ⟨gt, 0, none⟩) 1 ct) := ⟨_, rfl⟩
   have hb5 : Below W.heap.size W w5 := by rw [hw5]; exact hb9.setCell (p := ⟨W.heap.size, 0, none⟩) (Nat.le_refl _) _
   have hN5 : Blk w5 W.heap.size 90 #[.slice (some ⟨gt, 0, none⟩) 1 ct] := by rw [hw5]; exact blk_set hz4 0 _
   have hc5 : w5.cell? ⟨gt, 0, none⟩ = some (.string ⟨⟨T⟩⟩) := by rw [hw5, World.cell?_setCell_far _ _ _ _ (by show W.heap.size ≠ gt; omega)]; exact hc4
   have hl5 : gt < w5.heap.size := by rw [hw5]; simpa [World.setCell] using hl4
   rw [← hw5]
   clear hw5 hz4 hs5 z0 z1 z2
   have HK5 := Hd (HK.out.below hb5)
   have HV5 := Hd (HV.out.below hb5)
   have n0 := hN5.cell 0
   have n1 := hN5.lt
   have k1 := HK5.out.cell 1
   have k2 := HK5.out.frozen 1
   have k3 := HK5.out.lt
   have v0 := HV5.out.cell 0
   have v1 := HV5.out.cell 1
   have v2 := HV5.out.frozen 0
   have v3 := HV5.out.frozen 1
   have v4 := HV5.out.lt
   unfold macArr at k1
   have hVK : w.heap.size + 1 ≠ K := by omega
   have hgK : gt ≠ K := by omega
   have hgV : gt ≠ w.heap.size + 1 := by omega
   have HK9 := Hd (blk_apart (j := 1) (blk_apart (j := 0) (blk_set HK5.out 1 (.slice (some ⟨gt, 0, none⟩) 1 ct)) hVK.symm (.int .i64 3)) hVK.symm (.int .i64 1))
   have HV9 := Hd (blk_set (blk_set (blk_apart (j := 1) HV5.out hVK (.slice (some ⟨gt, 0, none⟩) 1 ct)) 0 (.int .i64 3)) 1 (.int .i64 1))
   have HG9 := Hd (show w.grownBy (((w5.setCell ⟨K, 1, none⟩ (.slice (some ⟨gt, 0, none⟩) 1 ct)).setCell ⟨w.heap.size + 1, 0, none⟩ (.int .i64 3)).setCell ⟨w.heap.size + 1, 1, none⟩ (.int .i64 1)) (some K) from by
     have h1 := gb_set (gb_below (gb_refl w K) (bl_trans HBW.out hb5)) 1 (.slice (some ⟨gt, 0, none⟩) 1 ct)
     have h2 := (Below.refl w.heap.size (w5.setCell ⟨K, 1, none⟩ (.slice (some ⟨gt, 0, none⟩) 1 ct))).setCell (p := ⟨w.heap.size + 1, 0, none⟩) (by show w.heap.size ≤ w.heap.size + 1; omega) (.int .i64 3)
     have h3 := h2.setCell (p := ⟨w.heap.size + 1, 1, none⟩) (by show w.heap.size ≤ w.heap.size + 1; omega) (.int .i64 1)
     exact ⟨h3.os.trans h1.os, h3.tape.trans h1.tape, h3.output.trans h1.output, Nat.le_trans h1.size h3.size, fun k hk hne => (h3.block k hk).trans (h1.block k hk hne)⟩)
   have HC9 := Hd (show (((w5.setCell ⟨K, 1, none⟩ (.slice (some ⟨gt, 0, none⟩) 1 ct)).setCell ⟨w.heap.size + 1, 0, none⟩ (.int .i64 3)).setCell ⟨w.heap.size + 1, 1, none⟩ (.int .i64 1)).cell? ⟨gt, 0, none⟩ = some (.string ⟨⟨T⟩⟩) from by
     rw [World.cell?_setCell_far _ _ _ _ (by show w.heap.size + 1 ≠ gt; omega), World.cell?_setCell_far _ _ _ _ (by show w.heap.size + 1 ≠ gt; omega), World.cell?_setCell_far _ _ _ _ (by show K ≠ gt; omega)]
     exact hc5)
   have HL9 := Hd (show gt < (((w5.setCell ⟨K, 1, none⟩ (.slice (some ⟨gt, 0, none⟩) 1 ct)).setCell ⟨w.heap.size + 1, 0, none⟩ (.int .i64 3)).setCell ⟨w.heap.size + 1, 1, none⟩ (.int .i64 1)).heap.size from by simpa [World.setCell] using hl5)
   have hgw : w.heap.size ≤ gt := by omega
   clear hs4 hb9 hc4 hl4 hg4 hb4 hb5 hN5 hc5 hl5
   go_wp2_with fail
   have y0 := HV9.out.cell 0
   have y1 := HV9.out.cell 1
   exact bodyPost_ret (v := .agg #[.int .i64 3, .int .i64 1]) (by simp [results, Tryz.results119, go_sem, y0, y1]) rfl ⟨rfl, HG9.out, gt, ct, HK9.out, HC9.out, HL9.out, hgw⟩
end Go.Proofs.YtfddgdbebhmcnaaGreatDoor
