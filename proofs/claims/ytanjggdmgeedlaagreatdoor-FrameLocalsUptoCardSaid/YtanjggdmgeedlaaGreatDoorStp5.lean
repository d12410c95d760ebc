/-
  The walk of field.
-/
import Derived.Test.YtanjggdmgeedlaaGreatDoorStp4
import Derived.Test.YtanjggdmgeedlaaGreatDoorLay1
namespace Go.Proofs.YtanjggdmgeedlaaGreatDoor
set_option linter.unusedVariables false
set_option linter.unusedSimpArgs false
open Go.RowKit Go.Shelf Go.Lib Go.Sort

def insArr (x : InsR) : Array Value := #[.int .i64 x.op, .int .i64 x.a, .int .i64 x.b, .string ⟨⟨x.ty⟩⟩, .string ⟨⟨x.cl⟩⟩, .string ⟨⟨x.nm⟩⟩]
def FldTRes (L : List ClassR) (r : Option Nm) (f : FrR) (B c b : Nat) (fr gv : Nm) (w : World) (e : Ending) (w' : World) : Prop :=
  w.grownBy w' (some c) ∧ ((r = none ∧ e = .panicked unfitP) ∨ ∃ t, r = some t ∧ e = .returned (.string ⟨⟨t⟩⟩) ∧ kindErr L t = 0 ∧ Stp L w' B c b fr gv f)
theorem fld_bad {L : List ClassR} {c n : Nm} (h : kindErr L (thing c) ≠ 0) : fldF L c n = none := by unfold fldF; rw [if_pos h]
theorem fld_none {L : List ClassR} {c n : Nm} (h : fieldOf L c n = none) : fldF L c n = none := by unfold fldF; rw [h]; split <;> rfl
theorem fld_some {L : List ClassR} {c n x : Nm} {fd : FieldR} (h0 : kindErr L (thing c) = 0) (h : fieldOf L c n = some (x, fd)) : fldF L c n = if kindErr L fd.ty ≠ 0 then none else some fd.ty := by
  unfold fldF; rw [h, if_neg (by simpa using h0)]; rfl

theorem field_types2 {c : ClassR} (h : classErr c = 0) : ∀ f ∈ c.fields, TypeOk f.ty := by
  intro f hf
  obtain ⟨j, hj⟩ := List.getElem?_of_mem hf
  have := (classErr_ok h).2.2.2.1 j (List.getElem?_eq_some_iff.1 hj).1
  unfold fieldErr at this
  rw [hj] at this
  simp only [Option.elim_some] at this
  split at this
  · omega
  · rename_i h1
    exact Classical.not_not.1 fun h2 => h1 (Or.inr h2)
theorem fieldOf_ty {l : List ClassR} (hg : Good l) {c n x : Nm} {fd : FieldR} (h : fieldOf (wl l) c n = some (x, fd)) : TypeOk fd.ty := by
  have hm := (fieldOf_mem h).2
  unfold slotsF at hm
  obtain ⟨c2, _, hc⟩ := List.mem_flatMap.1 hm
  unfold addF at hc
  obtain ⟨g, hg2, e⟩ := List.mem_map.1 hc
  simp only [Prod.mk.injEq] at e
  obtain ⟨_, rfl⟩ := e
  unfold fieldsAt at hg2
  cases hl : look (wl l) c2 with
  | none => rw [hl] at hg2; cases hg2
  | some d =>
    rw [hl] at hg2
    have hd := (find_name hl).2
    unfold wl at hd
    simp only [List.mem_cons] at hd
    rcases hd with rfl | rfl | hd
    · cases hg2
    · cases hg2
    · exact field_types2 (hg.ok d hd) g hg2
theorem type_len25 {t : Nm} (h : TypeOk t) : t.length ≤ 25 := by
  obtain ⟨d, b, rfl, hd, hn⟩ := type_kd.1 h
  cases b with
  | int => simp [Kd.text, Bse.text]; omega
  | long => simp [Kd.text, Bse.text]; omega
  | cls n => have := (name_len (hn n rfl)).2; simp [Kd.text, Bse.text]; omega
theorem bl_setn {w3 w : World} (h : Below w3.heap.size w3 w) (j : Nat) (u : Value) : Below w3.heap.size w3 (w.setCell ⟨w3.heap.size, j, none⟩ u) := h.setCell (p := ⟨w3.heap.size, j, none⟩) (Nat.le_refl _) u

set_option maxRecDepth 100000 in
set_option maxHeartbeats 8000000 in
theorem field_calls_stp (l : List ClassR) (L : List CP) (b c : Nat) (fr gv : Nm) (f : FrR) (x : InsR) (w0 w : World) (hW : WOk w0 b l L) (hb : Below w0.heap.size w0 w) (hs : Stp (wl l) w w0.heap.size c b fr gv f) (hcl : x.cl.length ≤ 20) :
    Calls Tryz.prog 129 #[.pointer (some ⟨c, 0, none⟩), insV x] w (FldTRes (wl l) (fldF (wl l) x.cl x.nm) f w0.heap.size c b fr gv w) := by
  obtain ⟨op, ia, ib, ty, cl, nm⟩ := x
  obtain ⟨w1, hw1⟩ : ∃ w1, w1 = w.alloc (.cells (insArr ⟨op, ia, ib, ty, cl, nm⟩) 45) := ⟨_, rfl⟩
  have hal : Below w.heap.size w w1 := by rw [hw1]; exact bl_alloc (Below.refl _ _) _
  have HX := Lib.hid (show Blk w1 w.heap.size 45 #[.int .i64 op, .int .i64 ia, .int .i64 ib, .string ⟨⟨ty⟩⟩, .string ⟨⟨cl⟩⟩, .string ⟨⟨nm⟩⟩] by rw [hw1]; exact blk_new _ _ _ _ rfl)
  have HG1 := Lib.hid (gb_below (gb_refl w c) hal)
  have HB1 := Lib.hid (hb.trans (hal.mono hb.size))
  have HS1 := Lib.hid (hs.below hal)
  have HW := Lib.hid hW
  have HB := Lib.hid hb
  have HCB := Lib.hid hs.cB
  dsimp only at hcl ⊢
  have htl : (thing cl).length ≤ 8388608 := by simp [thing]; omega
  have HTH := Lib.hid (fun w => thing_calls cl (by omega) w)
  have HKN := Lib.hid (known_calls l L b c w0.heap.size fr gv f (thing cl) w0 w1 hW rfl HB1.out HS1.out htl)
  have HGD := Lib.hid hW.good
  have HFO := Lib.hid (fun W (hw : Below w0.heap.size w0 W) => fof_calls l L b cl nm W (hW.below hw) (by omega))
  unfold insArr at hw1
  unfold insV
  clear hW hb hs hal htl
  by_cases hk : kindErr (wl l) (thing cl) = 0
  · rw [if_pos hk] at HKN
    have HKT := Lib.hid hk
    clear hk
    have e0 := HX.out.cell 4
    have e1 := HX.out.lt
    go_enter Tryz.func129, Tryz.ntmps129
    go_upto_region 1 with fail
    rw [← hw1]
    clear hw1
    go_wp2_with fail
    refine (HTH.out _).mono ?_
    rintro e w2 ⟨rfl, rfl⟩
    go_wp2_with fail
    refine HKN.out.mono ?_
    rintro e w3 ⟨rfl, hb3⟩
    have HG3 := Lib.hid (gb_below HG1.out hb3)
    have HB3 := Lib.hid (gb_to_below HB.out HG3.out HCB.out)
    have HS3 := Lib.hid (HS1.out.below hb3)
    have HX3 := Lib.hid (HX.out.below hb3)
    clear hb3 e0 e1
    have HSC := Lib.hid (fun W (hw : Below w3.heap.size w3 W) => (show W.cell? ⟨c, 0, none⟩ = some (.map (some b)) ∧ W.cell? ⟨w.heap.size, 4, none⟩ = some (.string ⟨⟨cl⟩⟩) ∧ W.cell? ⟨w.heap.size, 5, none⟩ = some (.string ⟨⟨nm⟩⟩) from ⟨(HS3.out.below hw).cell0, (HX3.out.below hw).cell 4, (HX3.out.below hw).cell 5⟩))
    cases hf : fieldOf (wl l) cl nm with
    | none =>
      have HFS := Lib.hid (show ∀ W, Below w0.heap.size w0 W → Calls Tryz.prog 159 #[.map (some b), .string ⟨⟨cl⟩⟩, .string ⟨⟨nm⟩⟩] W fun e w' => e = .returned (.tuple #[.string ⟨#[]⟩, .agg #[.string ⟨#[]⟩, .string ⟨#[]⟩], .bool false]) ∧ Below W.heap.size W w' from fun W hw => (HFO.out W hw).mono (fun e w' ⟨hb, h⟩ => by
        rcases h with ⟨_, h⟩ | ⟨x, f2, h, he⟩
        · exact ⟨h, hb⟩
        · rw [hf] at h; cases h))
      have HE := Lib.hid (fld_none hf)
      clear hf
      have HAL := Lib.hid (show Below w3.heap.size w3 (w3.alloc (.cells #[.string ⟨#[]⟩, .string ⟨#[]⟩] 173)).drew from (bl_alloc (Below.refl _ _) _).drew)
      have HZ1 := Lib.hid (show Blk (w3.alloc (.cells #[.string ⟨#[]⟩, .string ⟨#[]⟩] 173)).drew w3.heap.size 173 #[.string ⟨#[]⟩, .string ⟨#[]⟩] from blk_new _ _ _ _ rfl)
      go_upto_region 2 with fail
      go_region_held3 (fun W' => W'.cell? ⟨c, 0, none⟩ = some (.map (some b)) ∧ W'.cell? ⟨w.heap.size, 4, none⟩ = some (.string ⟨⟨cl⟩⟩) ∧ W'.cell? ⟨w.heap.size, 5, none⟩ = some (.string ⟨⟨nm⟩⟩))
        (first | exact HSC.out _ (Below.refl _ _) | exact HSC.out _ (Below.refl _ _).drew | exact HSC.out _ HAL.out | exact HSC.out _ (bl_alloc (Below.refl _ _) _) | exact HSC.out _ hb34 | exact HSC.out _ (bl_alloc hb34 _) | exact HSC.out _ (bl_setn hb34 _ _) | exact HSC.out _ (bl_setn (bl_setn hb34 _ _) _ _))
        ((first
        | (go_at_call 159
           with_reducible refine (HFS.out w3.drew (HB3.out.trans ((Below.refl _ _).drew.mono HB3.out.size))).mono ?_
           rintro e w4 ⟨rfl, hb4⟩
           have hb34 := bl_trans (Below.refl w3.heap.size w3).drew hb4)
        | (go_at_call 159
           with_reducible refine (HFS.out (w3.alloc (.cells #[.string ⟨#[]⟩, .string ⟨#[]⟩] 173)).drew (HB3.out.trans (HAL.out.mono HB3.out.size))).mono ?_
           rintro e w4 ⟨rfl, hb4⟩
           have hb34 := bl_trans HAL.out hb4
           have hk4 := HZ1.out.below hb4
           have z0 := hk4.cell 0
           have z1 := hk4.cell 1
           have z2 := hk4.frozen 0
           have z3 := hk4.frozen 1
           have z4 := hk4.lt)))
      all_goals
        (first
        | (obtain ⟨w5, hw5⟩ : ∃ w5, w5 = w4.alloc (.cells #[.string ⟨#[]⟩, .string ⟨#[]⟩] 173) := ⟨_, rfl⟩
           rw [← hw5]
           have hk5 : Blk w5 w4.heap.size 173 #[.string ⟨#[]⟩, .string ⟨#[]⟩] := by rw [hw5]; exact blk_new _ _ _ _ rfl
           have hb5 : Below w3.heap.size w3 w5 := by rw [hw5]; exact bl_alloc hb34 _
           clear hw5)
        | (obtain ⟨w5, hw5⟩ : ∃ w5, w5 = (w4.setCell ⟨w3.heap.size, 0, none⟩ (.string ⟨#[]⟩)).setCell ⟨w3.heap.size, 1, none⟩ (.string ⟨#[]⟩) := ⟨_, rfl⟩
           rw [← hw5]
           have hk5 : Blk w5 w3.heap.size 173 #[.string ⟨#[]⟩, .string ⟨#[]⟩] := by rw [hw5]; exact blk_set (blk_set hk4 0 _) 1 _
           have hb5 : Below w3.heap.size w3 w5 := by rw [hw5]; exact bl_setn (bl_setn hb34 _ _) _ _
           clear hw5 z0 z1 z2 z3 z4 hk4))
        have HB5 := Lib.hid hb5
        clear hb5 hb34 hb4 hk5 HSC HAL HZ1
        go_wp2_with fail
        refine (need_false _).mono ?_
        rintro e w6 ⟨rfl, rfl⟩
        go_wp2_with fail
        exact ⟨rfl, gb_below HG3.out HB5.out, Or.inl ⟨HE.out, rfl⟩⟩
    | some p =>
      obtain ⟨y, fd⟩ := p
      have HFS := Lib.hid (show ∀ W, Below w0.heap.size w0 W → Calls Tryz.prog 159 #[.map (some b), .string ⟨⟨cl⟩⟩, .string ⟨⟨nm⟩⟩] W fun e w' => e = .returned (.tuple #[.string ⟨⟨y⟩⟩, .agg #[.string ⟨⟨fd.nm⟩⟩, .string ⟨⟨fd.ty⟩⟩], .bool true]) ∧ Below W.heap.size W w' from fun W hw => (HFO.out W hw).mono (fun e w' ⟨hb, h⟩ => by
        rcases h with ⟨h, _⟩ | ⟨x, f2, h, he⟩
        · rw [hf] at h; cases h
        · rw [hf] at h
          simp only [Option.some.injEq, Prod.mk.injEq] at h
          obtain ⟨rfl, rfl⟩ := h
          exact ⟨he, hb⟩))
      have HFF := Lib.hid (fld_some HKT.out hf)
      have HTL := Lib.hid (type_len25 (fieldOf_ty HGD.out hf))
      clear hf
      have HAL := Lib.hid (show Below w3.heap.size w3 (w3.alloc (.cells #[.string ⟨#[]⟩, .string ⟨#[]⟩] 173)).drew from (bl_alloc (Below.refl _ _) _).drew)
      have HZ1 := Lib.hid (show Blk (w3.alloc (.cells #[.string ⟨#[]⟩, .string ⟨#[]⟩] 173)).drew w3.heap.size 173 #[.string ⟨#[]⟩, .string ⟨#[]⟩] from blk_new _ _ _ _ rfl)
      go_upto_region 2 with fail
      go_region_held3 (fun W' => W'.cell? ⟨c, 0, none⟩ = some (.map (some b)) ∧ W'.cell? ⟨w.heap.size, 4, none⟩ = some (.string ⟨⟨cl⟩⟩) ∧ W'.cell? ⟨w.heap.size, 5, none⟩ = some (.string ⟨⟨nm⟩⟩))
        (first | exact HSC.out _ (Below.refl _ _) | exact HSC.out _ (Below.refl _ _).drew | exact HSC.out _ HAL.out | exact HSC.out _ (bl_alloc (Below.refl _ _) _) | exact HSC.out _ hb34 | exact HSC.out _ (bl_alloc hb34 _) | exact HSC.out _ (bl_setn hb34 _ _) | exact HSC.out _ (bl_setn (bl_setn hb34 _ _) _ _))
        ((first
        | (go_at_call 159
           with_reducible refine (HFS.out w3.drew (HB3.out.trans ((Below.refl _ _).drew.mono HB3.out.size))).mono ?_
           rintro e w4 ⟨rfl, hb4⟩
           have hb34 := bl_trans (Below.refl w3.heap.size w3).drew hb4)
        | (go_at_call 159
           with_reducible refine (HFS.out (w3.alloc (.cells #[.string ⟨#[]⟩, .string ⟨#[]⟩] 173)).drew (HB3.out.trans (HAL.out.mono HB3.out.size))).mono ?_
           rintro e w4 ⟨rfl, hb4⟩
           have hb34 := bl_trans HAL.out hb4
           have hk4 := HZ1.out.below hb4
           have z0 := hk4.cell 0
           have z1 := hk4.cell 1
           have z2 := hk4.frozen 0
           have z3 := hk4.frozen 1
           have z4 := hk4.lt)))
      all_goals
        (first
        | (obtain ⟨w5, hw5⟩ : ∃ w5, w5 = w4.alloc (.cells #[.string ⟨⟨fd.nm⟩⟩, .string ⟨⟨fd.ty⟩⟩] 173) := ⟨_, rfl⟩
           rw [← hw5]
           have hk5 : Blk w5 w4.heap.size 173 #[.string ⟨⟨fd.nm⟩⟩, .string ⟨⟨fd.ty⟩⟩] := by rw [hw5]; exact blk_new _ _ _ _ rfl
           have hb5 : Below w3.heap.size w3 w5 := by rw [hw5]; exact bl_alloc hb34 _
           clear hw5)
        | (obtain ⟨w5, hw5⟩ : ∃ w5, w5 = (w4.setCell ⟨w3.heap.size, 0, none⟩ (.string ⟨⟨fd.nm⟩⟩)).setCell ⟨w3.heap.size, 1, none⟩ (.string ⟨⟨fd.ty⟩⟩) := ⟨_, rfl⟩
           rw [← hw5]
           have hk5 : Blk w5 w3.heap.size 173 #[.string ⟨⟨fd.nm⟩⟩, .string ⟨⟨fd.ty⟩⟩] := by rw [hw5]; exact blk_set (blk_set hk4 0 _) 1 _
           have hb5 : Below w3.heap.size w3 w5 := by rw [hw5]; exact bl_setn (bl_setn hb34 _ _) _ _
           clear hw5 z0 z1 z2 z3 z4 hk4))
        have HB5 := Lib.hid hb5
        have x1 := hk5.cell 1
        have x2 := hk5.lt
        have HK5 := Lib.hid hk5
        clear hb5 hb34 hb4 hk5 HSC HAL HZ1
        go_wp2_with fail
        refine (need_true _).mono ?_
        rintro e w6 ⟨rfl, rfl⟩
        go_wp2_with fail
        by_cases hk2 : kindErr (wl l) fd.ty = 0
        · have hkc := known_calls l L b c w0.heap.size fr gv f fd.ty w0 w6 HW.out rfl (HB3.out.trans (HB5.out.mono HB3.out.size)) (HS3.out.below HB5.out) (by have := HTL.out; omega)
          rw [if_pos hk2] at hkc
          refine hkc.mono ?_
          rintro e w7 ⟨rfl, hb7⟩
          have HB7 := Lib.hid hb7
          have HE := Lib.hid (show fldF (wl l) cl nm = some fd.ty by rw [HFF.out, if_neg (by simpa using hk2)])
          have HK2 := Lib.hid hk2
          have y1 := (HK5.out.below hb7).cell 1
          have y2 := (HK5.out.below hb7).lt
          clear hb7 hkc hk2 x1 x2
          go_wp2_with fail
          go_ret
          exact ⟨gb_below (gb_below HG3.out HB5.out) HB7.out, Or.inr ⟨_, HE.out, rfl, HK2.out, (HS3.out.below HB5.out).below HB7.out⟩⟩
        · have hkc := known_calls l L b c w0.heap.size fr gv f fd.ty w0 w6 HW.out rfl (HB3.out.trans (HB5.out.mono HB3.out.size)) (HS3.out.below HB5.out) (by have := HTL.out; omega)
          rw [if_neg hk2] at hkc
          refine hkc.mono ?_
          rintro e w7 ⟨rfl, hb7⟩
          have HB7 := Lib.hid hb7
          have HE := Lib.hid (show fldF (wl l) cl nm = none by rw [HFF.out, if_pos hk2])
          clear hb7 hkc hk2 x1 x2
          go_wp2_with fail
          exact ⟨rfl, gb_below (gb_below HG3.out HB5.out) HB7.out, Or.inl ⟨HE.out, rfl⟩⟩
  · rw [if_neg hk] at HKN
    have HE := Lib.hid (fld_bad (n := nm) hk)
    clear hk
    have e0 := HX.out.cell 4
    have e1 := HX.out.lt
    go_enter Tryz.func129, Tryz.ntmps129
    go_upto_region 1 with fail
    rw [← hw1]
    clear hw1
    go_wp2_with fail
    refine (HTH.out _).mono ?_
    rintro e w2 ⟨rfl, rfl⟩
    go_wp2_with fail
    refine HKN.out.mono ?_
    rintro e w3 ⟨rfl, hb3⟩
    have HG3 := Lib.hid (gb_below HG1.out hb3)
    clear hb3 e0 e1
    go_wp2_with fail
    exact ⟨rfl, HG3.out, Or.inl ⟨HE.out, rfl⟩⟩
end Go.Proofs.YtanjggdmgeedlaaGreatDoor
