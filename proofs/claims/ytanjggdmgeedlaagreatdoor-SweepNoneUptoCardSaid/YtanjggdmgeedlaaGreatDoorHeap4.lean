/-
  The walk of heap.Right: exact.
-/
import Derived.Test.YtanjggdmgeedlaaGreatDoorHeap3A
import Derived.Lib.QuietBelow
import Derived.BigQuiet
import Derived.Deep.QuietTactic
namespace Go.Proofs.YtanjggdmgeedlaaGreatDoor
set_option linter.unusedVariables false
set_option linter.unusedSimpArgs false
open Go.RowKit Go.Shelf Go.Lib Go.Sort

theorem right_at {L : List ClassR} {X : List ThingR} {j : Nat} {x : ThingR} (h50 : ¬ 50 < X.length) (h0 : ∀ k, k < j → frmErrs L X k = 0) (hx : X[j]? = some x) (hz : formErr L x ≠ 0) : rightErr L X = formErr L x := by
  have hf : frmErrs L X j = formErr L x := by unfold frmErrs; rw [hx]; rfl
  have h1 := firstNZ_at (f := frmErrs L X) (k := j) h0 (by rw [hf]; exact hz) X.length (List.getElem?_eq_some_iff.1 hx).1
  unfold rightErr
  rw [if_neg h50, h1, hf, if_pos hz]
theorem right_forms {L : List ClassR} {X : List ThingR} (h0 : ∀ k, k < X.length → frmErrs L X k = 0) : ∀ x ∈ X, formErr L x = 0 := by
  intro x hx
  obtain ⟨j, hj⟩ := List.getElem?_of_mem hx
  have := h0 j (List.getElem?_eq_some_iff.1 hj).1
  unfold frmErrs at this
  rw [hj] at this
  exact this
theorem right_bad {L : List ClassR} {X : List ThingR} {x : ThingR} (h50 : ¬ 50 < X.length) (h0 : ∀ x ∈ X, formErr L x = 0) (hx : x ∈ X) (hb : thingB L (X.map (·.ty)) x = false) : rightErr L X = 7 := by
  have h1 : firstNZ (frmErrs L X) X.length = 0 := (firstNZ_zero _ _).2 fun k hk => by
    unfold frmErrs
    rw [List.getElem?_eq_getElem hk]
    exact h0 _ (List.getElem_mem hk)
  unfold rightErr
  rw [if_neg h50, if_neg (by simpa using h1), if_neg]
  intro h
  rw [List.all_eq_true.1 h x hx] at hb
  cases hb
theorem thing_bad {L : List ClassR} {tys : List Nm} {x : ThingR} {k : Nat} (hk : k < (typesH L x).length) (h : valB L tys (x.has.getD k ⟨0, 0⟩) ((typesH L x).getD k []) = false) : thingB L tys x = false := by
  cases hb : thingB L tys x with
  | false => rfl
  | true =>
    unfold thingB at hb
    rw [List.all_eq_true.1 hb k (List.mem_range.2 hk)] at h
    cases h
theorem thing_good {L : List ClassR} {tys : List Nm} {x : ThingR} (h : ∀ k, k < (typesH L x).length → valB L tys (x.has.getD k ⟨0, 0⟩) ((typesH L x).getD k []) = true) : thingB L tys x = true :=
  List.all_eq_true.2 fun k hk => h k (List.mem_range.1 hk)

theorem field_types {c : ClassR} (h : classErr c = 0) : ∀ f ∈ c.fields, TypeOk f.ty := by
  intro f hf
  obtain ⟨j, hj⟩ := List.getElem?_of_mem hf
  have := (classErr_ok h).2.2.2.1 j (List.getElem?_eq_some_iff.1 hj).1
  unfold fieldErr at this
  rw [hj] at this
  simp only [Option.elim_some] at this
  split at this
  · omega
  · rename_i h1
    exact Classical.not_not.1 fun h2 => h1 (Or.inr h2)
/-- the types of what a thing has are types -/
theorem typesH_dt {l : List ClassR} (hg : Good l) {x : ThingR} (h : (∃ n, TyL (wl l) x n) ∨ ∃ r, TyA (wl l) x r) : ∀ t ∈ typesH (wl l) x, DT t := by
  intro t ht
  rcases h with ⟨n, h⟩ | ⟨r, h⟩
  · rw [typesH_L h] at ht
    unfold typesF slotsF at ht
    obtain ⟨f, hf, rfl⟩ := List.mem_map.1 ht
    obtain ⟨c, _, hc⟩ := List.mem_flatMap.1 hf
    unfold addF at hc
    obtain ⟨g, hg2, rfl⟩ := List.mem_map.1 hc
    unfold fieldsAt at hg2
    cases hl : look (wl l) c with
    | none => rw [hl] at hg2; cases hg2
    | some d =>
      rw [hl] at hg2
      have hd := (find_name hl).2
      unfold wl at hd
      simp only [List.mem_cons] at hd
      rcases hd with rfl | rfl | hd
      · cases hg2
      · cases hg2
      · exact dt_ok ((field_types (hg.ok d hd)) g hg2)
  · rw [typesH_A h] at ht
    rw [(List.mem_replicate.1 ht).2]
    exact h.2.2

set_option maxRecDepth 100000 in
set_option maxHeartbeats 8000000 in
theorem right_calls (l : List ClassR) (L : List CP) (b : Nat) (X : List ThingR) (ps : List HA) (a : Option Addr) (cap : Nat) (w : World) (hW : WOk w b l L) (hT : ThingsAt w a cap X ps) (hB : HpB X) :
    Calls Tryz.prog 54 #[.map (some b), .agg #[.slice a X.length cap]] w fun e w' => e = .returned (errOf (rightErr (wl l) X)) ∧ Below w.heap.size w w' := by
  by_cases h50 : 50 < X.length
  · have HR := Lib.hid (show rightErr (wl l) X = 4 by unfold rightErr; rw [if_pos h50])
    have q1 : (50 : Int) < (X.length : Int) := by omega
    have HB1 := Lib.hid (fun o => bl_alloc (Below.refl w.heap.size w) o)
    clear hW hT hB h50
    go_enter Tryz.func54, Tryz.ntmps54
    go_wp2_with fail
    go_ret
    exact ⟨by rw [HR.out]; rfl, HB1.out _⟩
  · have q1 : ¬ (50 : Int) < (X.length : Int) := by omega
    obtain ⟨w1, hw1⟩ : ∃ w1, w1 = w.alloc (.cells #[.slice a X.length cap] 25) := ⟨_, rfl⟩
    have HX := Lib.hid (show Blk w1 w.heap.size 25 #[.slice a X.length cap] by rw [hw1]; exact blk_new _ _ _ _ rfl)
    have HB1 := Lib.hid (show Below w.heap.size w w1 by rw [hw1]; exact bl_alloc (Below.refl _ _) _)
    have HW := Lib.hid hW
    have HT := Lib.hid hT
    have HBD := Lib.hid hB
    have H50 := Lib.hid h50
    clear hW hT hB
    go_enter Tryz.func54, Tryz.ntmps54
    go_wp2_with fail
    rw [← hw1]
    clear hw1
    go_loopw [20] (fun i wr => ∃ j : Nat, j ≤ X.length ∧ i = .int .i64 j ∧ Hid (∀ k, k < j → frmErrs (wl l) X k = 0) ∧ Below w1.heap.size w1 wr) (fun i _ => X.length - (RowKit.intOf i).toNat)
    case atStart => exact ⟨0, by omega, rfl, Lib.hid (by simp), Below.refl _ _⟩
    case round =>
      obtain ⟨j, hj, rfl, HZ, hbr⟩ := hrel
      have HBR := Lib.hid (bl_trans HB1.out hbr)
      have HBR1 := Lib.hid hbr
      clear hbr
      by_cases hlj : j < X.length
      · obtain ⟨x, hx⟩ : ∃ x, X[j]? = some x := ⟨_, List.getElem?_eq_getElem hlj⟩
        obtain ⟨b2, off, p, hae, hlt, _, _, c0, c1⟩ := (HT.out.below HBR.out).cells hx
        have HXI := Lib.hid hx
        have HF := Lib.hid (fun W (hw : Below w.heap.size w W) => show Calls Tryz.prog 103 #[.map (some b), .agg #[.string ⟨⟨x.ty⟩⟩, .slice p.1 x.has.length p.2]] W fun e w' => e = .returned (errOf (formErr (wl l) x)) ∧ Below W.heap.size W w' from formed_calls l L b x p W (HW.out.below hw) (HBD.out.2 x (List.mem_of_getElem? hx)))
        have HA := Lib.hid hae
        rw [hae]
        clear hx hae
        by_cases hz : formErr (wl l) x = 0
        · have HZ2 := Lib.hid (show ∀ k, k < j + 1 → frmErrs (wl l) X k = 0 from fun k hk => by
            by_cases e : k = j
            · subst e; unfold frmErrs; rw [HXI.out]; exact hz
            · exact HZ.out k (by omega))
          rw [hz, errOf_zero] at HF
          clear hz
          go_wp2_with fail
          refine (HF.out _ (bl_alloc HBR.out _)).mono ?_
          rintro e w4 ⟨rfl, hb4⟩
          have HB4 := Lib.hid (bl_trans (bl_alloc HBR1.out _) hb4)
          clear hb4
          go_wp2_with fail
          go_roundw
          case rel => exact ⟨j + 1, by omega, by go_num, HZ2, HB4.out⟩
          case measure => simp [RowKit.intOf]; omega
        · have HR := Lib.hid (show rightErr (wl l) X = formErr (wl l) x from right_at H50.out HZ.out HXI.out hz)
          rw [errOf_ne hz] at HF
          have HE := Lib.hid (errOf_ne hz)
          generalize formErr (wl l) x = z at *
          clear hz
          go_wp2_with fail
          refine (HF.out _ (bl_alloc HBR.out _)).mono ?_
          rintro e w4 ⟨rfl, hb4⟩
          have HB4 := Lib.hid (bl_trans (bl_alloc HBR.out _) hb4)
          clear hb4
          go_wp2_with fail
          go_ret
          exact ⟨by rw [HR.out, HE.out]; rfl, HB4.out⟩
      · obtain rfl : j = X.length := by omega
        have HFM := Lib.hid (right_forms HZ.out)
        obtain ⟨wa, hwa⟩ : ∃ wa, wa = wr := ⟨wr, rfl⟩
        subst hwa
        have HXA := Lib.hid (HX.out.below HBR1.out)
        have e0 := HXA.out.cell 0
        have e1 := HXA.out.lt
        clear HZ
        go_wp2_with fail
        go_loopw [34] (fun i wr => ∃ j : Nat, j ≤ X.length ∧ i = .int .i64 j ∧ Hid (∀ y ∈ X.take j, thingB (wl l) (X.map (·.ty)) y = true) ∧ Below wa.heap.size wa wr) (fun i _ => X.length - (RowKit.intOf i).toNat)
        case atStart => exact ⟨0, by omega, rfl, Lib.hid (by simp), Below.refl _ _⟩
        case round =>
          obtain ⟨j, hj, rfl, HG, hbr⟩ := hrel
          obtain ⟨wb, hwb⟩ : ∃ wb, wb = wr := ⟨wr, rfl⟩
          subst hwb
          have HBR2 := Lib.hid (bl_trans HBR.out hbr)
          have HBR3 := Lib.hid hbr
          have HXR := Lib.hid (HXA.out.below hbr)
          clear hbr e0 e1
          by_cases hlj2 : j < X.length
          · obtain ⟨x, hx⟩ : ∃ x, X[j]? = some x := ⟨_, List.getElem?_eq_getElem hlj2⟩
            obtain ⟨b2, off, p, hae, hlt, _, hhas, c0, c1⟩ := (HT.out.below HBR2.out).cells hx
            have hmx := List.mem_of_getElem? hx
            obtain ⟨d, bs, he, hok, hrf, hlen, h10⟩ := form_kd (HFM.out x hmx)
            have hty := ty_cases he hok hrf h10
            have hty2 := htypes_calls l L b x p
            obtain ⟨T, hTe⟩ : ∃ T, T = typesH (wl l) x := ⟨_, rfl⟩
            have HTY := Lib.hid (fun W (hw : Below w.heap.size w W) => show Calls Tryz.prog 57 #[.map (some b), .agg #[.string ⟨⟨x.ty⟩⟩, .slice p.1 x.has.length p.2]] W (TysRes T W) from by rw [hTe]; exact htypes_calls l L b x p W (HW.out.below hw) hty)
            have HDT := Lib.hid (show ∀ t ∈ T, DT t by rw [hTe]; exact typesH_dt HW.out.good hty)
            have hTl : T.length = x.has.length := by rw [hTe]; exact hlen
            have hxl := (HBD.out.2 x hmx).2.1
            have HGS := Lib.hid (show (∀ k, k < T.length → valB (wl l) (X.map (·.ty)) (x.has.getD k ⟨0, 0⟩) (T.getD k []) = true) → ∀ y ∈ X.take (j + 1), thingB (wl l) (X.map (·.ty)) y = true from fun h => by
              intro y hy
              rw [List.take_add_one, hx] at hy
              rcases List.mem_append.1 hy with hy | hy
              · exact HG.out y hy
              · simp at hy
                rw [hy]
                exact thing_good (by rw [← hTe]; exact h))
            have HBS := Lib.hid (show ∀ k, k < T.length → valB (wl l) (X.map (·.ty)) (x.has.getD k ⟨0, 0⟩) (T.getD k []) = false → rightErr (wl l) X = 7 from fun k hk h => right_bad H50.out HFM.out hmx (thing_bad (by rw [← hTe]; exact hk) (by rw [← hTe]; exact h)))
            have HHAS := Lib.hid hhas
            have HA := Lib.hid hae
            rw [hae]
            clear hx hae hmx he hok hrf hlen h10 hty hty2 hTe hhas HG
            go_wp2_with fail
            refine (HTY.out _ (bl_alloc HBR2.out _)).mono ?_
            rintro e w4 ⟨hb4, a4, c4, rfl, hr4⟩
            have hal : Below wb.heap.size wb (wb.alloc (.cells #[.string ⟨⟨x.ty⟩⟩, .slice p.1 x.has.length p.2] 33)) := bl_alloc (Below.refl _ _) _
            have HB4 := Lib.hid (bl_trans (bl_alloc HBR3.out _) hb4)
            have HBW := Lib.hid (bl_trans (bl_alloc HBR2.out _) hb4)
            have HX9 := Lib.hid ((blk_new wb wb.heap.size 33 #[.string ⟨⟨x.ty⟩⟩, .slice p.1 x.has.length p.2] rfl).below hb4)
            have HX4 := Lib.hid ((HXR.out.below hal).below hb4)
            have HH4 := Lib.hid ((HHAS.out.below hal).below hb4)
            have HR4 := Lib.hid hr4
            clear hb4 hr4 hal c0 c1 hlt
            go_wp2_with fail
            go_loopw [42] (fun i wr => ∃ k : Nat, k ≤ T.length ∧ i = .int .i64 k ∧ Hid (∀ m, m < k → valB (wl l) (X.map (·.ty)) (x.has.getD m ⟨0, 0⟩) (T.getD m []) = true) ∧ Below w4.heap.size w4 wr) (fun i _ => T.length - (RowKit.intOf i).toNat)
            case atStart => exact ⟨0, by omega, rfl, Lib.hid (by simp), Below.refl _ _⟩
            case round =>
              obtain ⟨k, hk, rfl, HV, hbr⟩ := hrel
              have HBR4 := Lib.hid hbr
              have HBW4 := Lib.hid (bl_trans HBW.out hbr)
              clear hbr
              by_cases hlk : k < T.length
              · obtain ⟨t, ht⟩ : ∃ t, T[k]? = some t := ⟨_, List.getElem?_eq_getElem hlk⟩
                obtain ⟨v, hv⟩ : ∃ v, x.has[k]? = some v := ⟨_, List.getElem?_eq_getElem (by omega)⟩
                obtain ⟨b6, off6, hp6, hl6, v0, v1⟩ := (HH4.out.below HBR4.out).cells hv
                obtain ⟨b5, off5, ha5, hl5, t0⟩ : ∃ b off, a4 = some ⟨b, off, none⟩ ∧ b < wr.heap.size ∧ wr.cell? ⟨b, off + k, none⟩ = some (.string ⟨⟨t⟩⟩) := by
                  rcases (HR4.out.below HBR4.out).2 with h | ⟨b, off, rfl, hlt, hc⟩
                  · rw [h] at ht; cases ht
                  · exact ⟨b, off, rfl, hlt, hc k t ht⟩
                have hvg : x.has.getD k ⟨0, 0⟩ = v := by simp [List.getD, hv]
                have htg : T.getD k [] = t := by simp [List.getD, ht]
                obtain ⟨q, hq⟩ : ∃ q, q = valB (wl l) (X.map (·.ty)) v t := ⟨_, rfl⟩
                have HDO := Lib.hid (fun W (hw : Below wr.heap.size wr W) => show Calls Tryz.prog 31 #[.map (some b), .agg #[.slice a X.length cap], .agg #[.int .i64 v.kind, .int .i64 v.n], .string ⟨⟨t⟩⟩] W fun e w' => e = .returned (.bool q) ∧ Below W.heap.size W w' from by
                  rw [hq]
                  exact hdoes_calls l L b X ps a cap v t W (HW.out.below (bl_trans HBW4.out hw)) (HT.out.below (bl_trans HBW4.out hw)) HFM.out (HDT.out t (List.mem_of_getElem? ht)) (by omega))
                have HV2 := Lib.hid (show q = true → ∀ m, m < k + 1 → valB (wl l) (X.map (·.ty)) (x.has.getD m ⟨0, 0⟩) (T.getD m []) = true from fun h m hm => by
                  by_cases e : m = k
                  · subst e; rw [hvg, htg, ← hq]; exact h
                  · exact HV.out m (by omega))
                have HV3 := Lib.hid (show q = false → rightErr (wl l) X = 7 from fun h => HBS.out k hlk (by rw [hvg, htg, ← hq]; exact h))
                have HGR := Lib.hid (fun (d : Nat) (os : Array Obj) => below_regrown wr d os)
                have gv0 := fun (d : Nat) (os : Array Obj) => ((HGR.out d os).cell (p := ⟨b6, off6 + k * 2, none⟩) hl6).trans v0
                have gv1 := fun (d : Nat) (os : Array Obj) => ((HGR.out d os).cell (p := ⟨b6, off6 + k * 2 + 1, none⟩) hl6).trans v1
                have g3 := fun (d : Nat) (os : Array Obj) => (show (grow (redrawn wr d) os).cell? ⟨w.heap.size, 0, none⟩ = some (.slice a X.length cap) from ((HX4.out.below HBR4.out).below (HGR.out d os)).cell 0)
                have g9 := fun (d : Nat) (os : Array Obj) => (show (grow (redrawn wr d) os).cell? ⟨wb.heap.size, 1, none⟩ = some (.slice (some ⟨b6, off6, none⟩) x.has.length p.2) from by rw [← hp6]; exact ((HX9.out.below HBR4.out).below (HGR.out d os)).cell 1)
                have hkx : k < x.has.length := by omega
                rw [ha5]
                clear ht hv hp6 v0 v1 hvg htg hq
                go_upto_region 16 with fail
                refine wp_region_quiet_below (by kernel_rfl) (by kernel_rfl) ?_
                repeat (first | go_big_quiet_step (exact Calls.regrown_of (HDO.out _ (HGR.out _ _))) | quiet_step (exact Calls.regrown_of (HDO.out _ (HGR.out _ _))))
                refine wpQuiet_nil ?_
                intro _ hw'
                obtain ⟨⟨dq, osq⟩, hw''⟩ := hw'
                subst hw''
                have HBQ := Lib.hid (bl_trans HBR4.out (HGR.out dq osq))
                have HBQW := Lib.hid (bl_trans HBW4.out (HGR.out dq osq))
                clear gv0 gv1 g3 g9
                cases q with
                | true =>
                  have HV4 := Lib.hid (HV2.out rfl)
                  go_wp2_with fail
                  go_roundw
                  case rel => exact ⟨k + 1, by omega, by go_num, HV4, HBQ.out⟩
                  case measure => simp [RowKit.intOf]; omega
                | false =>
                  have HV4 := Lib.hid (HV3.out rfl)
                  go_wp2_with fail
                  go_ret
                  exact ⟨by rw [HV4.out]; rfl, HBQW.out⟩
              · obtain rfl : k = T.length := by omega
                have HG2 := Lib.hid (HGS.out HV.out)
                have HBO := Lib.hid (bl_trans HB4.out HBR4.out)
                go_wp2_with fail
                go_roundw
                case rel => exact ⟨j + 1, by omega, by go_num, HG2, HBO.out⟩
                case measure => simp [RowKit.intOf]; omega
          · obtain rfl : j = X.length := by omega
            have HR := Lib.hid (show rightErr (wl l) X = 0 from right_zero.2 ⟨by omega, HFM.out, by have := HG.out; rwa [List.take_length] at this⟩)
            go_wp2_with fail
            go_ret
            exact ⟨by rw [HR.out]; rfl, HBR2.out⟩
end Go.Proofs.YtanjggdmgeedlaaGreatDoor
