/-
  The walk of world.Read: it tells exactly what is wrong with a world.
-/
import Derived.Test.YtokomofjcnefaaaDoorWorld4
namespace Go.Proofs.YtokomofjcnefaaaDoor
set_option linter.unusedVariables false
set_option linter.unusedSimpArgs false
open Go.RowKit Go.Shelf Go.Lib

def wcp (l : List ClassR) (ps : List CAddr) : List CP := first2 ++ l.zip ps
def wcpUp (l : List ClassR) (ps : List CAddr) (k : Nat) : List CP := first2 ++ (l.zip ps).take k

theorem zip_fst {l : List ClassR} {ps : List CAddr} (h : ps.length = l.length) : (l.zip ps).map (·.1) = l := List.map_fst_zip (by omega)
theorem cl_wcp {l : List ClassR} {ps : List CAddr} (h : ps.length = l.length) : CL (wcp l ps) = wl l := by
  unfold wcp
  rw [cl_first]
  show wl ((l.zip ps).map (·.1)) = _
  rw [zip_fst h]
theorem cl_wcpUp {l : List ClassR} {ps : List CAddr} (h : ps.length = l.length) (k : Nat) : CL (wcpUp l ps k) = wl (l.take k) := by
  unfold wcpUp
  rw [cl_first]
  show wl (((l.zip ps).take k).map (·.1)) = _
  rw [List.map_take, zip_fst h]
theorem wcpUp_all {l : List ClassR} {ps : List CAddr} (h : ps.length = l.length) : wcpUp l ps l.length = wcp l ps := by
  unfold wcpUp wcp
  rw [List.take_of_length_le (by rw [List.length_zip]; omega)]
theorem wcpUp_succ {l : List ClassR} {ps : List CAddr} {k : Nat} {c : ClassR} {p : CAddr} (hc : l[k]? = some c) (hp : ps[k]? = some p) : wcpUp l ps (k + 1) = wcpUp l ps k ++ [(c, p)] := by
  have hz : (l.zip ps)[k]? = some (c, p) := by rw [List.getElem?_zip_eq_some]; exact ⟨hc, hp⟩
  obtain ⟨hk, e⟩ := List.getElem?_eq_some_iff.1 hz
  unfold wcpUp
  rw [List.take_succ_eq_append_getElem hk, e, List.append_assoc]
theorem wcpUp_len {l : List ClassR} {ps : List CAddr} (h : ps.length = l.length) {k : Nat} (hk : k ≤ l.length) : (wcpUp l ps k).length = k + 2 := by
  unfold wcpUp
  rw [List.length_append, List.length_take, List.length_zip]
  simp [first2]
  omega
theorem cls_all {w W : World} {a : Option Addr} {cap : Nat} {l : List ClassR} {ps : List CAddr} (h : ClassesAt w a cap l ps) (hb : Below w.heap.size w W) : ∀ cp ∈ wcp l ps, ClassAt W cp.1 cp.2 := by
  intro cp hcp
  unfold wcp at hcp
  rcases List.mem_append.1 hcp with h1 | h1
  · simp only [first2, List.mem_cons, List.mem_nil_iff, or_false] at h1
    rcases h1 with rfl | rfl <;> exact ⟨⟨Nat.le_refl _, Or.inl rfl⟩, ⟨Nat.le_refl _, Or.inl rfl⟩, ⟨rfl, ⟨Nat.le_refl _, Or.inl rfl⟩, fun k m p hm => by simp [objC, fltC] at hm⟩⟩
  · obtain ⟨j, hj, rfl⟩ := List.getElem_of_mem h1
    have hz := List.getElem?_eq_getElem hj
    have hz' : (l.zip ps)[j]? = some ((l.zip ps)[j].1, (l.zip ps)[j].2) := hz
    rw [List.getElem?_zip_eq_some] at hz'
    exact (h.2.2 j _ _ hz'.1 hz'.2).below hb
theorem wcpUp_sub {l : List ClassR} {ps : List CAddr} {k : Nat} : ∀ cp ∈ wcpUp l ps k, cp ∈ wcp l ps := by
  intro cp h
  unfold wcpUp at h
  unfold wcp
  rcases List.mem_append.1 h with h1 | h1
  · exact List.mem_append_left _ h1
  · exact List.mem_append_right _ (List.mem_of_mem_take h1)
theorem cp_in {l : List ClassR} {ps : List CAddr} {cp : CP} (h : cp ∈ wcp l ps) : cp.1 = objC ∨ cp.1 = fltC ∨ cp.1 ∈ l := by
  unfold wcp at h
  rcases List.mem_append.1 h with h1 | h1
  · simp only [first2, List.mem_cons, List.mem_nil_iff, or_false] at h1
    rcases h1 with rfl | rfl
    · exact Or.inl rfl
    · exact Or.inr (Or.inl rfl)
  · exact Or.inr (Or.inr (List.of_mem_zip h1).1)

/-- what is asked of the classes -/
def ClsOk (l : List ClassR) : Prop := ∀ c ∈ l, ClassB c ∧ ClassI c
theorem cp_faces {l : List ClassR} {ps : List CAddr} (h : ClsOk l) : ∀ cp ∈ wcp l ps, cp.1.faces.length ≤ 100000000 := by
  intro cp hcp
  rcases cp_in hcp with e | e | e
  · rw [e]; simp [objC]
  · rw [e]; simp [fltC]
  · exact (h _ e).1.faces
theorem cp_sup {l : List ClassR} {ps : List CAddr} (h : ClsOk l) : ∀ cp ∈ wcp l ps, cp.1.sup.length ≤ 1048576 := by
  intro cp hcp
  rcases cp_in hcp with e | e | e
  · rw [e]; simp [objC]
  · rw [e]; simp [fltC, objN]
  · exact (h _ e).2.sup
theorem names_le {l : List ClassR} (h : ClsOk l) : ∀ x ∈ names l, x.length ≤ 1048576 := by
  intro x hx
  unfold names wl at hx
  simp only [List.map_cons, List.mem_cons, List.mem_map] at hx
  rcases hx with rfl | rfl | ⟨c, hc, rfl⟩
  · simp [objC, objN]
  · simp [fltC, fltN]
  · exact (h c hc).2.nm

noncomputable def rd3 (l : List ClassR) : Int := firstNZ (rdErr l) l.length
noncomputable def rd2 (l : List ClassR) : Int := if firstNZ (jnErr l) l.length ≠ 0 then firstNZ (jnErr l) l.length else rd3 l
noncomputable def rd1 (l : List ClassR) : Int := if firstNZ (inErr l) l.length ≠ 0 then firstNZ (inErr l) l.length else rd2 l
theorem read_1 {l : List ClassR} (h : ¬ 10 < l.length) : readErr l = rd1 l := by unfold readErr rd1 rd2 rd3; rw [if_neg h]
theorem rd1_2 {l : List ClassR} (h : ∀ j, j < l.length → inErr l j = 0) : rd1 l = rd2 l := by unfold rd1; rw [if_neg (by rw [(firstNZ_zero _ _).2 h]; simp)]
theorem rd2_3 {l : List ClassR} (h : ∀ j, j < l.length → jnErr l j = 0) : rd2 l = rd3 l := by unfold rd2; rw [if_neg (by rw [(firstNZ_zero _ _).2 h]; simp)]
theorem rd1_at {l : List ClassR} {k : Nat} (h0 : ∀ j, j < k → inErr l j = 0) (hk : inErr l k ≠ 0) (hl : k < l.length) : rd1 l = inErr l k := by
  have := firstNZ_at h0 hk _ hl
  unfold rd1; rw [this, if_pos hk]
theorem rd2_at {l : List ClassR} {k : Nat} (h0 : ∀ j, j < k → jnErr l j = 0) (hk : jnErr l k ≠ 0) (hl : k < l.length) : rd2 l = jnErr l k := by
  have := firstNZ_at h0 hk _ hl
  unfold rd2; rw [this, if_pos hk]
theorem rd3_at {l : List ClassR} {k : Nat} (h0 : ∀ j, j < k → rdErr l j = 0) (hk : rdErr l k ≠ 0) (hl : k < l.length) : rd3 l = rdErr l k := firstNZ_at h0 hk _ hl
theorem rd3_zero {l : List ClassR} (h : ∀ j, j < l.length → rdErr l j = 0) : rd3 l = 0 := (firstNZ_zero _ _).2 h

/-- what Read gives -/
def ReadRes (l : List ClassR) (ps : List CAddr) (w : World) (e : Ending) (w' : World) : Prop :=
  Below w.heap.size w w' ∧ ((readErr l ≠ 0 ∧ e = .returned (.tuple #[.map none, errV (readErr l)])) ∨
    (Good l ∧ ∃ b, e = .returned (.tuple #[.map (some b), .nilIface]) ∧ w.heap.size ≤ b ∧ WorldAt w' b (wcp l ps)))

set_option maxRecDepth 100000 in
set_option maxHeartbeats 4000000 in
theorem read_calls (l : List ClassR) (ps : List CAddr) (a : Option Addr) (cap : Nat) (w : World) (hC : ClassesAt w a cap l ps) (hF : FormsAt w) (hB : ClsOk l) :
    Calls Tryd.prog 18 #[.slice a l.length cap] w (ReadRes l ps w) := by
  by_cases h10 : 10 < l.length
  · have he : readErr l = 4 := by unfold readErr; rw [if_pos h10]
    have HE := Lib.hid he
    clear he
    go_enter Tryd.func18, Tryd.ntmps18
    go_wp2_with fail
    go_ret2
    exact ⟨Below.refl _ _, Or.inl ⟨by rw [HE.out]; omega, by rw [HE.out]; rfl⟩⟩
  have hps := hC.1
  have HPS := Lib.hid hps
  have HC := Lib.hid hC
  have HF := Lib.hid hF
  have HB := Lib.hid hB
  have HR1 := Lib.hid (read_1 h10)
  clear hC hF hB hps
  go_enter Tryd.func18, Tryd.ntmps18
  go_wp2_with fail
  refine (first_calls w).mono ?_
  rintro e w1 ⟨b, rfl, hw1, hwb, hb1⟩
  have HW1 := Lib.hid hw1
  have HB1 := Lib.hid hb1
  clear hw1 hb1
  go_wp2_with fail
  go_loopw [22] (fun i wr => ∃ k : Nat, k ≤ l.length ∧ i = .int .i64 k ∧ Below w.heap.size w wr ∧ Hid (WorldAt wr b (wcpUp l ps k)) ∧ Hid (∀ j, j < k → inErr l j = 0)) (fun i _ => l.length - (RowKit.intOf i).toNat)
  case atStart => exact ⟨0, by omega, rfl, HB1.out, HW1, Lib.hid (by omega)⟩
  case round =>
    obtain ⟨k, hk, rfl, hb, HW, HZ⟩ := hrel
    have HBW := Lib.hid hb
    have hsz := hb.size
    clear HW1 HB1
    by_cases hlk : k < l.length
    · obtain ⟨c, hx⟩ : ∃ c, l[k]? = some c := ⟨_, List.getElem?_eq_getElem hlk⟩
      obtain ⟨b1, off, p, rfl, hlt, hp, hca, d0, d1, d2, d3, d4, d5⟩ := (HC.out.below hb).cells hx
      have hcl := HB.out c (List.mem_of_getElem? hx)
      have HIN := Lib.hid (inErr_at hx)
      have HSU := Lib.hid (wcpUp_succ hx hp)
      have hnl := hcl.2.nm
      have HCK := Lib.hid (fun W (hb : Below wr.heap.size wr W) => check_calls c p W (hca.below hb) (HF.out.below (bl_trans HBW.out hb)) hcl.1)
      have HD := Lib.hid (cbox_new wr c p)
      unfold classV at HCK
      clear hx hp hca hcl hb
      by_cases hce : classErr c = 0
      case neg =>
        have hz : inErr l k = classErr c := by rw [HIN.out, if_pos hce]
        have HEE := Lib.hid (show readErr l = classErr c by rw [HR1.out, rd1_at HZ.out (by rw [hz]; exact hce) hlk, hz])
        have HNE := Lib.hid hce
        rw [errOf_ne hce] at HCK
        generalize classErr c = n at *
        clear hz hce
        go_wp2_with fail
        refine (HCK.out _ ((Below.refl _ _).alloc (Nat.le_refl _) _)).mono ?_
        rintro e w2 ⟨rfl, hb2⟩
        have HB2 := Lib.hid (bl_trans HBW.out (new_below hb2))
        clear hb2
        go_wp2_with fail
        go_ret2
        exact ⟨HB2.out, Or.inl ⟨by rw [HEE.out]; exact HNE.out, by rw [HEE.out]; rfl⟩⟩
      case pos =>
        have HIN2 := Lib.hid (show inErr l k = if (look (wl (l.take k)) c.nm).isSome then 5 else 0 by rw [HIN.out, if_neg (by simp [hce])])
        rw [hce, errOf_zero] at HCK
        clear hce HIN
        go_wp2_with fail
        refine (HCK.out _ ((Below.refl _ _).alloc (Nat.le_refl _) _)).mono ?_
        rintro e w2 ⟨rfl, hb2⟩
        have HB2 := Lib.hid (bl_trans HBW.out (new_below hb2))
        have HW2 := Lib.hid (HW.out.below (new_below hb2))
        have HD2 := Lib.hid (HD.out.below hb2)
        obtain ⟨hg, c0, c1, c2, c3, c4, c5⟩ := HD2.out
        have hml : c.nm.length ≤ maxLen := by unfold maxLen; omega
        clear hb2 HCK HD d0 d1 d2 d3 d4 d5
        cases hf : cpFind (wcpUp l ps k) c.nm with
        | some cq =>
          have hz : inErr l k = 5 := by rw [HIN2.out, ← cl_wcpUp HPS.out k, isSome_some hf]; rfl
          have HEE := Lib.hid (show readErr l = 5 by rw [HR1.out, rd1_at HZ.out (by rw [hz]; omega) hlk, hz])
          have hlk2 := wlook_some HW2.out hml hf true
          simp only [if_true] at hlk2
          unfold classV at hlk2
          clear hf hz
          go_wp2_with fail
          go_ret2
          exact ⟨HB2.out.alloc (by have := HB2.out.size; omega) _, Or.inl ⟨by rw [HEE.out]; omega, by rw [HEE.out]; rfl⟩⟩
        | none =>
          have hz : inErr l k = 0 := by rw [HIN2.out, ← cl_wcpUp HPS.out k, isSome_none hf]; rfl
          have HZ2 := Lib.hid (upto_succ HZ.out hz)
          have hlk2 := wlook_none HW2.out hml hf true
          simp only [if_true] at hlk2
          have hw2z := HB2.out.size
          obtain ⟨w5, hst, hS5, hg5⟩ := (HW2.out.below ((Below.refl _ _).alloc (Nat.le_refl _) (.cells #[.string ⟨#[]⟩, .string ⟨#[]⟩, .slice none 0 0, .bool false, .slice none 0 0, .slice none 0 0] 28))).1.store (P := Tryd.prog) (k := 9) (t := 53) (e := 28) Tryd.underlying9 Tryd.underlying53 hml (by unfold fOf; rw [hf]; rfl) (classV c p)
          have hB5 : Below w.heap.size w w5 := (HB2.out.alloc hw2z _).grown hg5 (by simp; omega) (fun k hk => by cases hk; exact hwb)
          have HB5 := Lib.hid hB5
          have HW5 : Hid (WorldAt w5 b (wcpUp l ps (k + 1))) := by
            refine ⟨hS5.cong ?_ (fun z => ?_), fun cp hcp => cls_all HC.out hB5 cp (wcpUp_sub cp hcp)⟩
            · rw [wcpUp_len HPS.out (by omega), wcpUp_len HPS.out (by omega)]; omega
            · rw [HSU.out]
              exact cpFind_snoc (wcpUp l ps k) (c, p) z hf
          unfold zeroC at hlk2
          unfold classV at hst
          clear hf hz hS5 hg5 hB5
          go_wp2_with fail
          go_roundw
          case rel => exact ⟨k + 1, by omega, by go_num, HB5.out, HW5, HZ2⟩
          case measure => simp [RowKit.intOf]; omega
    · obtain rfl : k = l.length := by omega
      have HR2 := Lib.hid (show readErr l = rd2 l by rw [HR1.out, rd1_2 HZ.out])
      have HZI := HZ
      have HWL := Lib.hid (show WorldAt wr b (wcp l ps) by rw [← wcpUp_all HPS.out]; exact HW.out)
      clear hb HZ HW HR1 hlk
      go_wp2_with fail
      go_loopw [47] (fun i wq => ∃ k : Nat, k ≤ l.length ∧ i = .int .i64 k ∧ Below w.heap.size w wq ∧ Hid (WorldAt wq b (wcp l ps)) ∧ Hid (∀ j, j < k → jnErr l j = 0)) (fun i _ => l.length - (RowKit.intOf i).toNat)
      case atStart => exact ⟨0, by omega, rfl, HBW.out, HWL, Lib.hid (by omega)⟩
      case round =>
        obtain ⟨k, hk, rfl, hb, HW, HZ⟩ := hrel
        clear HBW HWL
        have HBW := Lib.hid hb
        by_cases hlk : k < l.length
        · obtain ⟨c, hx⟩ : ∃ c, l[k]? = some c := ⟨_, List.getElem?_eq_getElem hlk⟩
          obtain ⟨b1, off, p, rfl, hlt, hp, hca, d0, d1, d2, d3, d4, d5⟩ := (HC.out.below hb).cells hx
          have hcl := HB.out c (List.mem_of_getElem? hx)
          have HJN := Lib.hid (jnErr_at hx)
          have HJC := Lib.hid (fun W (hb : Below wr.heap.size wr W) => joined_calls (wcp l ps) b c p W (HW.out.below hb) (hca.1.below hb) hcl.2.sup hcl.2.faces hcl.1.faces)
          rw [cl_wcp HPS.out] at HJC
          unfold classV at HJC
          clear hx hp hca hcl hb
          by_cases hje : joinErr (wl l) c = 0
          case neg =>
            have HEE := Lib.hid (show readErr l = joinErr (wl l) c by rw [HR2.out, rd2_at HZ.out (by rw [HJN.out]; exact hje) hlk, HJN.out])
            have HNE := Lib.hid hje
            rw [errOf_ne hje] at HJC
            generalize joinErr (wl l) c = n at *
            clear hje
            go_wp2_with fail
            refine (HJC.out _ ((Below.refl _ _).alloc (Nat.le_refl _) _)).mono ?_
            rintro e w2 ⟨rfl, hb2⟩
            have HB2 := Lib.hid (bl_trans HBW.out (new_below hb2))
            clear hb2
            go_wp2_with fail
            go_ret2
            exact ⟨HB2.out, Or.inl ⟨by rw [HEE.out]; exact HNE.out, by rw [HEE.out]; rfl⟩⟩
          case pos =>
            have HZ2 := Lib.hid (upto_succ HZ.out (by rw [HJN.out]; exact hje))
            rw [hje, errOf_zero] at HJC
            clear hje
            go_wp2_with fail
            refine (HJC.out _ ((Below.refl _ _).alloc (Nat.le_refl _) _)).mono ?_
            rintro e w2 ⟨rfl, hb2⟩
            have HB2 := Lib.hid (bl_trans HBW.out (new_below hb2))
            have HW2 := Lib.hid (HW.out.below (new_below hb2))
            clear hb2
            go_wp2_with fail
            go_roundw
            case rel => exact ⟨k + 1, by omega, by go_num, HB2.out, HW2, HZ2⟩
            case measure => simp [RowKit.intOf]; omega
        · obtain rfl : k = l.length := by omega
          have HR3 := Lib.hid (show readErr l = rd3 l by rw [HR2.out, rd2_3 HZ.out])
          have hjj : ∀ c ∈ l, joinErr (wl l) c = 0 := fun c hc => by
            obtain ⟨j, hj, hx⟩ := at_mem hc
            rw [← jnErr_at hx]; exact HZ.out j hj
          have HJJ := Lib.hid hjj
          have HW3 := HW
          clear hb HZ HW HR2 hlk hjj
          go_wp2_with fail
          go_loopw [60] (fun i wq => ∃ k : Nat, k ≤ l.length ∧ i = .int .i64 k ∧ Below w.heap.size w wq ∧ Hid (WorldAt wq b (wcp l ps)) ∧ Hid (∀ j, j < k → rdErr l j = 0)) (fun i _ => l.length - (RowKit.intOf i).toNat)
          case atStart => exact ⟨0, by omega, rfl, HBW.out, HW3, Lib.hid (by omega)⟩
          case round =>
            obtain ⟨k, hk, rfl, hb, HW, HZ⟩ := hrel
            clear HBW HW3
            have HBW := Lib.hid hb
            by_cases hlk : k < l.length
            · obtain ⟨c, hx⟩ : ∃ c, l[k]? = some c := ⟨_, List.getElem?_eq_getElem hlk⟩
              obtain ⟨b1, off, p, rfl, hlt, hp, hca, d0, d1, d2, d3, d4, d5⟩ := (HC.out.below hb).cells hx
              have HRD := Lib.hid (rdErr_at hx)
              have hcn : c.nm ∈ names l := by unfold names wl; simp only [List.map_cons, List.mem_cons]; right; right; exact List.mem_map.2 ⟨c, List.mem_of_getElem? hx, rfl⟩
              have HRC := Lib.hid (fun W (hb : Below wr.heap.size wr W) => round_calls (wcp l ps) (c.nm :: names l) b c.nm W (HW.out.below hb) (by rw [cl_wcp HPS.out]; exact closed_names HJJ.out c.nm) (by simp) (by simp [names_len]; omega) (fun x hx => by
                rcases List.mem_cons.1 hx with e | e
                · rw [e]; exact names_le HB.out _ hcn
                · exact names_le HB.out _ e) (cp_faces HB.out))
              rw [cl_wcp HPS.out] at HRC
              clear hx hp hca hb hcn
              cases hre : roundB (wl l) c.nm with
              | true =>
                have hz : rdErr l k = 6 := by rw [HRD.out, hre]; rfl
                have HEE := Lib.hid (show readErr l = 6 by rw [HR3.out, rd3_at HZ.out (by rw [hz]; omega) hlk, hz])
                rw [hre] at HRC
                clear hre hz
                go_wp2_with fail
                refine (HRC.out _ ((Below.refl _ _).alloc (Nat.le_refl _) _)).mono ?_
                rintro e w2 ⟨rfl, hb2⟩
                have HB2 := Lib.hid (bl_trans HBW.out (new_below hb2))
                clear hb2
                go_wp2_with fail
                go_ret2
                exact ⟨HB2.out, Or.inl ⟨by rw [HEE.out]; omega, by rw [HEE.out]; rfl⟩⟩
              | false =>
                have HZ2 := Lib.hid (upto_succ HZ.out (by rw [HRD.out, hre]; rfl))
                rw [hre] at HRC
                clear hre
                go_wp2_with fail
                refine (HRC.out _ ((Below.refl _ _).alloc (Nat.le_refl _) _)).mono ?_
                rintro e w2 ⟨rfl, hb2⟩
                have HB2 := Lib.hid (bl_trans HBW.out (new_below hb2))
                have HW2 := Lib.hid (HW.out.below (new_below hb2))
                clear hb2
                go_wp2_with fail
                go_roundw
                case rel => exact ⟨k + 1, by omega, by go_num, HB2.out, HW2, HZ2⟩
                case measure => simp [RowKit.intOf]; omega
            · obtain rfl : k = l.length := by omega
              have HG := Lib.hid ((readErr_zero l).1 (by rw [HR3.out, rd3_zero HZ.out]))
              clear hb HZ hlk
              go_wp2_with fail
              go_ret2
              exact ⟨HBW.out, Or.inr ⟨HG.out, b, rfl, hwb, HW.out⟩⟩
end Go.Proofs.YtokomofjcnefaaaDoor
