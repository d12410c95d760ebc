/-
  The walks of world.W's joined and round.
-/
import Derived.Test.YtokomofjcnefaaaDoorWorld3
namespace Go.Proofs.YtokomofjcnefaaaDoor
set_option linter.unusedVariables false
set_option linter.unusedSimpArgs false
open Go.RowKit Go.Shelf Go.Lib

def jn4 (c : ClassR) : Int := if c.face = true ∧ c.sup ≠ objN then 7 else 0
noncomputable def jn3 (L : List ClassR) (c : ClassR) : Int := if firstNZ (facErr L c.faces) c.faces.length ≠ 0 then firstNZ (facErr L c.faces) c.faces.length else jn4 c
noncomputable def jn2 (L : List ClassR) (c : ClassR) : Int := if hasErr L c.sup false ≠ 0 then hasErr L c.sup false else jn3 L c
noncomputable def jn1 (L : List ClassR) (c : ClassR) : Int := if firstNZ (isErr L c.faces) c.faces.length ≠ 0 then firstNZ (isErr L c.faces) c.faces.length else jn2 L c
theorem join_1 {L : List ClassR} {c : ClassR} (h1 : c.sup ≠ []) (h2 : (look L c.sup).isSome = true) : joinErr L c = jn1 L c := by
  unfold joinErr jn1 jn2 jn3 jn4
  rw [if_neg h1, if_neg (by cases hl : look L c.sup with | none => rw [hl] at h2; cases h2 | some d => simp)]
theorem jn1_2 {L : List ClassR} {c : ClassR} (h : ∀ j, j < c.faces.length → isErr L c.faces j = 0) : jn1 L c = jn2 L c := by unfold jn1; rw [if_neg (by rw [(firstNZ_zero _ _).2 h]; simp)]
theorem jn1_at {L : List ClassR} {c : ClassR} {k : Nat} (h0 : ∀ j, j < k → isErr L c.faces j = 0) (hk : isErr L c.faces k ≠ 0) (hl : k < c.faces.length) : jn1 L c = isErr L c.faces k := by
  have := firstNZ_at h0 hk _ hl
  unfold jn1
  rw [this, if_pos hk]
theorem jn3_4 {L : List ClassR} {c : ClassR} (h : ∀ j, j < c.faces.length → facErr L c.faces j = 0) : jn3 L c = jn4 c := by unfold jn3; rw [if_neg (by rw [(firstNZ_zero _ _).2 h]; simp)]
theorem jn3_at {L : List ClassR} {c : ClassR} {k : Nat} (h0 : ∀ j, j < k → facErr L c.faces j = 0) (hk : facErr L c.faces k ≠ 0) (hl : k < c.faces.length) : jn3 L c = facErr L c.faces k := by
  have := firstNZ_at h0 hk _ hl
  unfold jn3
  rw [this, if_pos hk]
theorem isErr_at {L : List ClassR} {l : List Nm} {k : Nat} {f : Nm} (h : l[k]? = some f) : isErr L l k = if (look L f).isSome then 0 else 3 := by unfold isErr; rw [h]; rfl
theorem facErr_at {L : List ClassR} {l : List Nm} {k : Nat} {f : Nm} (h : l[k]? = some f) : facErr L l k = hasErr L f true := by unfold facErr; rw [h]; rfl

set_option maxRecDepth 100000 in
set_option maxHeartbeats 4000000 in
theorem joined_calls (L : List CP) (b : Nat) (c : ClassR) (p : CAddr) (w : World) (hW : WorldAt w b L) (hS : SRow w p.fa p.fc c.faces) (hsl : c.sup.length ≤ 1048576) (hfl : ∀ f ∈ c.faces, f.length ≤ 1048576) (hfn : c.faces.length ≤ 100000000) :
    Calls Tryd.prog 29 #[.map (some b), classV c p] w fun e w' => e = .returned (errOf (joinErr (CL L) c)) ∧ Below w.heap.size w w' := by
  have hml : (1048576 : Nat) ≤ maxLen := by unfold maxLen; omega
  generalize hE : errOf (joinErr (CL L) c) = E
  have HE := Lib.hid hE
  have HX := Lib.hid (cbox_new w c p)
  have HW := Lib.hid hW
  have HS := Lib.hid hS
  have HFL := Lib.hid hfl
  clear hE hW hS hfl
  unfold classV
  generalize hpfa : p.fa = fa at *
  generalize hpga : p.ga = ga at *
  generalize hpma : p.ma = ma at *
  have HFA := Lib.hid hpfa
  have HGA := Lib.hid hpga
  have HMA := Lib.hid hpma
  clear hpfa hpga hpma
  have HM0 := Lib.hid (show Mid w c p (w.alloc (.cells #[.string ⟨⟨c.nm⟩⟩, .string ⟨⟨c.sup⟩⟩, .slice fa c.faces.length p.fc, .bool c.face, .slice ga c.fields.length p.gc, .slice ma c.meths.length p.mc] 28)) from ⟨(Below.refl _ _).alloc (Nat.le_refl _) _, HX.out⟩)
  by_cases hs : c.sup = []
  · have HEE := Lib.hid (show E = errV 1 by rw [← HE.out]; unfold joinErr; rw [if_pos hs]; rfl)
    rw [hs] at HX
    go_enter Tryd.func29, Tryd.ntmps29
    obtain ⟨hg, c0, c1, c2, c3, c4, c5⟩ := HX.out
    rw [hs] at c1
    clear c2 c3 c4 c5
    go_wp2_with fail
    go_ret
    exact ⟨by rw [HEE.out]; rfl, (Below.refl _ _).alloc (Nat.le_refl _) _⟩
  · obtain ⟨x, r, hx⟩ : ∃ x r, c.sup = x :: r := by
      cases h : c.sup with
      | nil => exact absurd h hs
      | cons x r => exact ⟨x, r, rfl⟩
    cases hf : cpFind L c.sup with
    | none =>
      have HEE := Lib.hid (show E = errV 3 by rw [← HE.out]; unfold joinErr; rw [if_neg hs, isSome_none hf]; rfl)
      have hlk := wlook_none (HW.out.below (HM0.out.1)) (Nat.le_trans hsl hml) hf true
      simp only [if_true] at hlk
      unfold zeroC at hlk
      rw [hx] at HX hlk
      clear hf hs HM0
      go_enter Tryd.func29, Tryd.ntmps29
      obtain ⟨hg, c0, c1, c2, c3, c4, c5⟩ := HX.out
      rw [hx] at c1
      clear c2 c3 c4 c5
      go_wp2_with fail
      go_ret
      exact ⟨by rw [HEE.out]; rfl, ((Below.refl _ _).alloc (Nat.le_refl _) _).alloc (by simp) _⟩
    | some cp =>
      have HE1 := Lib.hid (show errOf (jn1 (CL L) c) = E by rw [← HE.out, join_1 hs (by rw [isSome_some hf]; rfl)])
      have hlk := wlook_some (HW.out.below (HM0.out.1)) (Nat.le_trans hsl hml) hf true
      simp only [if_true] at hlk
      unfold classV at hlk
      rw [hx] at HX hlk HM0
      have HXX := Lib.hid hx
      clear hf hs HE
      go_enter Tryd.func29, Tryd.ntmps29
      obtain ⟨hg, c0, c1, c2, c3, c4, c5⟩ := HX.out
      rw [hx] at c1
      clear c2 c3 c4 c5
      go_wp2_with fail
      clear c0 c1 hg hx
      go_loopw [32] (fun i wr => ∃ k : Nat, k ≤ c.faces.length ∧ i = .int .i64 k ∧ Mid w c p wr ∧ Hid (∀ j, j < k → isErr (CL L) c.faces j = 0)) (fun i _ => c.faces.length - (RowKit.intOf i).toNat)
      case atStart => exact ⟨0, by omega, rfl, HM0.out.below ((Below.refl _ _).alloc (Nat.le_refl _) _), Lib.hid (by omega)⟩
      case round =>
        obtain ⟨k, hk, rfl, hm, HZ⟩ := hrel
        have HM := Lib.hid hm
        have hsz := hm.1.size
        clear hm HM0 hlk
        obtain ⟨hg, c0, c1, c2, c3, c4, c5⟩ := HM.out.cells HFA.out HGA.out HMA.out
        rw [HXX.out] at c1
        by_cases hlk : k < c.faces.length
        · obtain ⟨f, hf⟩ : ∃ f, c.faces[k]? = some f := ⟨_, List.getElem?_eq_getElem hlk⟩
          have hcw : SRow wr fa p.fc c.faces := HS.out.below HM.out.1
          obtain ⟨b1, off, rfl, hlt, d0⟩ := strs_cell hcw hf
          have hfn2 := HFL.out f (List.mem_of_getElem? hf)
          have HIE := Lib.hid (isErr_at (L := CL L) hf)
          have HWW := Lib.hid (HW.out.below HM.out.1)
          clear hcw hf c0 c1 c2 c3 c4 c5
          cases hff : cpFind L f with
          | none =>
            have hz : isErr (CL L) c.faces k = 3 := by rw [HIE.out, isSome_none hff]; rfl
            have HEE := Lib.hid (show E = errV 3 by rw [← HE1.out, jn1_at HZ.out (by rw [hz]; omega) hlk, hz]; rfl)
            have hlk2 := wlook_none HWW.out (Nat.le_trans hfn2 hml) hff true
            simp only [if_true] at hlk2
            unfold zeroC at hlk2
            clear hff hz
            go_wp2_with fail
            go_ret
            exact ⟨by rw [HEE.out]; rfl, HM.out.1.alloc hsz _⟩
          | some cq =>
            have HZ2 := Lib.hid (upto_succ HZ.out (by rw [HIE.out, isSome_some hff]; rfl))
            have hlk2 := wlook_some HWW.out (Nat.le_trans hfn2 hml) hff true
            simp only [if_true] at hlk2
            unfold classV at hlk2
            clear hff
            go_wp2_with fail
            go_roundw
            case rel => exact ⟨k + 1, by omega, by go_num, HM.out.below ((Below.refl _ _).alloc (Nat.le_refl _) _), HZ2⟩
            case measure => simp [RowKit.intOf]; omega
        · obtain rfl : k = c.faces.length := by omega
          have HE2 := Lib.hid (show errOf (jn2 (CL L) c) = E by rw [← HE1.out, jn1_2 HZ.out])
          have HHS := Lib.hid (has_calls L b (x :: r) false wr (HW.out.below HM.out.1) (by rw [← HXX.out]; omega))
          have HHE := Lib.hid (show hasErr (CL L) c.sup false = hasErr (CL L) (x :: r) false by rw [HXX.out])
          clear HZ HE1 hlk
          go_wp2_with fail
          refine HHS.out.mono ?_
          rintro e w3 ⟨rfl, hb3⟩
          have HM3 := Lib.hid (HM.out.below hb3)
          clear hb3 HM HHS hg c0 c1 c2 c3 c4 c5
          by_cases hz : hasErr (CL L) (x :: r) false = 0
          case neg =>
            have HEE := Lib.hid (show E = errV (hasErr (CL L) (x :: r) false) by rw [← HE2.out]; unfold jn2; rw [HHE.out, if_pos hz]; exact errOf_ne hz)
            rw [errOf_ne hz]
            generalize hasErr (CL L) (x :: r) false = n at *
            clear hz
            go_wp2_with fail
            go_ret
            exact ⟨by rw [HEE.out]; rfl, HM3.out.1⟩
          case pos =>
            have HE3 := Lib.hid (show errOf (jn3 (CL L) c) = E by rw [← HE2.out]; unfold jn2; rw [HHE.out, if_neg (by simp [hz])])
            rw [hz, errOf_zero]
            clear hz HE2 HHE
            obtain ⟨hg, c0, c1, c2, c3, c4, c5⟩ := HM3.out.cells HFA.out HGA.out HMA.out
            rw [HXX.out] at c1
            go_wp2_with fail
            clear hg c0 c1 c2 c3 c4 c5
            go_loopw [56] (fun i wr => ∃ k : Nat, k ≤ c.faces.length ∧ i = .int .i64 k ∧ Mid w c p wr ∧ Hid (∀ j, j < k → facErr (CL L) c.faces j = 0)) (fun i _ => c.faces.length - (RowKit.intOf i).toNat)
            case atStart => exact ⟨0, by omega, rfl, HM3.out, Lib.hid (by omega)⟩
            case round =>
              obtain ⟨k, hk, rfl, hm, HZ⟩ := hrel
              have HM := Lib.hid hm
              clear hm HM3
              obtain ⟨hg, c0, c1, c2, c3, c4, c5⟩ := HM.out.cells HFA.out HGA.out HMA.out
              rw [HXX.out] at c1
              by_cases hlk : k < c.faces.length
              · obtain ⟨f, hf⟩ : ∃ f, c.faces[k]? = some f := ⟨_, List.getElem?_eq_getElem hlk⟩
                have hcw : SRow wr fa p.fc c.faces := HS.out.below HM.out.1
                obtain ⟨b1, off, rfl, hlt, d0⟩ := strs_cell hcw hf
                have hfn2 := HFL.out f (List.mem_of_getElem? hf)
                have HIE := Lib.hid (facErr_at (L := CL L) hf)
                have HHS := Lib.hid (has_calls L b f true wr (HW.out.below HM.out.1) (Nat.le_trans hfn2 hml))
                clear hcw hf c0 c1 c2 c3 c4 c5
                by_cases hz : hasErr (CL L) f true = 0
                case neg =>
                  have HEE := Lib.hid (show E = errV (hasErr (CL L) f true) by rw [← HE3.out, jn3_at HZ.out (by rw [HIE.out]; exact hz) hlk, HIE.out]; exact errOf_ne hz)
                  rw [errOf_ne hz] at HHS
                  generalize hasErr (CL L) f true = n at *
                  clear hz
                  go_wp2_with fail
                  refine HHS.out.mono ?_
                  rintro e w4 ⟨rfl, hb4⟩
                  have HB4 := Lib.hid (bl_trans HM.out.1 hb4)
                  clear hb4
                  go_wp2_with fail
                  go_ret
                  exact ⟨by rw [HEE.out]; rfl, HB4.out⟩
                case pos =>
                  have HZ2 := Lib.hid (upto_succ HZ.out (by rw [HIE.out]; exact hz))
                  rw [hz, errOf_zero] at HHS
                  clear hz
                  go_wp2_with fail
                  refine HHS.out.mono ?_
                  rintro e w4 ⟨rfl, hb4⟩
                  have HM4 := Lib.hid (HM.out.below hb4)
                  clear hb4
                  go_wp2_with fail
                  go_roundw
                  case rel => exact ⟨k + 1, by omega, by go_num, HM4.out, HZ2⟩
                  case measure => simp [RowKit.intOf]; omega
              · obtain rfl : k = c.faces.length := by omega
                have HE4 := Lib.hid (show errOf (jn4 c) = E by rw [← HE3.out, jn3_4 HZ.out])
                clear HZ HE3 hlk
                cases hfc : c.face with
                | false =>
                  have HEE := Lib.hid (show E = .nilIface by rw [← HE4.out]; unfold jn4; rw [hfc]; rfl)
                  rw [hfc] at c3
                  clear hfc
                  go_wp2_with fail
                  go_ret
                  exact ⟨by rw [HEE.out]; rfl, HM.out.1⟩
                | true =>
                  rw [hfc] at c3
                  by_cases ho : (x :: r) = objN
                  · have HEE := Lib.hid (show E = .nilIface by rw [← HE4.out]; unfold jn4; rw [if_neg (by rintro ⟨_, h⟩; exact h (HXX.out.trans ho))]; rfl)
                    rw [ho] at c1
                    unfold objN at c1
                    clear hfc ho
                    go_wp2_with fail
                    go_ret
                    exact ⟨by rw [HEE.out]; rfl, HM.out.1⟩
                  · have HEE := Lib.hid (show E = errV 7 by rw [← HE4.out]; unfold jn4; rw [if_pos ⟨hfc, by rw [HXX.out]; exact ho⟩]; rfl)
                    have hob : ((x :: r) == [79, 98, 106, 101, 99, 116]) = false := by simpa [objN] using ho
                    generalize x :: r = xr at *
                    clear hfc ho
                    go_wp2_with fail
                    go_ret
                    exact ⟨by rw [HEE.out]; rfl, HM.out.1⟩

set_option maxRecDepth 100000 in
set_option maxHeartbeats 1000000 in
theorem round_calls (L : List CP) (U : List Nm) (b : Nat) (n : Nm) (w : World) (hW : WorldAt w b L) (hC : Closed (CL L) U) (hnU : n ∈ U) (hU : U.length ≤ 50) (hUl : ∀ x ∈ U, x.length ≤ 1048576) (hL : ∀ cp ∈ L, cp.1.faces.length ≤ 100000000) :
    Calls Tryd.prog 30 #[.map (some b), .string ⟨⟨n⟩⟩] w fun e w' => e = .returned (.bool (roundB (CL L) n)) ∧ Below w.heap.size w w' := by
  have hml : (1048576 : Nat) ≤ maxLen := by unfold maxLen; omega
  generalize hR : roundB (CL L) n = R
  have HR := Lib.hid hR
  have HA := Lib.hid (fun W hW' => above_calls L b n W hW' (Nat.le_trans (hUl n hnU) hml) hL)
  have HBX := Lib.hid (show RBox ((w.alloc (.cells #[.map (some b)] 53)).alloc (.cells #[.string ⟨⟨n⟩⟩] 9)) w.heap.size (w.heap.size + 1) b n from by
    refine ⟨by simp; omega, by simp, ?_, ?_⟩
    · rw [World.cell?_alloc_lt _ _ ⟨w.heap.size, 0, none⟩ (by simp), World.cell?_alloc_new]; rfl
    · have := World.cell?_alloc_new (w.alloc (.cells #[.map (some b)] 53)) #[.string ⟨⟨n⟩⟩] 9 0
      simp)
  have HW := Lib.hid hW
  have HCC := Lib.hid (fun (al : List Nm) (hal : al = above (CL L) n) (W : World) (a : Option Addr) (cap : Nat) (hb : RBox W w.heap.size (w.heap.size + 1) b n) (hw : WorldAt W b L) (hs : SRow W a cap al) (hl : al.length ≤ 1000000000) =>
    containsStr al a cap W #[.pointer (some ⟨w.heap.size, 0, none⟩), .pointer (some ⟨w.heap.size + 1, 0, none⟩)] (fun x => (every (CL L) x).contains n) hs hl (fun k x hx => round1_calls L U b _ _ n x W hb hw hC (hC n hnU x (by rw [← hal]; exact List.mem_of_getElem? hx)) hU hUl hL))
  have hal : (above (CL L) n).length ≤ 200000000 := by
    unfold above
    cases hf : look (CL L) n with
    | none => simp
    | some c =>
      obtain ⟨_, hm⟩ := find_name hf
      obtain ⟨cp, hcp, rfl⟩ := List.mem_map.1 hm
      have := hL cp hcp
      simp only [Option.elim, aboveC]
      split
      · omega
      · simp; omega
  clear hR hW hC hnU hUl hL
  go_enter Tryd.func30, Tryd.ntmps30
  obtain ⟨hg1, hg2, c0, c1⟩ := HBX.out
  go_wp2_with fail
  refine (HA.out _ (HW.out.below (((Below.refl _ _).alloc (Nat.le_refl _) _).alloc (by simp) _))).mono ?_
  rintro e w2 ⟨⟨aa, ac, rfl, hr2, _⟩, hb2⟩
  have HB2 := Lib.hid (show Below w.heap.size w w2 from (((Below.refl _ _).alloc (Nat.le_refl _) _).alloc (by simp) _).trans (hb2.mono (by simp; omega)))
  have HCT := Lib.hid (HCC.out _ rfl w2 aa ac (HBX.out.below hb2) (HW.out.below HB2.out) hr2 (by omega))
  have HRR := Lib.hid (show R = (above (CL L) n).any (fun x => (every (CL L) x).contains n) by rw [← HR.out]; rfl)
  clear hb2 hr2 HCC HA HR hg1 hg2 c0 c1
  generalize (above (CL L) n).any (fun x => (every (CL L) x).contains n) = R2 at *
  go_wp2_with fail
  refine HCT.out.mono ?_
  rintro e w3 ⟨rfl, hb3⟩
  have HB3 := Lib.hid (bl_trans HB2.out hb3)
  clear hb3
  go_wp2_with fail
  go_ret
  exact ⟨by rw [HRR.out]; rfl, HB3.out⟩
end Go.Proofs.YtokomofjcnefaaaDoor
