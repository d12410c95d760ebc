/-
  The walks of world's first, has, joined, round.
-/
import Derived.Test.YtokomofjcnefaaaDoorWorld2
import Derived.Carry
namespace Go.Proofs.YtokomofjcnefaaaDoor
set_option linter.unusedVariables false
set_option linter.unusedSimpArgs false
open Go.RowKit Go.Shelf Go.Lib

def first2 : List CP := [(objC, nilP), (fltC, nilP)]
theorem cl_first (cs : List CP) : CL (first2 ++ cs) = wl (CL cs) := rfl

def FirstRes (w : World) (e : Ending) (w' : World) : Prop := ∃ b, e = .returned (.map (some b)) ∧ WorldAt w' b first2 ∧ w.heap.size ≤ b ∧ Below w.heap.size w w'

set_option maxRecDepth 100000 in
set_option maxHeartbeats 1000000 in
theorem first_calls (w : World) : Calls Tryd.prog 27 #[] w (FirstRes w) := by
  have h0 := SMap.made w
  obtain ⟨wA, hrA, hSA, hgA⟩ := h0.store (P := Tryd.prog) (k := 9) (t := 53) (e := 28) Tryd.underlying9 Tryd.underlying53 (z := objN) (by decide) rfl (classV objC nilP)
  obtain ⟨wB, hrB, hSB, hgB⟩ := hSA.store (P := Tryd.prog) (k := 9) (t := 53) (e := 28) Tryd.underlying9 Tryd.underlying53 (z := fltN) (by decide) (by decide) (classV fltC nilP)
  have hfin : WorldAt wB w.heap.size first2 := by
    refine ⟨hSB.cong (Nat.le_refl _) (fun z => ?_), ?_⟩
    · have e1 := cpFind_snoc [(objC, nilP)] (fltC, nilP) z (by decide)
      have e2 : fOf [(objC, nilP)] = sputf (fun _ => none) objN (classV objC nilP) := by
        funext y
        exact cpFind_snoc [] (objC, nilP) y rfl
      rw [e2] at e1
      exact e1
    · intro cp hcp
      simp only [first2, List.mem_cons, List.mem_nil_iff, or_false] at hcp
      rcases hcp with rfl | rfl <;> exact ⟨⟨Nat.le_refl _, Or.inl rfl⟩, ⟨Nat.le_refl _, Or.inl rfl⟩, ⟨rfl, ⟨Nat.le_refl _, Or.inl rfl⟩, fun k m p hm => by simp [objC, fltC] at hm⟩⟩
  have hbel : Below w.heap.size w wB := (((Below.refl w.heap.size w).alloc (Nat.le_refl _) _).grown hgA (by simp) (fun k hk => by cases hk; exact Nat.le_refl _)).grown hgB (by have := hgA.size; simp at this; omega) (fun k hk => by cases hk; exact Nat.le_refl _)
  have HFIN := Lib.hid hfin
  have HBEL := Lib.hid hbel
  have hrA' : (Instr.mapUpdate 53 (.map (some w.heap.size)) (.string ⟨#[79, 98, 106, 101, 99, 116]⟩) (.agg #[.string ⟨#[79, 98, 106, 101, 99, 116]⟩, .string ⟨#[]⟩, .slice none 0 0, .bool false, .slice none 0 0, .slice none 0 0])).run Tryd.prog (w.alloc (.map #[] 0)) = .ok () wA := hrA
  have hrB' : (Instr.mapUpdate 53 (.map (some w.heap.size)) (.string ⟨#[70, 97, 117, 108, 116]⟩) (.agg #[.string ⟨#[70, 97, 117, 108, 116]⟩, .string ⟨#[79, 98, 106, 101, 99, 116]⟩, .slice none 0 0, .bool false, .slice none 0 0, .slice none 0 0])).run Tryd.prog wA = .ok () wB := hrB
  clear h0 hrA hSA hgA hrB hSB hgB hfin hbel
  have m1 := run_makeMap (P := Tryd.prog) 53
  go_enter Tryd.func27, Tryd.ntmps27
  go_wp2_with fail
  go_ret
  exact ⟨_, rfl, HFIN.out, Nat.le_refl _, HBEL.out⟩

theorem has_none {L : List CP} {n : Nm} {f : Bool} (h : cpFind L n = none) : hasErr (CL L) n f = 3 := by unfold hasErr CL; rw [cpFind_look, h]; rfl
theorem has_some {L : List CP} {n : Nm} {f : Bool} {cp : CP} (h : cpFind L n = some cp) : hasErr (CL L) n f = if cp.1.face = f then 0 else 7 := by unfold hasErr CL; rw [cpFind_look, h]; rfl
theorem isSome_none {L : List CP} {n : Nm} (h : cpFind L n = none) : look (CL L) n = none := by unfold CL; rw [cpFind_look, h]; rfl
theorem isSome_some {L : List CP} {n : Nm} {cp : CP} (h : cpFind L n = some cp) : look (CL L) n = some cp.1 := by unfold CL; rw [cpFind_look, h]; rfl

set_option maxRecDepth 100000 in
set_option maxHeartbeats 1000000 in
theorem has_calls (L : List CP) (b : Nat) (n : Nm) (f : Bool) (w : World) (hW : WorldAt w b L) (hn : n.length ≤ maxLen) :
    Calls Tryd.prog 46 #[.map (some b), .string ⟨⟨n⟩⟩, .bool f] w fun e w' => e = .returned (errOf (hasErr (CL L) n f)) ∧ Below w.heap.size w w' := by
  cases hf : cpFind L n with
  | none =>
    have hlk := wlook_none hW hn hf true
    simp only [if_true] at hlk
    unfold zeroC at hlk
    rw [has_none hf]
    clear hW hf
    go_enter Tryd.func46, Tryd.ntmps46
    go_wp2_with fail
    go_ret
    exact ⟨rfl, (Below.refl _ _).alloc (Nat.le_refl _) _⟩
  | some cp =>
    have hlk := wlook_some hW hn hf true
    simp only [if_true] at hlk
    unfold classV at hlk
    rw [has_some hf]
    clear hW hf
    obtain ⟨⟨nm, sup, faces, face, fields, meths⟩, p⟩ := cp
    simp only at hlk ⊢
    cases face <;> cases f
    all_goals
      go_enter Tryd.func46, Tryd.ntmps46
      go_wp2_with fail
      go_ret
      exact ⟨rfl, (Below.refl _ _).alloc (Nat.le_refl _) _⟩

set_option maxRecDepth 100000 in
set_option maxHeartbeats 1000000 in
theorem indexStr (l : List Nm) (a : Option Addr) (cap : Nat) (w : World) (lb : Array Value) (q : Nm → Bool) (h : SRow w a cap l) (hl : l.length ≤ 1000000000) (hq : ∀ (k : Nat) (x : Nm), l[k]? = some x → PredB 48 lb (strV x) (q x) w) :
    Calls Tryd.prog 71 #[.slice a l.length cap, .func (.func 48) #[] lb] w fun e w' => (∃ i : Int, e = .returned (.int .i64 i) ∧ decide (0 ≤ i) = l.any q) ∧ Below w.heap.size w w' := by
  have HQ := Lib.hid hq
  have HL := Lib.hid h
  clear hq h
  go_enter Tryd.func71, Tryd.ntmps71
  go_wp2_with fail
  go_loopw [8] (fun i wr => ∃ k : Nat, k ≤ l.length ∧ i = .int .i64 k ∧ Below w.heap.size w wr ∧ Hid (∀ x ∈ l.take k, q x = false)) (fun i _ => l.length - (RowKit.intOf i).toNat)
  case atStart => exact ⟨0, by omega, rfl, Below.refl _ _, Lib.hid (by simp)⟩
  case round =>
    obtain ⟨k, hk, rfl, hb, HZ⟩ := hrel
    have HB := Lib.hid hb
    by_cases hlk : k < l.length
    · obtain ⟨x, hx⟩ : ∃ x, l[k]? = some x := ⟨_, List.getElem?_eq_getElem hlk⟩
      obtain ⟨b, off, rfl, hlt, c0⟩ := strs_cell (HL.out.below hb) hx
      have HP := Lib.hid (HQ.out k x hx wr hb)
      have HX := Lib.hid hx
      unfold strV at HP
      clear hx hb
      cases hr : q x with
      | true =>
        rw [hr] at HP
        have HA := Lib.hid (any_hit HX.out hr)
        clear hr
        go_wp2_with fail
        refine HP.out.mono ?_
        rintro e w2 ⟨rfl, hb2⟩
        have HB2 := Lib.hid hb2
        clear hb2
        go_wp2_with fail
        go_ret
        exact ⟨⟨k, rfl, by rw [HA.out]; simp⟩, HB2.out⟩
      | false =>
        rw [hr] at HP
        have HZ2 := Lib.hid (take_all_succ HZ.out HX.out hr)
        clear hr
        go_wp2_with fail
        refine HP.out.mono ?_
        rintro e w2 ⟨rfl, hb2⟩
        have HB2 := Lib.hid hb2
        clear hb2
        go_wp2_with fail
        go_roundw
        case rel => exact ⟨k + 1, by omega, by go_num, HB2.out, HZ2⟩
        case measure => simp [RowKit.intOf]; omega
    · obtain rfl : k = l.length := by omega
      have HA := Lib.hid (any_miss (by have := HZ.out; rwa [List.take_length] at this))
      go_wp2_with fail
      go_ret
      exact ⟨⟨-1, rfl, by rw [HA.out]; rfl⟩, HB.out⟩

set_option maxRecDepth 100000 in
theorem containsStr (l : List Nm) (a : Option Addr) (cap : Nat) (w : World) (lb : Array Value) (q : Nm → Bool) (h : SRow w a cap l) (hl : l.length ≤ 1000000000) (hq : ∀ (k : Nat) (x : Nm), l[k]? = some x → PredB 48 lb (strV x) (q x) w) :
    Calls Tryd.prog 47 #[.slice a l.length cap, .func (.func 48) #[] lb] w fun e w' => e = .returned (.bool (l.any q)) ∧ Below w.heap.size w w' := by
  have HI := Lib.hid (indexStr l a cap w lb q h hl hq)
  clear hq h
  go_enter Tryd.func47, Tryd.ntmps47
  go_wp2_with fail
  refine HI.out.mono ?_
  rintro e w2 ⟨⟨i, rfl, hi⟩, hb2⟩
  have H1 := Lib.hid hi
  have HB2 := Lib.hid hb2
  clear hi hb2
  go_wp2_with fail
  go_ret
  exact ⟨ret_bool H1.out, HB2.out⟩


/-- the two boxes that the literal of round holds -/
def RBox (W : World) (g1 g2 b : Nat) (n : Nm) : Prop := g1 < W.heap.size ∧ g2 < W.heap.size ∧ W.cell? ⟨g1, 0, none⟩ = some (.map (some b)) ∧ W.cell? ⟨g2, 0, none⟩ = some (.string ⟨⟨n⟩⟩)
theorem RBox.below {W W' : World} {g1 g2 b : Nat} {n : Nm} (h : RBox W g1 g2 b n) (hb : Below W.heap.size W W') : RBox W' g1 g2 b n :=
  ⟨Nat.lt_of_lt_of_le h.1 hb.size, Nat.lt_of_lt_of_le h.2.1 hb.size, by rw [hb.cell (p := ⟨g1, 0, none⟩) h.1]; exact h.2.2.1, by rw [hb.cell (p := ⟨g2, 0, none⟩) h.2.1]; exact h.2.2.2⟩

set_option maxRecDepth 100000 in
set_option maxHeartbeats 1000000 in
theorem round1_calls (L : List CP) (U : List Nm) (b g1 g2 : Nat) (n x : Nm) (w : World) (hB : RBox w g1 g2 b n) (hW : WorldAt w b L) (hC : Closed (CL L) U) (hnU : x ∈ U) (hU : U.length ≤ 50) (hUl : ∀ x ∈ U, x.length ≤ 1048576) (hL : ∀ cp ∈ L, cp.1.faces.length ≤ 100000000) :
    PredB 48 #[.pointer (some ⟨g1, 0, none⟩), .pointer (some ⟨g2, 0, none⟩)] (strV x) ((every (CL L) x).contains n) w := by
  intro W hb
  have HB := Lib.hid hb
  have HBX := Lib.hid (hB.below hb)
  have HE := Lib.hid (fun W' (hW' : WorldAt W' b L) => every_calls L U b x W' hW' hC hnU hU hUl hL)
  have HW := Lib.hid (hW.below hb)
  have hle : (every (CL L) x).length ≤ 50 := by
    have := (every_sch hU hC hnU).len
    unfold every
    rw [List.length_mergeSort]
    omega
  clear hb hB hW hC hnU hUl hL
  obtain ⟨hg1, hg2, c0, c1⟩ := HBX.out
  generalize every (CL L) x = ev at *
  unfold strV
  show Calls Tryd.prog _ #[_, _, _] W _
  go_enter Tryd.func48, Tryd.ntmps48
  go_wp2_with fail
  go_region_with (first
    | (go_at_call 17; refine (HE.out _ (by exact HW.out)).mono ?_; rintro e w2 ⟨⟨v2, rfl, ho2⟩, hb2⟩; obtain ⟨_, _, d0, d1⟩ := (show RBox W.drew g1 g2 b n from HBX.out).below hb2; obtain ⟨A2, C2, rfl, hsr⟩ := srow_of_own ho2; have HSR := Lib.hid hsr; have HB2 := Lib.hid (bl_trans (Below.refl _ _).drew hb2); clear hb2 ho2 hsr)
    | (go_at_call 22; refine (contains_str ev _ ev.length _ n _ HSR.out rfl (by omega)).mono ?_; rintro e w3 ⟨rfl, rfl⟩))
  all_goals
    go_wp2_with fail
    go_ret
    exact ⟨ret_bool (by simp), HB.out.trans (HB2.out.mono HB.out.size)⟩
end Go.Proofs.YtokomofjcnefaaaDoor
