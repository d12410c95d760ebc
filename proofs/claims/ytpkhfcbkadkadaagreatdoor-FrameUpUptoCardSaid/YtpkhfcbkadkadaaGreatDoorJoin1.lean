/-
  The walks of join.classes, join.Of at right kinds, join.Join.
-/
import Derived.Test.YtpkhfcbkadkadaaGreatDoorDoes1
import Derived.Test.YtpkhfcbkadkadaaGreatDoorPFrame
namespace Go.Proofs.YtpkhfcbkadkadaaGreatDoor
set_option linter.unusedVariables false
set_option linter.unusedSimpArgs false
open Go.RowKit Go.Shelf Go.Lib

theorem find_miss {A : List Nm} {B : List Nm} (h : ∀ x ∈ A, B.contains x = false) : (A.find? (fun c => B.contains c)) = none := List.find?_eq_none.2 (fun x hx => by simp only [h x hx]; simp)
theorem joinC_hit {L : List ClassR} {a b : Nm} {k : Nat} {x : Nm} (hf : ((look L a).elim false (·.face) || (look L b).elim false (·.face)) = false) (h0 : ∀ y ∈ (line L a).take k, (line L b).contains y = false) (hx : (line L a)[k]? = some x) (hc : (line L b).contains x = true) : joinC L a b = x := by
  rw [joinC_line hf]
  unfold common
  rw [find_at h0 hx hc]
  rfl
theorem joinC_miss {L : List ClassR} {a b : Nm} (hf : ((look L a).elim false (·.face) || (look L b).elim false (·.face)) = false) (h0 : ∀ y ∈ line L a, (line L b).contains y = false) : joinC L a b = objN := by
  rw [joinC_line hf]
  unfold common
  rw [find_miss h0]
  rfl
theorem face_cur {L : List CP} (x : Nm) : (look (CL L) x).elim false (·.face) = (curP L x).1.face := by
  rw [cur_is]
  cases look (CL L) x with
  | none => rfl
  | some c => rfl

set_option maxRecDepth 100000 in
set_option maxHeartbeats 4000000 in
theorem classes_calls (l : List ClassR) (L : List CP) (b : Nat) (x y : Nm) (w : World) (hW : WOk w b l L) (hx : x.length ≤ 1048576) (hy : y.length ≤ 1048576) :
    Calls Tryz.prog 64 #[.map (some b), .string ⟨⟨x⟩⟩, .string ⟨⟨y⟩⟩] w fun e w' => e = .returned (.string ⟨⟨joinC (wl l) x y⟩⟩) ∧ Below w.heap.size w w' := by
  have hml : (1048576 : Nat) ≤ maxLen := by unfold maxLen; omega
  have hlx := cur_look (n := x) hW.at_ (Nat.le_trans hx hml)
  have hly := cur_look (n := y) hW.at_ (Nat.le_trans hy hml)
  have hfx := class_face (curP L x).1 (curP L x).2
  have hfy := class_face (curP L y).1 (curP L y).2
  have HFX := Lib.hid (face_cur (L := L) x)
  have HFY := Lib.hid (face_cur (L := L) y)
  rw [hW.cl] at HFX HFY
  have HLX := Lib.hid (fun W (hb : Below w.heap.size w W) => line_w (hW.below hb) x hx)
  have HLY := Lib.hid (line_w hW y hy)
  have hl1 := line_len13 hW.good x
  have hl2 := line_len13 hW.good y
  clear hW
  cases h1 : (curP L x).1.face with
  | true =>
    have HJ := Lib.hid (show joinC (wl l) x y = objN from joinC_face (by rw [HFX.out, h1]; rfl))
    rw [HJ.out]
    rw [h1] at hfx
    clear h1
    unfold objN
    go_enter Tryz.func64, Tryz.ntmps64
    go_wp2_with fail
    go_ret
    exact ⟨rfl, Below.refl _ _⟩
  | false =>
    cases h2 : (curP L y).1.face with
    | true =>
      have HJ := Lib.hid (show joinC (wl l) x y = objN from joinC_face (by rw [HFX.out, HFY.out, h1, h2]; rfl))
      rw [HJ.out]
      rw [h1] at hfx
      rw [h2] at hfy
      clear h1 h2
      unfold objN
      go_enter Tryz.func64, Tryz.ntmps64
      go_wp2_with fail
      go_ret
      exact ⟨rfl, Below.refl _ _⟩
    | false =>
      have HFF := Lib.hid (show ((look (wl l) x).elim false (·.face) || (look (wl l) y).elim false (·.face)) = false by rw [HFX.out, HFY.out, h1, h2]; rfl)
      have HJH := Lib.hid (fun k z h0 hx hc => @joinC_hit (wl l) x y k z HFF.out h0 hx hc)
      have HJM := Lib.hid (fun h0 => @joinC_miss (wl l) x y HFF.out h0)
      rw [h1] at hfx
      rw [h2] at hfy
      clear h1 h2 HFX HFY
      generalize line (wl l) x = lx at *
      generalize line (wl l) y = ly at *
      generalize joinC (wl l) x y = jc at *
      go_enter Tryz.func64, Tryz.ntmps64
      go_wp2_with fail
      refine HLY.out.mono ?_
      rintro e w2 ⟨⟨v, rfl, ho⟩, hb2⟩
      obtain ⟨a2, c2, rfl, hr2⟩ := srow_of_own ho
      have HR2 := Lib.hid hr2
      have HB2 := Lib.hid hb2
      clear ho hr2 hb2
      go_wp2_with fail
      refine (HLX.out _ HB2.out).mono ?_
      rintro e w3 ⟨⟨v, rfl, ho⟩, hb3⟩
      obtain ⟨a3, c3, rfl, hr3⟩ := srow_of_own ho
      have HR3 := Lib.hid hr3
      have HC3 := Lib.hid (fun z => contains_str ly a2 ly.length c2 z w3 (HR2.out.below hb3) rfl (by omega))
      have HB3 := Lib.hid (bl_trans HB2.out hb3)
      clear ho hr3 hb3
      go_wp2_with fail
      go_loopw [27] (fun i wr => ∃ j : Nat, j ≤ lx.length ∧ i = .int .i64 j ∧ wr = w3 ∧ Hid (∀ z ∈ lx.take j, ly.contains z = false)) (fun i _ => lx.length - (RowKit.intOf i).toNat)
      case atStart => exact ⟨0, by omega, rfl, rfl, Lib.hid (by simp)⟩
      case round =>
        obtain ⟨j, hj, rfl, rfl, HA⟩ := hrel
        by_cases hlk : j < lx.length
        · obtain ⟨z, hz⟩ : ∃ z, lx[j]? = some z := ⟨_, List.getElem?_eq_getElem hlk⟩
          obtain ⟨b1, off, rfl, hlt, c0⟩ := strs_cell HR3.out hz
          have HZ := Lib.hid hz
          clear hz
          cases hc : ly.contains z with
          | true =>
            have HCT := Lib.hid (HC3.out z)
            rw [hc] at HCT
            have HE := Lib.hid (HJH.out j z HA.out HZ.out hc)
            clear hc
            go_wp2_with fail
            refine HCT.out.mono ?_
            rintro e w4 ⟨rfl, rfl⟩
            go_wp2_with fail
            go_ret
            exact ⟨by rw [HE.out]; rfl, HB3.out⟩
          | false =>
            have HCT := Lib.hid (HC3.out z)
            rw [hc] at HCT
            have HA2 := Lib.hid (take_all_succ (P := fun z => ly.contains z = false) HA.out HZ.out hc)
            clear hc
            go_wp2_with fail
            refine HCT.out.mono ?_
            rintro e w4 ⟨rfl, rfl⟩
            go_wp2_with fail
            go_roundw
            case rel => exact ⟨j + 1, by omega, by go_num, trivial, HA2⟩
            case measure => simp [RowKit.intOf]; omega
        · obtain rfl : j = lx.length := by omega
          have HE := Lib.hid (HJM.out (by have := HA.out; rwa [List.take_length] at this))
          go_wp2_with fail
          go_ret
          exact ⟨by rw [HE.out]; rfl, HB3.out⟩

def OfAt (b : Nat) (s t r : Nm) (w : World) : Prop := Calls Tryz.prog 40 #[.map (some b), .string ⟨⟨s⟩⟩, .string ⟨⟨t⟩⟩] w fun e w' => e = .returned (.string ⟨⟨r⟩⟩) ∧ Below w.heap.size w w'

set_option maxRecDepth 100000 in
set_option maxHeartbeats 2000000 in
theorem of_same (b : Nat) (s : Nm) (w : World) : OfAt b s s s w := by
  unfold OfAt
  go_enter Tryz.func40, Tryz.ntmps40
  go_wp2_with fail
  go_ret
  exact ⟨rfl, Below.refl _ _⟩
set_option maxRecDepth 100000 in
set_option maxHeartbeats 2000000 in
theorem of_nulL (b : Nat) (t : Nm) (ht : refsB t = true) (w : World) : OfAt b [78] t t w := by
  have HR := Lib.hid (refs_calls t)
  rw [ht] at HR
  have h78 : (([78] : Nm) == t) = false := by rw [beq_eq_false_iff_ne]; rintro rfl; simp [refsB] at ht
  clear ht
  unfold OfAt
  go_enter Tryz.func40, Tryz.ntmps40
  go_wp2_with fail
  refine (HR.out _).mono ?_
  rintro e w1 ⟨rfl, rfl⟩
  go_wp2_with fail
  go_ret
  exact ⟨rfl, Below.refl _ _⟩
set_option maxRecDepth 100000 in
set_option maxHeartbeats 2000000 in
theorem of_nulR (b : Nat) (s : Nm) (hs : refsB s = true) (w : World) : OfAt b s [78] s w := by
  have HR := Lib.hid (refs_calls s)
  rw [hs] at HR
  have h78 : (s == [78]) = false := by rw [beq_eq_false_iff_ne]; rintro rfl; simp [refsB] at hs
  clear hs
  unfold OfAt
  go_enter Tryz.func40, Tryz.ntmps40
  go_wp2_with fail
  refine (HR.out _).mono ?_
  rintro e w1 ⟨rfl, rfl⟩
  go_wp2_with fail
  go_ret
  exact ⟨rfl, Below.refl _ _⟩
set_option maxRecDepth 100000 in
set_option maxHeartbeats 2000000 in
theorem of_top (b : Nat) (s t : Nm) (hst : s ≠ t) (hr : (refsB s && refsB t) = false) (hn : s = [78] → refsB t = false) (hm : t = [78] → refsB s = false) (w : World) : OfAt b s t [84] w := by
  have HS := Lib.hid (refs_calls s)
  have HT := Lib.hid (refs_calls t)
  have hst2 : (s == t) = false := by rw [beq_eq_false_iff_ne]; exact hst
  unfold OfAt
  by_cases h : s = [78]
  · rw [hn h] at HT
    subst h
    rw [show refsB [78] = false from rfl] at HS
    have h78 : (t == [78]) = false := by rw [beq_eq_false_iff_ne]; exact fun q => hst q.symm
    clear hst hn hm hr
    go_enter Tryz.func40, Tryz.ntmps40
    go_wp2_with fail
    refine (HT.out _).mono ?_
    rintro e w1 ⟨rfl, rfl⟩
    go_wp2_with fail
    refine (HS.out _).mono ?_
    rintro e w1 ⟨rfl, rfl⟩
    go_wp2_with fail
    go_ret
    exact ⟨rfl, Below.refl _ _⟩
  · have h78 : (s == [78]) = false := by rw [beq_eq_false_iff_ne]; exact h
    by_cases h2 : t = [78]
    · rw [hm h2] at HS
      subst h2
      clear hst hn hm hr h
      go_enter Tryz.func40, Tryz.ntmps40
      go_wp2_with fail
      refine (HS.out _).mono ?_
      rintro e w1 ⟨rfl, rfl⟩
      go_wp2_with fail
      refine (HS.out _).mono ?_
      rintro e w1 ⟨rfl, rfl⟩
      go_wp2_with fail
      go_ret
      exact ⟨rfl, Below.refl _ _⟩
    · have h79 : (t == [78]) = false := by rw [beq_eq_false_iff_ne]; exact h2
      clear hst hn hm h h2
      cases h1 : refsB s with
      | false =>
        rw [h1] at HS
        clear h1 hr
        go_enter Tryz.func40, Tryz.ntmps40
        go_wp2_with fail
        refine (HS.out _).mono ?_
        rintro e w1 ⟨rfl, rfl⟩
        go_wp2_with fail
        go_ret
        exact ⟨rfl, Below.refl _ _⟩
      | true =>
        rw [h1, Bool.true_and] at hr
        rw [h1] at HS
        rw [hr] at HT
        clear h1 hr
        go_enter Tryz.func40, Tryz.ntmps40
        go_wp2_with fail
        refine (HS.out _).mono ?_
        rintro e w1 ⟨rfl, rfl⟩
        go_wp2_with fail
        refine (HT.out _).mono ?_
        rintro e w1 ⟨rfl, rfl⟩
        go_wp2_with fail
        go_ret
        exact ⟨rfl, Below.refl _ _⟩

theorem thing_ne_nul (x : Nm) : (thing x == [78]) = false := by rw [beq_eq_false_iff_ne]; simp [thing]
theorem arr_ne_nul (r : Nm) : ((91 :: r : Nm) == [78]) = false := by rw [beq_eq_false_iff_ne]; simp

set_option maxRecDepth 100000 in
set_option maxHeartbeats 2000000 in
theorem of_LL (l : List ClassR) (L : List CP) (b : Nat) (x y : Nm) (w : World) (hW : WOk w b l L) (hxy : x ≠ y) (hx : x.length ≤ 1048576) (hy : y.length ≤ 1048576) (hj : (joinC (wl l) x y).length ≤ 1048576) :
    OfAt b (thing x) (thing y) (thing (joinC (wl l) x y)) w := by
  have HX := Lib.hid (refs_calls (thing x))
  have HY := Lib.hid (refs_calls (thing y))
  rw [refs_thing] at HX HY
  have HCX := Lib.hid (fun w => show Calls Tryz.prog 60 #[.string ⟨⟨thing x⟩⟩] w _ from class_calls 0 (.cls x) hx w)
  have HCY := Lib.hid (fun w => show Calls Tryz.prog 60 #[.string ⟨⟨thing y⟩⟩] w _ from class_calls 0 (.cls y) hy w)
  simp only [Bse.cl] at HCX HCY
  have HCL := Lib.hid (classes_calls l L b x y w hW hx hy)
  have h78 := thing_ne_nul x
  have h79 := thing_ne_nul y
  have hst : (thing x == thing y) = false := by rw [beq_eq_false_iff_ne]; exact fun h => hxy (thing_inj h)
  have HTH := Lib.hid (fun w => thing_calls (joinC (wl l) x y) hj w)
  clear hW hxy
  obtain ⟨rx, hrx, hrx0⟩ := thing_cons x
  obtain ⟨ry, hry, hry0⟩ := thing_cons y
  generalize joinC (wl l) x y = jc at *
  generalize thing jc = tj at *
  unfold OfAt
  rw [hrx] at HX HCX h78 hst
  rw [hry] at HY HCY h79 hst
  rw [hrx, hry]
  clear hrx hry
  go_enter Tryz.func40, Tryz.ntmps40
  go_wp2_with fail
  refine (HX.out _).mono ?_
  rintro e w1 ⟨rfl, rfl⟩
  go_wp2_with fail
  refine (HY.out _).mono ?_
  rintro e w1 ⟨rfl, rfl⟩
  go_wp2_with fail
  refine (HCX.out _).mono ?_
  rintro e w1 ⟨rfl, rfl⟩
  go_wp2_with fail
  refine (HCY.out _).mono ?_
  rintro e w1 ⟨rfl, rfl⟩
  go_wp2_with fail
  refine HCL.out.mono ?_
  rintro e w2 ⟨rfl, hb2⟩
  have HB2 := Lib.hid hb2
  clear hb2
  go_wp2_with fail
  refine (HTH.out _).mono ?_
  rintro e w1 ⟨rfl, rfl⟩
  go_wp2_with fail
  go_ret
  exact ⟨rfl, HB2.out⟩
set_option maxRecDepth 100000 in
set_option maxHeartbeats 2000000 in
theorem of_LA (b : Nat) (x r : Nm) (w : World) : OfAt b (thing x) (91 :: r) (thing objN) w := by
  have HX := Lib.hid (refs_calls (thing x))
  have HY := Lib.hid (refs_calls (91 :: r))
  rw [refs_thing] at HX
  rw [refs_arr] at HY
  have HTH := Lib.hid (fun w => thing_calls objN (by decide) w)
  unfold objN at HTH
  have h78 := thing_ne_nul x
  have h79 := arr_ne_nul r
  have hst : (thing x == 91 :: r) = false := by rw [beq_eq_false_iff_ne]; simp [thing]
  obtain ⟨rx, hrx, _⟩ := thing_cons x
  unfold OfAt objN
  rw [hrx] at HX h78 hst
  rw [hrx]
  clear hrx
  go_enter Tryz.func40, Tryz.ntmps40
  go_wp2_with fail
  refine (HX.out _).mono ?_
  rintro e w1 ⟨rfl, rfl⟩
  go_wp2_with fail
  refine (HY.out _).mono ?_
  rintro e w1 ⟨rfl, rfl⟩
  go_wp2_with fail
  refine (HTH.out _).mono ?_
  rintro e w1 ⟨rfl, rfl⟩
  go_wp2_with fail
  go_ret
  exact ⟨rfl, Below.refl _ _⟩
set_option maxRecDepth 100000 in
set_option maxHeartbeats 2000000 in
theorem of_AL (b : Nat) (y r : Nm) (w : World) : OfAt b (91 :: r) (thing y) (thing objN) w := by
  have HX := Lib.hid (refs_calls (91 :: r))
  have HY := Lib.hid (refs_calls (thing y))
  rw [refs_thing] at HY
  rw [refs_arr] at HX
  have HTH := Lib.hid (fun w => thing_calls objN (by decide) w)
  unfold objN at HTH
  have h78 := arr_ne_nul r
  have h79 := thing_ne_nul y
  have hst : ((91 :: r : Nm) == thing y) = false := by rw [beq_eq_false_iff_ne]; simp [thing]
  obtain ⟨ry, hry, _⟩ := thing_cons y
  unfold OfAt objN
  rw [hry] at HY h79 hst
  rw [hry]
  clear hry
  go_enter Tryz.func40, Tryz.ntmps40
  go_wp2_with fail
  refine (HX.out _).mono ?_
  rintro e w1 ⟨rfl, rfl⟩
  go_wp2_with fail
  refine (HY.out _).mono ?_
  rintro e w1 ⟨rfl, rfl⟩
  go_wp2_with fail
  refine (HTH.out _).mono ?_
  rintro e w1 ⟨rfl, rfl⟩
  go_wp2_with fail
  go_ret
  exact ⟨rfl, Below.refl _ _⟩
set_option maxRecDepth 100000 in
set_option maxHeartbeats 2000000 in
theorem of_AAno (b : Nat) (r q : Nm) (w : World) (hrq : r ≠ q) (hl : r.length ≤ 1048576) (hl2 : q.length ≤ 1048576) (h : (refsB r && refsB q) = false) : OfAt b (91 :: r) (91 :: q) (thing objN) w := by
  have HX := Lib.hid (refs_calls (91 :: r))
  have HY := Lib.hid (refs_calls (91 :: q))
  rw [refs_arr] at HX HY
  have HR := Lib.hid (refs_calls r)
  have HQ := Lib.hid (refs_calls q)
  have h78 := arr_ne_nul r
  have h79 := arr_ne_nul q
  have hst : (r == q) = false := by rw [beq_eq_false_iff_ne]; exact hrq
  clear hrq
  unfold OfAt
  have HTH := Lib.hid (fun w => thing_calls objN (by decide) w)
  unfold objN at HTH
  unfold objN
  generalize refsB r = rr at *
  generalize refsB q = qq at *
  cases rr with
  | false =>
    go_enter Tryz.func40, Tryz.ntmps40
    go_wp2_with fail
    refine (HX.out _).mono ?_
    rintro e w1 ⟨rfl, rfl⟩
    go_wp2_with fail
    refine (HY.out _).mono ?_
    rintro e w1 ⟨rfl, rfl⟩
    go_wp2_with fail
    refine (HR.out _).mono ?_
    rintro e w1 ⟨rfl, rfl⟩
    go_wp2_with fail
    refine (HTH.out _).mono ?_
    rintro e w1 ⟨rfl, rfl⟩
    go_wp2_with fail
    go_ret
    exact ⟨rfl, Below.refl _ _⟩
  | true =>
    rw [Bool.true_and] at h
    subst h
    go_enter Tryz.func40, Tryz.ntmps40
    go_wp2_with fail
    refine (HX.out _).mono ?_
    rintro e w1 ⟨rfl, rfl⟩
    go_wp2_with fail
    refine (HY.out _).mono ?_
    rintro e w1 ⟨rfl, rfl⟩
    go_wp2_with fail
    refine (HR.out _).mono ?_
    rintro e w1 ⟨rfl, rfl⟩
    go_wp2_with fail
    refine (HQ.out _).mono ?_
    rintro e w1 ⟨rfl, rfl⟩
    go_wp2_with fail
    refine (HTH.out _).mono ?_
    rintro e w1 ⟨rfl, rfl⟩
    go_wp2_with fail
    go_ret
    exact ⟨rfl, Below.refl _ _⟩
set_option maxRecDepth 100000 in
set_option maxHeartbeats 2000000 in
theorem of_AAyes (b : Nat) (r q z : Nm) (w : World) (hrq : r ≠ q) (hl : r.length ≤ 1048576) (hl2 : q.length ≤ 1048576) (hz : z.length ≤ 1048576) (h1 : refsB r = true) (h2 : refsB q = true) (h : ∀ W, Below w.heap.size w W → OfAt b r q z W) : OfAt b (91 :: r) (91 :: q) (91 :: z) w := by
  have HH := Lib.hid h
  clear h
  have HX := Lib.hid (refs_calls (91 :: r))
  have HY := Lib.hid (refs_calls (91 :: q))
  rw [refs_arr] at HX HY
  have HR := Lib.hid (refs_calls r)
  have HQ := Lib.hid (refs_calls q)
  have h78 := arr_ne_nul r
  have h79 := arr_ne_nul q
  have hst : (r == q) = false := by rw [beq_eq_false_iff_ne]; exact hrq
  clear hrq
  unfold OfAt
  unfold OfAt at HH
  rw [h1] at HR
  rw [h2] at HQ
  clear h1 h2
  go_enter Tryz.func40, Tryz.ntmps40
  go_wp2_with fail
  refine (HX.out _).mono ?_
  rintro e w1 ⟨rfl, rfl⟩
  go_wp2_with fail
  refine (HY.out _).mono ?_
  rintro e w1 ⟨rfl, rfl⟩
  go_wp2_with fail
  refine (HR.out _).mono ?_
  rintro e w1 ⟨rfl, rfl⟩
  go_wp2_with fail
  refine (HQ.out _).mono ?_
  rintro e w1 ⟨rfl, rfl⟩
  go_wp2_with fail
  go_region_with (go_at_call 40; refine (HH.out _ (by exact (Below.refl _ _).drew)).mono ?_; rintro e w3 ⟨rfl, hb3⟩; have HB3 := Lib.hid (bl_trans (Below.refl w.heap.size w).drew hb3); clear hb3)
  all_goals
    go_wp2_with fail
    go_ret
    exact ⟨rfl, HB3.out⟩
end Go.Proofs.YtpkhfcbkadkadaaGreatDoor
