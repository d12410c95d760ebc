import Derived.Test.YtddbnboicmaooaaGreatDoorFa
import Derived.Deep.RegionHeld3
namespace Go.Proofs.YtddbnboicmaooaaGreatDoor
set_option maxRecDepth 100000
set_option maxHeartbeats 16000000
set_option linter.unusedVariables false
set_option linter.unusedSimpArgs false
open Go.RowKit Go.Shelf Go.Lib
theorem find_miss {A : List Nm} {B : List Nm} (h : ∀ x ∈ A, B.contains x = false) : (A.find? (fun c => B.contains c)) = none := List.find?_eq_none.2 (fun x hx => by simp only [h x hx]; simp)
theorem joinC_hit {L : List ClassR} {a b : Nm} {k : Nat} {x : Nm} (hf : ((look L a).elim false (·.face) || (look L b).elim false (·.face)) = false) (h0 : ∀ y ∈ (line L a).take k, (line L b).contains y = false) (hx : (line L a)[k]? = some x) (hc : (line L b).contains x = true) : joinC L a b = x := by
 rw [joinC_line hf]
 unfold common
 rw [find_at h0 hx hc]
 rfl
theorem joinC_miss {L : List ClassR} {a b : Nm} (hf : ((look L a).elim false (·.face) || (look L b).elim false (·.face)) = false) (h0 : ∀ y ∈ line L a, (line L b).contains y = false) : joinC L a b = objN := by
 rw [joinC_line hf]
 unfold common
 rw [find_miss h0]
 rfl
theorem face_cur {L : List CP} (x : Nm) : (look (CL L) x).elim false (·.face) = (curP L x).1.face := by
 rw [cur_is]
 cases look (CL L) x with
 | none => rfl
 | some c => rfl
theorem classes_calls (l : List ClassR) (L : List CP) (b : Nat) (x y : Nm) (w : World) (hW : WOk w b l L) (hx : x.length ≤ 1048576) (hy : y.length ≤ 1048576) :
   Calls Tryz.prog 141 #[.map (some b), .string ⟨⟨x⟩⟩, .string ⟨⟨y⟩⟩] w fun e w' => e = .returned (.string ⟨⟨joinC (wl l) x y⟩⟩) ∧ Below w.heap.size w w' := by
 have hml : (1048576 : Nat) ≤ maxLen := by unfold maxLen; omega
 have hlx := cur_look (n := x) hW.at_ (Nat.le_trans hx hml)
 have hly := cur_look (n := y) hW.at_ (Nat.le_trans hy hml)
 have hfx := class_face (curP L x).1 (curP L x).2
 have hfy := class_face (curP L y).1 (curP L y).2
 have HFX := Hd (face_cur (L := L) x)
 have HFY := Hd (face_cur (L := L) y)
 rw [hW.cl] at HFX HFY
 have HLX := Hd (fun W (hb : Below w.heap.size w W) => line_w (hW.below hb) x hx)
 have HLY := Hd (line_w hW y hy)
 have hl1 := line_len13 hW.good x
 have hl2 := line_len13 hW.good y
 clear hW
 cases h1 : (curP L x).1.face with
 | true =>
   have HJ := Hd (show joinC (wl l) x y = objN from joinC_face (by rw [HFX.out, h1]; rfl))
   rw [HJ.out]
   rw [h1] at hfx
   clear h1
   unfold objN
   go_enter Tryz.func141, Tryz.ntmps141
   go_wp2_with fail
   go_ret
   exact ⟨rfl, Below.refl _ _⟩
 | false =>
   cases h2 : (curP L y).1.face with
   | true =>
     have HJ := Hd (show joinC (wl l) x y = objN from joinC_face (by rw [HFX.out, HFY.out, h1, h2]; rfl))
     rw [HJ.out]
     rw [h1] at hfx
     rw [h2] at hfy
     clear h1 h2
     unfold objN
     go_enter Tryz.func141, Tryz.ntmps141
     go_wp2_with fail
     go_ret
     exact ⟨rfl, Below.refl _ _⟩
   | false =>
     have HFF := Hd (show ((look (wl l) x).elim false (·.face) || (look (wl l) y).elim false (·.face)) = false by rw [HFX.out, HFY.out, h1, h2]; rfl)
     have HJH := Hd (fun k z h0 hx hc => @joinC_hit (wl l) x y k z HFF.out h0 hx hc)
     have HJM := Hd (fun h0 => @joinC_miss (wl l) x y HFF.out h0)
     rw [h1] at hfx
     rw [h2] at hfy
     clear h1 h2 HFX HFY
     generalize line (wl l) x = lx at *
     generalize line (wl l) y = ly at *
     generalize joinC (wl l) x y = jc at *
     go_enter Tryz.func141, Tryz.ntmps141
     go_wp2_with fail
     refine HLY.out.mono ?_
     rintro e w2 ⟨⟨v, rfl, ho⟩, hb2⟩
     obtain ⟨a2, c2, rfl, hr2⟩ := srow_of_own ho
     have HR2 := Hd hr2
     have HB2 := Hd hb2
     clear ho hr2 hb2
     go_wp2_with fail
     refine (HLX.out _ HB2.out).mono ?_
     rintro e w3 ⟨⟨v, rfl, ho⟩, hb3⟩
     obtain ⟨a3, c3, rfl, hr3⟩ := srow_of_own ho
     have HR3 := Hd hr3
     have HC3 := Hd (fun z => contains_str ly a2 ly.length c2 z w3 (HR2.out.below hb3) rfl (by omega))
     have HB3 := Hd (bl_trans HB2.out hb3)
     clear ho hr3 hb3
     go_wp2_with fail
     go_loopw [27] (fun i wr => ∃ j : Nat, j ≤ lx.length ∧ i = .int .i64 j ∧ wr = w3 ∧ Hid (∀ z ∈ lx.take j, ly.contains z = false)) (fun i _ => lx.length - (RowKit.intOf i).toNat)
     case atStart => exact ⟨0, by omega, rfl, rfl, Hd (by simp)⟩
     case round =>
       obtain ⟨j, hj, rfl, rfl, HA⟩ := hrel
       by_cases hlk : j < lx.length
       · obtain ⟨z, hz⟩ : ∃ z, lx[j]? = some z := ⟨_, List.getElem?_eq_getElem hlk⟩
         obtain ⟨b1, off, rfl, hlt, c0⟩ := strs_cell HR3.out hz
         have HZ := Hd hz
         clear hz
         cases hc : ly.contains z with
         | true =>
           have HCT := Hd (HC3.out z)
           rw [hc] at HCT
           have HE := Hd (HJH.out j z HA.out HZ.out hc)
           clear hc
           go_wp2_with fail
           refine HCT.out.mono ?_
           rintro e w4 ⟨rfl, rfl⟩
           go_wp2_with fail
           go_ret
           exact ⟨by rw [HE.out]; rfl, HB3.out⟩
         | false =>
           have HCT := Hd (HC3.out z)
           rw [hc] at HCT
           have HA2 := Hd (take_all_succ (P := fun z => ly.contains z = false) HA.out HZ.out hc)
           clear hc
           go_wp2_with fail
           refine HCT.out.mono ?_
           rintro e w4 ⟨rfl, rfl⟩
           go_wp2_with fail
           go_roundw
           case rel => exact ⟨j + 1, by omega, by go_num, trivial, HA2⟩
           case measure => simp [RowKit.intOf]; omega
       · obtain rfl : j = lx.length := by omega
         have HE := Hd (HJM.out (by have := HA.out; rwa [List.take_length] at this))
         go_wp2_with fail
         go_ret
         exact ⟨by rw [HE.out]; rfl, HB3.out⟩
def OfAt (b : Nat) (s t r : Nm) (w : World) : Prop := Calls Tryz.prog 75 #[.map (some b), .string ⟨⟨s⟩⟩, .string ⟨⟨t⟩⟩] w fun e w' => e = .returned (.string ⟨⟨r⟩⟩) ∧ Below w.heap.size w w'
theorem of_same (b : Nat) (s : Nm) (w : World) : OfAt b s s s w := by
 unfold OfAt
 go_enter Tryz.func75, Tryz.ntmps75
 go_wp2_with fail
 go_ret
 exact ⟨rfl, Below.refl _ _⟩
theorem of_nulL (b : Nat) (t : Nm) (ht : refsB t = true) (w : World) : OfAt b [78] t t w := by
 have HR := Hd (refs_calls t)
 rw [ht] at HR
 have h78 : (([78] : Nm) == t) = false := by rw [beq_eq_false_iff_ne]; rintro rfl; simp [refsB] at ht
 clear ht
 unfold OfAt
 go_enter Tryz.func75, Tryz.ntmps75
 go_wp2_with fail
 refine (HR.out _).mono ?_
 rintro e w1 ⟨rfl, rfl⟩
 go_wp2_with fail
 go_ret
 exact ⟨rfl, Below.refl _ _⟩
theorem of_nulR (b : Nat) (s : Nm) (hs : refsB s = true) (w : World) : OfAt b s [78] s w := by
 have HR := Hd (refs_calls s)
 rw [hs] at HR
 have h78 : (s == [78]) = false := by rw [beq_eq_false_iff_ne]; rintro rfl; simp [refsB] at hs
 clear hs
 unfold OfAt
 go_enter Tryz.func75, Tryz.ntmps75
 go_wp2_with fail
 refine (HR.out _).mono ?_
 rintro e w1 ⟨rfl, rfl⟩
 go_wp2_with fail
 go_ret
 exact ⟨rfl, Below.refl _ _⟩
theorem of_top (b : Nat) (s t : Nm) (hst : s ≠ t) (hr : (refsB s && refsB t) = false) (hn : s = [78] → refsB t = false) (hm : t = [78] → refsB s = false) (w : World) : OfAt b s t [84] w := by
 have HS := Hd (refs_calls s)
 have HT := Hd (refs_calls t)
 have hst2 : (s == t) = false := by rw [beq_eq_false_iff_ne]; exact hst
 unfold OfAt
 by_cases h : s = [78]
 · rw [hn h] at HT
   subst h
   rw [show refsB [78] = false from rfl] at HS
   have h78 : (t == [78]) = false := by rw [beq_eq_false_iff_ne]; exact fun q => hst q.symm
   clear hst hn hm hr
   go_enter Tryz.func75, Tryz.ntmps75
   go_wp2_with fail
   refine (HT.out _).mono ?_
   rintro e w1 ⟨rfl, rfl⟩
   go_wp2_with fail
   refine (HS.out _).mono ?_
   rintro e w1 ⟨rfl, rfl⟩
   go_wp2_with fail
   go_ret
   exact ⟨rfl, Below.refl _ _⟩
 · have h78 : (s == [78]) = false := by rw [beq_eq_false_iff_ne]; exact h
   by_cases h2 : t = [78]
   · rw [hm h2] at HS
     subst h2
     clear hst hn hm hr h
     go_enter Tryz.func75, Tryz.ntmps75
     go_wp2_with fail
     refine (HS.out _).mono ?_
     rintro e w1 ⟨rfl, rfl⟩
     go_wp2_with fail
     refine (HS.out _).mono ?_
     rintro e w1 ⟨rfl, rfl⟩
     go_wp2_with fail
     go_ret
     exact ⟨rfl, Below.refl _ _⟩
   · have h79 : (t == [78]) = false := by rw [beq_eq_false_iff_ne]; exact h2
     clear hst hn hm h h2
     cases h1 : refsB s with
     | false =>
       rw [h1] at HS
       clear h1 hr
       go_enter Tryz.func75, Tryz.ntmps75
       go_wp2_with fail
       refine (HS.out _).mono ?_
       rintro e w1 ⟨rfl, rfl⟩
       go_wp2_with fail
       go_ret
       exact ⟨rfl, Below.refl _ _⟩
     | true =>
       rw [h1, Bool.true_and] at hr
       rw [h1] at HS
       rw [hr] at HT
       clear h1 hr
       go_enter Tryz.func75, Tryz.ntmps75
       go_wp2_with fail
       refine (HS.out _).mono ?_
       rintro e w1 ⟨rfl, rfl⟩
       go_wp2_with fail
       refine (HT.out _).mono ?_
       rintro e w1 ⟨rfl, rfl⟩
       go_wp2_with fail
       go_ret
       exact ⟨rfl, Below.refl _ _⟩
theorem thing_ne_nul (x : Nm) : (thing x == [78]) = false := by rw [beq_eq_false_iff_ne]; simp [thing]
theorem arr_ne_nul (r : Nm) : ((91 :: r : Nm) == [78]) = false := by rw [beq_eq_false_iff_ne]; simp
theorem of_LL (l : List ClassR) (L : List CP) (b : Nat) (x y : Nm) (w : World) (hW : WOk w b l L) (hxy : x ≠ y) (hx : x.length ≤ 1048576) (hy : y.length ≤ 1048576) (hj : (joinC (wl l) x y).length ≤ 1048576) :
   OfAt b (thing x) (thing y) (thing (joinC (wl l) x y)) w := by
 have HX := Hd (refs_calls (thing x))
 have HY := Hd (refs_calls (thing y))
 rw [refs_thing] at HX HY
 have HCX := Hd (fun w => show Calls Tryz.prog 118 #[.string ⟨⟨thing x⟩⟩] w _ from class_calls 0 (.cls x) hx w)
 have HCY := Hd (fun w => show Calls Tryz.prog 118 #[.string ⟨⟨thing y⟩⟩] w _ from class_calls 0 (.cls y) hy w)
 simp only [Bse.cl] at HCX HCY
 have HCL := Hd (classes_calls l L b x y w hW hx hy)
 have h78 := thing_ne_nul x
 have h79 := thing_ne_nul y
 have hst : (thing x == thing y) = false := by rw [beq_eq_false_iff_ne]; exact fun h => hxy (thing_inj h)
 have HTH := Hd (fun w => thing_calls (joinC (wl l) x y) hj w)
 clear hW hxy
 obtain ⟨rx, hrx, hrx0⟩ := thing_cons x
 obtain ⟨ry, hry, hry0⟩ := thing_cons y
 generalize joinC (wl l) x y = jc at *
 generalize thing jc = tj at *
 unfold OfAt
 rw [hrx] at HX HCX h78 hst
 rw [hry] at HY HCY h79 hst
 rw [hrx, hry]
 clear hrx hry
 go_enter Tryz.func75, Tryz.ntmps75
 go_wp2_with fail
 refine (HX.out _).mono ?_
 rintro e w1 ⟨rfl, rfl⟩
 go_wp2_with fail
 refine (HY.out _).mono ?_
 rintro e w1 ⟨rfl, rfl⟩
 go_wp2_with fail
 refine (HCX.out _).mono ?_
 rintro e w1 ⟨rfl, rfl⟩
 go_wp2_with fail
 refine (HCY.out _).mono ?_
 rintro e w1 ⟨rfl, rfl⟩
 go_wp2_with fail
 refine HCL.out.mono ?_
 rintro e w2 ⟨rfl, hb2⟩
 have HB2 := Hd hb2
 clear hb2
 go_wp2_with fail
 refine (HTH.out _).mono ?_
 rintro e w1 ⟨rfl, rfl⟩
 go_wp2_with fail
 go_ret
 exact ⟨rfl, HB2.out⟩
theorem of_LA (b : Nat) (x r : Nm) (w : World) : OfAt b (thing x) (91 :: r) (thing objN) w := by
 have HX := Hd (refs_calls (thing x))
 have HY := Hd (refs_calls (91 :: r))
 rw [refs_thing] at HX
 rw [refs_arr] at HY
 have HTH := Hd (fun w => thing_calls objN (by decide) w)
 unfold objN at HTH
 have h78 := thing_ne_nul x
 have h79 := arr_ne_nul r
 have hst : (thing x == 91 :: r) = false := by rw [beq_eq_false_iff_ne]; simp [thing]
 obtain ⟨rx, hrx, _⟩ := thing_cons x
 unfold OfAt objN
 rw [hrx] at HX h78 hst
 rw [hrx]
 clear hrx
 go_enter Tryz.func75, Tryz.ntmps75
 go_wp2_with fail
 refine (HX.out _).mono ?_
 rintro e w1 ⟨rfl, rfl⟩
 go_wp2_with fail
 refine (HY.out _).mono ?_
 rintro e w1 ⟨rfl, rfl⟩
 go_wp2_with fail
 refine (HTH.out _).mono ?_
 rintro e w1 ⟨rfl, rfl⟩
 go_wp2_with fail
 go_ret
 exact ⟨rfl, Below.refl _ _⟩
theorem of_AL (b : Nat) (y r : Nm) (w : World) : OfAt b (91 :: r) (thing y) (thing objN) w := by
 have HX := Hd (refs_calls (91 :: r))
 have HY := Hd (refs_calls (thing y))
 rw [refs_thing] at HY
 rw [refs_arr] at HX
 have HTH := Hd (fun w => thing_calls objN (by decide) w)
 unfold objN at HTH
 have h78 := arr_ne_nul r
 have h79 := thing_ne_nul y
 have hst : ((91 :: r : Nm) == thing y) = false := by rw [beq_eq_false_iff_ne]; simp [thing]
 obtain ⟨ry, hry, _⟩ := thing_cons y
 unfold OfAt objN
 rw [hry] at HY h79 hst
 rw [hry]
 clear hry
 go_enter Tryz.func75, Tryz.ntmps75
 go_wp2_with fail
 refine (HX.out _).mono ?_
 rintro e w1 ⟨rfl, rfl⟩
 go_wp2_with fail
 refine (HY.out _).mono ?_
 rintro e w1 ⟨rfl, rfl⟩
 go_wp2_with fail
 refine (HTH.out _).mono ?_
 rintro e w1 ⟨rfl, rfl⟩
 go_wp2_with fail
 go_ret
 exact ⟨rfl, Below.refl _ _⟩
theorem of_AAno (b : Nat) (r q : Nm) (w : World) (hrq : r ≠ q) (hl : r.length ≤ 1048576) (hl2 : q.length ≤ 1048576) (h : (refsB r && refsB q) = false) : OfAt b (91 :: r) (91 :: q) (thing objN) w := by
 have HX := Hd (refs_calls (91 :: r))
 have HY := Hd (refs_calls (91 :: q))
 rw [refs_arr] at HX HY
 have HR := Hd (refs_calls r)
 have HQ := Hd (refs_calls q)
 have h78 := arr_ne_nul r
 have h79 := arr_ne_nul q
 have hst : (r == q) = false := by rw [beq_eq_false_iff_ne]; exact hrq
 clear hrq
 unfold OfAt
 have HTH := Hd (fun w => thing_calls objN (by decide) w)
 unfold objN at HTH
 unfold objN
 generalize refsB r = rr at *
 generalize refsB q = qq at *
 cases rr with
 | false =>
   go_enter Tryz.func75, Tryz.ntmps75
   go_wp2_with fail
   refine (HX.out _).mono ?_
   rintro e w1 ⟨rfl, rfl⟩
   go_wp2_with fail
   refine (HY.out _).mono ?_
   rintro e w1 ⟨rfl, rfl⟩
   go_wp2_with fail
   refine (HR.out _).mono ?_
   rintro e w1 ⟨rfl, rfl⟩
   go_wp2_with fail
   refine (HTH.out _).mono ?_
   rintro e w1 ⟨rfl, rfl⟩
   go_wp2_with fail
   go_ret
   exact ⟨rfl, Below.refl _ _⟩
 | true =>
   rw [Bool.true_and] at h
   subst h
   go_enter Tryz.func75, Tryz.ntmps75
   go_wp2_with fail
   refine (HX.out _).mono ?_
   rintro e w1 ⟨rfl, rfl⟩
   go_wp2_with fail
   refine (HY.out _).mono ?_
   rintro e w1 ⟨rfl, rfl⟩
   go_wp2_with fail
   refine (HR.out _).mono ?_
   rintro e w1 ⟨rfl, rfl⟩
   go_wp2_with fail
   refine (HQ.out _).mono ?_
   rintro e w1 ⟨rfl, rfl⟩
   go_wp2_with fail
   refine (HTH.out _).mono ?_
   rintro e w1 ⟨rfl, rfl⟩
   go_wp2_with fail
   go_ret
   exact ⟨rfl, Below.refl _ _⟩
theorem of_AAyes (b : Nat) (r q z : Nm) (w : World) (hrq : r ≠ q) (hl : r.length ≤ 1048576) (hl2 : q.length ≤ 1048576) (hz : z.length ≤ 1048576) (h1 : refsB r = true) (h2 : refsB q = true) (h : ∀ W, Below w.heap.size w W → OfAt b r q z W) : OfAt b (91 :: r) (91 :: q) (91 :: z) w := by
 have HH := Hd h
 clear h
 have HX := Hd (refs_calls (91 :: r))
 have HY := Hd (refs_calls (91 :: q))
 rw [refs_arr] at HX HY
 have HR := Hd (refs_calls r)
 have HQ := Hd (refs_calls q)
 have h78 := arr_ne_nul r
 have h79 := arr_ne_nul q
 have hst : (r == q) = false := by rw [beq_eq_false_iff_ne]; exact hrq
 clear hrq
 unfold OfAt
 unfold OfAt at HH
 rw [h1] at HR
 rw [h2] at HQ
 clear h1 h2
 go_enter Tryz.func75, Tryz.ntmps75
 go_wp2_with fail
 refine (HX.out _).mono ?_
 rintro e w1 ⟨rfl, rfl⟩
 go_wp2_with fail
 refine (HY.out _).mono ?_
 rintro e w1 ⟨rfl, rfl⟩
 go_wp2_with fail
 refine (HR.out _).mono ?_
 rintro e w1 ⟨rfl, rfl⟩
 go_wp2_with fail
 refine (HQ.out _).mono ?_
 rintro e w1 ⟨rfl, rfl⟩
 go_wp2_with fail
 go_region_with (go_at_call 75; refine (HH.out _ (by exact (Below.refl _ _).drew)).mono ?_; rintro e w3 ⟨rfl, hb3⟩; have HB3 := Hd (bl_trans (Below.refl w.heap.size w).drew hb3); clear hb3)
 all_goals
   go_wp2_with fail
   go_ret
   exact ⟨rfl, HB3.out⟩
theorem joinC_len {l : List ClassR} (hg : Good l) {x y : Nm} (hx : x ∈ names l) (hy : y ∈ names l) : (joinC (wl l) x y).length ≤ 1048576 := by
 have := good_names20 hg (joinC_names hg hx hy)
 omega
theorem of_ty (l : List ClassR) (L : List CP) (m : Nat) {b b' : Bse} (hb : b.Ok (wl l)) (hb' : b'.Ok (wl l)) : ∀ (d d' : Nat), d ≤ 3 → d' ≤ 3 → ∀ w, WOk w m l L → OfAt m (Kd.ty d b).text (Kd.ty d' b').text (joinT (wl l) d b d' b').text w
 | 0, 0, _, _, w, hW => by
   by_cases e : b = b'
   · subst e
     have : joinT (wl l) 0 b 0 b = .ty 0 b := by unfold joinT; rw [if_pos rfl]
     rw [this]
     exact of_same m _ w
   · have hne : (Kd.ty 0 b).text ≠ (Kd.ty 0 b').text := fun h => e (ty_inj h).2
     cases hr : (b.isRef && b'.isRef) with
     | false =>
       have : joinT (wl l) 0 b 0 b' = .top := by unfold joinT; rw [if_neg e, if_neg (by rw [hr]; simp)]
       rw [this]
       exact of_top m _ _ hne (by rw [refs_ty, refs_ty]; exact hr) (fun h => absurd h (ty_ne_nul _ _)) (fun h => absurd h (ty_ne_nul _ _)) w
     | true =>
       cases b with
       | int => cases hr
       | long => cases hr
       | cls x =>
         cases b' with
         | int => cases hr
         | long => cases hr
         | cls y =>
           have hxy : x ≠ y := fun h => e (by rw [h])
           have : joinT (wl l) 0 (.cls x) 0 (.cls y) = .ty 0 (.cls (joinC (wl l) x y)) := by unfold joinT; rw [if_neg e, if_pos hr]; rfl
           rw [this]
           exact of_LL l L m x y w hW hxy (by have := (name_len hb.1).2; omega) (by have := (name_len hb'.1).2; omega) (joinC_len hW.good (look_some.1 hb.2) (look_some.1 hb'.2))
 | d + 1, 0, hd, _, w, hW => by
   have hne : (Kd.ty (d + 1) b).text ≠ (Kd.ty 0 b').text := fun h => by have := (ty_inj h).1; omega
   cases b' with
   | int => exact of_top m _ _ hne (by rw [refs_ty, refs_ty]; rfl) (fun h => absurd h (ty_ne_nul _ _)) (fun h => absurd h (ty_ne_nul _ _)) w
   | long => exact of_top m _ _ hne (by rw [refs_ty, refs_ty]; rfl) (fun h => absurd h (ty_ne_nul _ _)) (fun h => absurd h (ty_ne_nul _ _)) w
   | cls y => exact of_AL m y (Kd.ty d b).text w
 | 0, d' + 1, _, hd', w, hW => by
   have hne : (Kd.ty 0 b).text ≠ (Kd.ty (d' + 1) b').text := fun h => by have := (ty_inj h).1; omega
   cases b with
   | int => exact of_top m _ _ hne (by rw [refs_ty, refs_ty]; rfl) (fun h => absurd h (ty_ne_nul _ _)) (fun h => absurd h (ty_ne_nul _ _)) w
   | long => exact of_top m _ _ hne (by rw [refs_ty, refs_ty]; rfl) (fun h => absurd h (ty_ne_nul _ _)) (fun h => absurd h (ty_ne_nul _ _)) w
   | cls x => exact of_LA m x (Kd.ty d' b').text w
 | d + 1, d' + 1, hd, hd', w, hW => by
   by_cases e : d = d' ∧ b = b'
   · obtain ⟨rfl, rfl⟩ := e
     rw [joinT_self]
     exact of_same m _ w
   · have hne : (Kd.ty d b).text ≠ (Kd.ty d' b').text := fun h => e (ty_inj h)
     have l1 := ty_len (L := wl l) (d := d) (by omega) hb
     have l2 := ty_len (L := wl l) (d := d') (by omega) hb'
     cases hr : ((Kd.ty d b).refs && (Kd.ty d' b').refs) with
     | true =>
       have hr' := hr
       simp only [Bool.and_eq_true] at hr'
       obtain ⟨e', c, h1, h2, h3, _⟩ := joinT_ref hW.good hb hb' d d' hr'.1 hr'.2
       have : joinT (wl l) (d + 1) b (d' + 1) b' = .ty (e' + 1) c := by
         conv => lhs; unfold joinT
         rw [if_neg e, if_pos hr, h1]; rfl
       rw [this]
       have l3 := ty_len (L := wl l) (d := e') (by omega) h3
       refine of_AAyes m (Kd.ty d b).text (Kd.ty d' b').text (Kd.ty e' c).text w hne (by omega) (by omega) (by omega) (by rw [refs_ty]; exact hr'.1) (by rw [refs_ty]; exact hr'.2) (fun W hWW => ?_)
       have ih := of_ty l L m hb hb' d d' (by omega) (by omega) W (hW.below hWW)
       rw [h1] at ih
       exact ih
     | false =>
       have : joinT (wl l) (d + 1) b (d' + 1) b' = .ty 0 (.cls objN) := by
         conv => lhs; unfold joinT
         rw [if_neg e, if_neg (by rw [hr]; simp)]
       rw [this]
       exact of_AAno m (Kd.ty d b).text (Kd.ty d' b').text w hne (by omega) (by omega) (by rw [refs_ty, refs_ty]; exact hr)
theorem of_calls (l : List ClassR) (L : List CP) (m : Nat) {a b : Kd} (ha : a.Ok (wl l)) (hb : b.Ok (wl l)) (w : World) (hW : WOk w m l L) : OfAt m a.text b.text (joinK (wl l) a b).text w := by
 cases a with
 | nul =>
   cases b with
   | nul => exact of_same m _ w
   | top => exact of_top m _ _ (by simp [Kd.text]) rfl (fun _ => rfl) (fun h => by simp [Kd.text] at h) w
   | ty d y =>
     have e : joinK (wl l) .nul (.ty d y) = if (Kd.ty d y).refs = true then .ty d y else .top := rfl
     rw [e]
     cases hr : (Kd.ty d y).refs with
     | true => rw [if_pos rfl]; exact of_nulL m _ (by rw [refs_ty]; exact hr) w
     | false => rw [if_neg (by simp)]; exact of_top m _ _ (fun h => ty_ne_nul d y h.symm) (by show (false && _) = false; rw [Bool.false_and]) (fun _ => by rw [refs_ty]; exact hr) (fun h => absurd h (ty_ne_nul _ _)) w
 | top =>
   cases b with
   | nul => exact of_top m _ _ (by simp [Kd.text]) rfl (fun h => by simp [Kd.text] at h) (fun _ => rfl) w
   | top => exact of_same m _ w
   | ty d y => exact of_top m _ _ (fun h => ty_ne_top d y h.symm) (by show (false && _) = false; rw [Bool.false_and]) (fun h => by simp [Kd.text] at h) (fun h => absurd h (ty_ne_nul _ _)) w
 | ty d x =>
   cases b with
   | nul =>
     have e : joinK (wl l) (.ty d x) .nul = if (Kd.ty d x).refs = true then .ty d x else .top := rfl
     rw [e]
     cases hr : (Kd.ty d x).refs with
     | true => rw [if_pos rfl]; exact of_nulR m _ (by rw [refs_ty]; exact hr) w
     | false => rw [if_neg (by simp)]; exact of_top m _ _ (ty_ne_nul d x) (by show (_ && false) = false; rw [Bool.and_false]) (fun h => absurd h (ty_ne_nul _ _)) (fun _ => by rw [refs_ty]; exact hr) w
   | top => exact of_top m _ _ (ty_ne_top d x) (by show (_ && false) = false; rw [Bool.and_false]) (fun h => absurd h (ty_ne_nul _ _)) (fun h => by simp [Kd.text] at h) w
   | ty d' y => exact of_ty l L m ha.2 hb.2 d d' ha.1 hb.1 w hW
def ldLoc : Oper := { dst := some 39, op := Op.load 35 (Operand.tmp 38), type := 35, pos := "frame.go:46", after := #[{ on := 0, ground := Ground.data }], guard := none }
def ldSt : Oper := { dst := some 61, op := Op.load 35 (Operand.tmp 60), type := 35, pos := "frame.go:49", after := #[{ on := 0, ground := Ground.data }], guard := none }
theorem ldLoc_op : ldLoc.op = Op.load 35 (Operand.tmp 38) := rfl
theorem ldLoc_dst : ldLoc.dst = some 39 := rfl
theorem ldLoc_guard : ldLoc.guard = none := rfl
theorem ldSt_op : ldSt.op = Op.load 35 (Operand.tmp 60) := rfl
theorem ldSt_dst : ldSt.dst = some 61 := rfl
theorem ldSt_guard : ldSt.guard = none := rfl
def nilF : FAddr := ⟨none, 0, none, 0⟩
def FNew (n : Nat) (p : FAddr) : Prop := (∀ ad, p.la = some ad → n ≤ ad.block) ∧ ∀ ad, p.sa = some ad → n ≤ ad.block
def BothResN (l : List ClassR) (a b : FrR) (w : World) (e : Ending) (w' : World) : Prop := Below w.heap.size w w' ∧
 ((¬ sameSh a b ∧ e = .returned (.tuple #[frV ⟨[], []⟩ nilF, .bool false])) ∨ (sameSh a b ∧ ∃ p, e = .returned (.tuple #[frV (joinF (wl l) a b) p, .bool true]) ∧ FrAt w' (joinF (wl l) a b) p ∧ FNew w.heap.size p))
def BothRes (l : List ClassR) (a b : FrR) (w : World) (e : Ending) (w' : World) : Prop := Below w.heap.size w w' ∧
 ((¬ sameSh a b ∧ e = .returned (.tuple #[frV ⟨[], []⟩ nilF, .bool false])) ∨ (sameSh a b ∧ ∃ p, e = .returned (.tuple #[frV (joinF (wl l) a b) p, .bool true]) ∧ FrAt w' (joinF (wl l) a b) p))
theorem both_callsN (l : List ClassR) (L : List CP) (m : Nat) (fa fb : FrR) (pa pb : FAddr) (w : World) (hW : WOk w m l L) (hfa : FrAt w fa pa) (hfb : FrAt w fb pb) (ha : chkErr (wl l) fa = 0) (hb : chkErr (wl l) fb = 0) :
   Calls Tryz.prog 38 #[.map (some m), frV fa pa, frV fb pb] w (BothResN l fa fb w) := by
 have HB0 := Hd (fun o => (Below.refl w.heap.size w).alloc (Nat.le_refl _) o)
 obtain ⟨⟨n1, n2⟩, ka⟩ := chk_zero.1 ha
 have kb := (chk_zero.1 hb).2
 have HO := Hd (fun x (hx : x ∈ fa.loc ++ fa.st) y (hy : y ∈ fb.loc ++ fb.st) W (hWW : Below w.heap.size w W) => (show OfAt m x y (joinN (wl l) x y) W from by
   have h := of_calls l L m (kd_spec (ka x hx)).1 (kd_spec (kb y hy)).1 W (hW.below hWW)
   rw [← (kd_spec (ka x hx)).2, ← (kd_spec (kb y hy)).2] at h
   exact h))
 clear ha hb ka kb hW
 obtain ⟨hfa1, hfa2⟩ := hfa
 obtain ⟨hfb1, hfb2⟩ := hfb
 obtain ⟨A1, A2⟩ := fa
 obtain ⟨B1, B2⟩ := fb
 obtain ⟨la, lc, sa, sc⟩ := pa
 obtain ⟨la', lc', sa', sc'⟩ := pb
 unfold frV BothResN joinF sameSh
 generalize joinN (wl l) = J at *
 dsimp only at *
 have HA1 := Hd hfa1
 have HA2 := Hd hfa2
 have HB1 := Hd hfb1
 have HB2 := Hd hfb2
 clear hfa1 hfa2 hfb1 hfb2
 by_cases e1 : A1.length = B1.length
 · by_cases e2 : A2.length = B2.length
   · have q1 : ((A1.length : Int) != (B1.length : Int)) = false := by rw [bne_eq_false_iff_eq]; omega
     have q2 : ((A2.length : Int) != (B2.length : Int)) = false := by rw [bne_eq_false_iff_eq]; omega
     have Z1 := Hd (zip_len (f := J) e1)
     have Z2 := Hd (zip_len (f := J) e2)
     have E1 := Hd e1
     have E2 := Hd e2
     have l1 : B1.length ≤ A1.length ∧ A1.length ≤ B1.length := by omega
     have l2 : B2.length ≤ A2.length ∧ A2.length ≤ B2.length := by omega
     clear e1 e2
     go_enter Tryz.func38, Tryz.ntmps38
     go_wp2_with fail
     have HX : ∃ W0 : World, W0 = ((((w.alloc (Obj.cells #[Value.slice la A1.length lc, Value.slice sa A2.length sc] 67)).alloc (Obj.cells #[Value.slice la' B1.length lc', Value.slice sa' B2.length sc'] 67)).alloc (Obj.cells #[Value.slice none 0 0, Value.slice none 0 0] 67)).alloc (Obj.cells #[Value.slice none 0 0, Value.slice none 0 0] 67)) := ⟨_, rfl⟩
     obtain ⟨W0, hW0⟩ := HX
     have HBW := Hd (show Below w.heap.size w W0 by subst hW0; exact bl_alloc (bl_alloc (bl_alloc (bl_alloc (Below.refl _ _) _) _) _) _)
     have hd1 : Blk W0 (w.heap.size + 1) 67 #[Value.slice la' B1.length lc', Value.slice sa' B2.length sc'] := by
       subst hW0
       exact ((blk_new _ _ _ _ (by simp)).below ((Below.refl _ _).alloc (Nat.le_refl _) _)).below ((Below.refl _ _).alloc (Nat.le_refl _) _)
     have hd2 : Blk W0 (w.heap.size + 1 + 1) 67 #[Value.slice none 0 0, Value.slice none 0 0] := by
       subst hW0
       exact (blk_new _ _ _ _ (by simp)).below ((Below.refl _ _).alloc (Nat.le_refl _) _)
     have hd3 : Blk W0 (w.heap.size + 1 + 1 + 1) 67 #[Value.slice none 0 0, Value.slice none 0 0] := by
       subst hW0
       exact blk_new _ _ _ _ (by simp)
     have hd0 : Blk W0 w.heap.size 67 #[Value.slice la A1.length lc, Value.slice sa A2.length sc] := by
       subst hW0
       exact (((blk_new _ _ _ _ (by simp)).below ((Below.refl _ _).alloc (Nat.le_refl _) _)).below ((Below.refl _ _).alloc (Nat.le_refl _) _)).below ((Below.refl _ _).alloc (Nat.le_refl _) _)
     have hs0 : W0.heap.size = w.heap.size + 1 + 1 + 1 + 1 := by subst hW0; simp
     rw [← hW0]
     clear hW0
     have HD0 := Hd hd0
     have HD1 := Hd hd1
     have HD2 := Hd hd2
     have HD3 := Hd hd3
     clear hd0 hd1 hd2 hd3
     go_loopw [33] (fun i wr => ∃ k : Nat, k ≤ A1.length ∧ i = .int .i64 k ∧ W0.grownBy wr (some (w.heap.size + 1 + 1 + 1)) ∧ ∃ v, Blk wr (w.heap.size + 1 + 1 + 1) 67 #[v, Value.slice none 0 0] ∧ wr.ownsRow W0.heap.size 9 1 v k (((List.zipWith J A1 B1).take k).map strV)) (fun i _ => A1.length - (RowKit.intOf i).toNat)
     case atStart => exact ⟨0, by omega, rfl, gb_refl _ _, _, HD3.out, ⟨rfl, Or.inl ⟨rfl, rfl⟩⟩⟩
     case round =>
       obtain ⟨k, hk, rfl, hg, v, hv, ho⟩ := hrel
       have hbw := gb_to_below HBW.out hg (by omega)
       by_cases hlk : k < A1.length
       · obtain ⟨x, hx⟩ : ∃ x, A1[k]? = some x := ⟨_, List.getElem?_eq_getElem hlk⟩
         obtain ⟨y, hy⟩ : ∃ y, B1[k]? = some y := ⟨_, List.getElem?_eq_getElem (by omega)⟩
         obtain ⟨b1, off, rfl, hlt, c0⟩ := strs_cell (HA1.out.below hbw) hx
         obtain ⟨b2, off2, rfl, hlt2, d0⟩ := strs_cell HB1.out hy
         have hj0 : (0 : Int) ≤ (k : Int) := Int.natCast_nonneg _
         have hji : (k : Int) < (A1.length : Int) := by omega
         have hjb : (k : Int) < (B1.length : Int) := by omega
         have HS := Hd (fun W' (hW' : W0.grownBy W' (some (w.heap.size + 1 + 1 + 1))) => (show W'.cell? ⟨w.heap.size + 1, 0, none⟩ = some (.slice (some ⟨b2, off2, none⟩) B1.length lc') ∧ W'.cell? ⟨b2, off2 + k, none⟩ = some (.string ⟨⟨y⟩⟩) from
           ⟨(gb_cell hW' (a := ⟨w.heap.size + 1, 0, none⟩) HD1.out.lt (by simp)).trans (HD1.out.cell 0), ((gb_to_below HBW.out hW' (by omega)).cell (p := ⟨b2, off2 + k, none⟩) hlt2).trans d0⟩))
         obtain ⟨s1, s2⟩ := HS.out _ hg
         have HOF := Hd (fun W (hW : W0.grownBy W (some (w.heap.size + 1 + 1 + 1))) => HO.out x (by simp [List.mem_of_getElem? hx]) y (by simp [List.mem_of_getElem? hy]) W (gb_to_below HBW.out hW (by omega)))
         unfold OfAt at HOF
         have HG := Hd hg
         have HV := Hd hv
         have HOW := Hd ho
         have HTK := Hd (zip_take (f := J) hx hy)
         have g0 := hv.cell 0
         have gl := hv.lt
         have HONE := Hd (show ∀ u ∈ ([strV (J x y)] : List Value), u.oneCell' = true by intro u hu; rw [List.mem_singleton.1 hu]; rfl)
         clear hx hy d0 hg hv ho hbw
         go_wp2_with fail
         rw [show ({ dst := some 39, op := Op.load 35 (Operand.tmp 38), type := 35, pos := "frame.go:46", after := #[{ on := 0, ground := Ground.data }], guard := none } : Oper) = ldLoc from rfl]
         have q1 := ldLoc_op
         have q2 := ldLoc_dst
         have q3 := ldLoc_guard
         go_region_held3 (fun W' => W'.cell? ⟨w.heap.size + 1, 0, none⟩ = some (.slice (some ⟨b2, off2, none⟩) B1.length lc') ∧ W'.cell? ⟨b2, off2 + k, none⟩ = some (.string ⟨⟨y⟩⟩))
           (first | (exact HS.out _ (by repeat (first | exact HG.out | exact hg5 | exact hg6 | refine gb_drew ?_ | refine gb_alloc ?_ _ | refine gb_set ?_ _ _))))
           ((first
           | (go_at_call 75
              refine (HOF.out _ (by exact gb_drew HG.out)).mono ?_
              rintro e w5 ⟨rfl, hb5⟩
              have hg5 := gb_below (gb_drew HG.out) hb5
              have hv5 := HV.out.drew.below hb5
              have ho5 := own_below (show wr.drew.ownsRow _ _ _ _ _ _ from HOW.out) hb5
              have g5 := hv5.cell 0
              have gl5 := hv5.lt
              have gs5 := hg5.size)
           | (refine step_app rowStr rfl (.tmp 39) (.tmp 48) rfl W0.heap.size _ k (((List.zipWith J A1 B1).take k).map strV) rfl ?_ _ 1 [strV (J x y)] rfl (Or.inr ?_) ?_ ?_ ?_ ?_
              · first | exact ho5.alloc _ | exact (ho5.alloc _).drew
              · first | exact one_src _ [strV (J x y)] _ 1 _ (by rfl) rfl HONE.out | exact one_drew (one_src _ [strV (J x y)] _ 1 _ (by rfl) rfl HONE.out) | exact one_src _ [strV (J x y)] _ 1 _ (by simp) rfl HONE.out
              · omega
              · omega
              · first | (simp; omega) | omega
              intro v6 w6 ho6 hgr6 hv6
              have hg6 : W0.grownBy w6 (some (w.heap.size + 1 + 1 + 1)) := gb_grown (gb_alloc hg5 _) hgr6 hv6
              have hne6 : v.ownBlock ≠ some (w.heap.size + 1 + 1 + 1) := fun e => by have := hv6 _ e; omega
              have hbk6 := blk_grown (hv5.below ((Below.refl _ _).alloc (Nat.le_refl _) _)) hgr6 hne6
              have g6 := hbk6.cell 0
              have gz6 := hbk6.frozen 0
              have gl6 := hbk6.lt
              obtain ⟨A6, C6, rfl, _⟩ := slice_of_own ho6)))
         all_goals
           have hg7 := Hd (gb_set hg6 0 (.slice A6 (k + 1) C6))
           have hbk7 := Hd (show Blk (w6.setCell ⟨w.heap.size + 1 + 1 + 1, 0, none⟩ (.slice A6 (k + 1) C6)) (w.heap.size + 1 + 1 + 1) 67 #[.slice A6 (k + 1) C6, .slice none 0 0] from blk_set hbk6 0 (.slice A6 (k + 1) C6))
           have ho7 := Hd (own_set ho6 (g := w.heap.size + 1 + 1 + 1) (j := 0) (fun e => by have := (ho6.lt _ e).1; omega) (.slice A6 (k + 1) C6))
           generalize w6.setCell ⟨w.heap.size + 1 + 1 + 1, 0, none⟩ (.slice A6 (k + 1) C6) = w7 at *
           clear q1 q2 q3 hg5 hv5 ho5 g5 gl5 gs5 ho6 hgr6 hv6 hg6 hne6 hbk6 g6 gz6 gl6 HS s1 s2
           go_wp2_with fail
           go_roundw
           case rel => exact ⟨k + 1, by omega, by go_num, hg7.out, _, hbk7.out, by rw [HTK.out, List.map_append]; exact ho7.out⟩
           case measure => simp [RowKit.intOf]; omega
       · obtain rfl : k = A1.length := by omega
         rw [List.take_of_length_le (by rw [Z1.out]; exact Nat.le_refl _)] at ho
         have ho' : wr.ownsRow W0.heap.size 9 1 v (List.zipWith J A1 B1).length ((List.zipWith J A1 B1).map strV) := by rw [Z1.out]; exact ho
         obtain ⟨v1a, v1c, rfl, hr1⟩ := srow_of_own ho'
         have HN1 := Hd (show ∀ ad, v1a = some ad → W0.heap.size ≤ ad.block from fun ad e => (ho.lt ad.block (by rw [e]; rfl)).1)
         obtain ⟨W1, hW1⟩ : ∃ W1, W1 = wr := ⟨wr, rfl⟩
         subst hW1
         have HR1 := Hd hr1
         have HBW1 := Hd hbw
         have HG1 := Hd hg
         have HE0 := Hd (gb_blk hg HD0.out (by omega))
         have HE1 := Hd (gb_blk hg HD1.out (by omega))
         have HE2 := Hd (gb_blk hg HD2.out (by omega))
         have HE3 := Hd hv
         have f0 := HE0.out.cell 1
         have f1 := HE0.out.lt
         have hl1 := hg.size
         clear ho ho' hr1 hbw hg hv hlk
         go_wp2_with fail
         go_loopw [55] (fun i wr => ∃ k : Nat, k ≤ A2.length ∧ i = .int .i64 k ∧ W1.grownBy wr (some (w.heap.size + 1 + 1 + 1)) ∧ ∃ v, Blk wr (w.heap.size + 1 + 1 + 1) 67 #[.slice v1a (List.zipWith J A1 B1).length v1c, v] ∧ wr.ownsRow W1.heap.size 9 1 v k (((List.zipWith J A2 B2).take k).map strV)) (fun i _ => A2.length - (RowKit.intOf i).toNat)
         case atStart => exact ⟨0, by omega, rfl, gb_refl _ _, _, HE3.out, ⟨rfl, Or.inl ⟨rfl, rfl⟩⟩⟩
         case round =>
           obtain ⟨k, hk, rfl, hg, v, hv, ho⟩ := hrel
           have hbw := gb_to_below HBW1.out hg (by omega)
           by_cases hlk : k < A2.length
           · obtain ⟨x, hx⟩ : ∃ x, A2[k]? = some x := ⟨_, List.getElem?_eq_getElem hlk⟩
             obtain ⟨y, hy⟩ : ∃ y, B2[k]? = some y := ⟨_, List.getElem?_eq_getElem (by omega)⟩
             obtain ⟨b1, off, rfl, hlt, c0⟩ := strs_cell (HA2.out.below hbw) hx
             obtain ⟨b2, off2, rfl, hlt2, d0⟩ := strs_cell HB2.out hy
             have hj0 : (0 : Int) ≤ (k : Int) := Int.natCast_nonneg _
             have hji : (k : Int) < (A2.length : Int) := by omega
             have hjb : (k : Int) < (B2.length : Int) := by omega
             have HS := Hd (fun W' (hW' : W1.grownBy W' (some (w.heap.size + 1 + 1 + 1))) => (show W'.cell? ⟨w.heap.size + 1, 1, none⟩ = some (.slice (some ⟨b2, off2, none⟩) B2.length sc') ∧ W'.cell? ⟨b2, off2 + k, none⟩ = some (.string ⟨⟨y⟩⟩) from
               ⟨(gb_cell hW' (a := ⟨w.heap.size + 1, 1, none⟩) HE1.out.lt (by simp)).trans (HE1.out.cell 1), ((gb_to_below HBW1.out hW' (by omega)).cell (p := ⟨b2, off2 + k, none⟩) hlt2).trans d0⟩))
             obtain ⟨s1, s2⟩ := HS.out _ hg
             have HOF := Hd (fun W (hW : W1.grownBy W (some (w.heap.size + 1 + 1 + 1))) => HO.out x (by simp [List.mem_of_getElem? hx]) y (by simp [List.mem_of_getElem? hy]) W (gb_to_below HBW1.out hW (by omega)))
             unfold OfAt at HOF
             have HG := Hd hg
             have HV := Hd hv
             have HOW := Hd ho
             have HTK := Hd (zip_take (f := J) hx hy)
             have g0 := hv.cell 1
             have gl := hv.lt
             have HONE := Hd (show ∀ u ∈ ([strV (J x y)] : List Value), u.oneCell' = true by intro u hu; rw [List.mem_singleton.1 hu]; rfl)
             clear hx hy d0 hg hv ho hbw
             go_wp2_with fail
             rw [show ({ dst := some 61, op := Op.load 35 (Operand.tmp 60), type := 35, pos := "frame.go:49", after := #[{ on := 0, ground := Ground.data }], guard := none } : Oper) = ldSt from rfl]
             have q1 := ldSt_op
             have q2 := ldSt_dst
             have q3 := ldSt_guard
             go_region_held3 (fun W' => W'.cell? ⟨w.heap.size + 1, 1, none⟩ = some (.slice (some ⟨b2, off2, none⟩) B2.length sc') ∧ W'.cell? ⟨b2, off2 + k, none⟩ = some (.string ⟨⟨y⟩⟩))
               (first | (exact HS.out _ (by repeat (first | exact HG.out | exact hg5 | exact hg6 | refine gb_drew ?_ | refine gb_alloc ?_ _ | refine gb_set ?_ _ _))))
               ((first
               | (go_at_call 75
                  refine (HOF.out _ (by exact gb_drew HG.out)).mono ?_
                  rintro e w5 ⟨rfl, hb5⟩
                  have hg5 := gb_below (gb_drew HG.out) hb5
                  have hv5 := HV.out.drew.below hb5
                  have ho5 := own_below (show wr.drew.ownsRow _ _ _ _ _ _ from HOW.out) hb5
                  have g5 := hv5.cell 1
                  have gl5 := hv5.lt
                  have gs5 := hg5.size)
               | (refine step_app rowStr rfl (.tmp 61) (.tmp 70) rfl W1.heap.size _ k (((List.zipWith J A2 B2).take k).map strV) rfl ?_ _ 1 [strV (J x y)] rfl (Or.inr ?_) ?_ ?_ ?_ ?_
                  · first | exact ho5.alloc _ | exact (ho5.alloc _).drew
                  · first | exact one_src _ [strV (J x y)] _ 1 _ (by rfl) rfl HONE.out | exact one_drew (one_src _ [strV (J x y)] _ 1 _ (by rfl) rfl HONE.out) | exact one_src _ [strV (J x y)] _ 1 _ (by simp) rfl HONE.out
                  · omega
                  · omega
                  · first | (simp; omega) | omega
                  intro v6 w6 ho6 hgr6 hv6
                  have hg6 : W1.grownBy w6 (some (w.heap.size + 1 + 1 + 1)) := gb_grown (gb_alloc hg5 _) hgr6 hv6
                  have hne6 : v.ownBlock ≠ some (w.heap.size + 1 + 1 + 1) := fun e => by have := hv6 _ e; omega
                  have hbk6 := blk_grown (hv5.below ((Below.refl _ _).alloc (Nat.le_refl _) _)) hgr6 hne6
                  have g6 := hbk6.cell 1
                  have gz6 := hbk6.frozen 1
                  have gl6 := hbk6.lt
                  obtain ⟨A6, C6, rfl, _⟩ := slice_of_own ho6)))
             all_goals
               have hg7 := Hd (gb_set hg6 1 (.slice A6 (k + 1) C6))
               have hbk7 := Hd (show Blk (w6.setCell ⟨w.heap.size + 1 + 1 + 1, 1, none⟩ (.slice A6 (k + 1) C6)) (w.heap.size + 1 + 1 + 1) 67 #[.slice v1a (List.zipWith J A1 B1).length v1c, .slice A6 (k + 1) C6] from blk_set hbk6 1 (.slice A6 (k + 1) C6))
               have ho7 := Hd (own_set ho6 (g := w.heap.size + 1 + 1 + 1) (j := 1) (fun e => by have := (ho6.lt _ e).1; omega) (.slice A6 (k + 1) C6))
               generalize w6.setCell ⟨w.heap.size + 1 + 1 + 1, 1, none⟩ (.slice A6 (k + 1) C6) = w7 at *
               clear q1 q2 q3 hg5 hv5 ho5 g5 gl5 gs5 ho6 hgr6 hv6 hg6 hne6 hbk6 g6 gz6 gl6 HS s1 s2
               go_wp2_with fail
               go_roundw
               case rel => exact ⟨k + 1, by omega, by go_num, hg7.out, _, hbk7.out, by rw [HTK.out, List.map_append]; exact ho7.out⟩
               case measure => simp [RowKit.intOf]; omega
           · obtain rfl : k = A2.length := by omega
             rw [List.take_of_length_le (by rw [Z2.out]; exact Nat.le_refl _)] at ho
             have ho' : wr.ownsRow W1.heap.size 9 1 v (List.zipWith J A2 B2).length ((List.zipWith J A2 B2).map strV) := by rw [Z2.out]; exact ho
             obtain ⟨v2a, v2c, rfl, hr2⟩ := srow_of_own ho'
             have HR2 := Hd hr2
             have HN2 := Hd (show ∀ ad, v2a = some ad → W1.heap.size ≤ ad.block from fun ad e => (ho.lt ad.block (by rw [e]; rfl)).1)
             have HR1' := Hd (gb_srow hg HR1.out (fun ad e => by have := HN1.out ad e; omega))
             have HBW := Hd hbw
             have HE2' := Hd (gb_blk hg HE2.out (by omega))
             have g0 := hv.cell 0
             have g1 := hv.cell 1
             have gl := hv.lt
             clear ho ho' hr2 hg hv hbw
             have y0 := HE2'.out.cell 0
             have y1 := HE2'.out.cell 1
             have y2 := HE2'.out.frozen 0
             have y3 := HE2'.out.frozen 1
             have y4 := HE2'.out.lt
             go_wp2_with fail
             have hb7 := blk_set (blk_set HE2'.out 0 (.slice v1a A1.length v1c)) 1 (.slice v2a A2.length v2c)
             have hg7 := gb_set (gb_set (gb_refl wr (w.heap.size + 1 + 1)) 0 (.slice v1a A1.length v1c)) 1 (.slice v2a A2.length v2c)
             generalize (wr.setCell ⟨w.heap.size + 1 + 1, 0, none⟩ (.slice v1a A1.length v1c)).setCell ⟨w.heap.size + 1 + 1, 1, none⟩ (.slice v2a A2.length v2c) = w7 at *
             have r0 : w7.cell? ⟨w.heap.size + 1 + 1, 0, none⟩ = some (.slice v1a A1.length v1c) := hb7.cell 0
             have r1 : w7.cell? ⟨w.heap.size + 1 + 1, 1, none⟩ = some (.slice v2a A2.length v2c) := hb7.cell 1
             have hbz := below_grown HBW.out hg7 (by omega) HBW.out.size
             refine bodyPost_ret (v := .tuple #[frV ⟨List.zipWith J A1 B1, List.zipWith J A2 B2⟩ ⟨v1a, v1c, v2a, v2c⟩, .bool true]) (by simp [results, Tryz.results38, go_sem, r0, r1, frV, Z1.out, Z2.out]) rfl ⟨hbz, Or.inr ⟨⟨E1.out, E2.out⟩, _, rfl, ⟨?_, ?_⟩, ?_, ?_⟩⟩
             · exact gb_srow hg7 HR1'.out (fun ad e => by have := HN1.out ad e; omega)
             · exact gb_srow hg7 HR2.out (fun ad e => by have := HN2.out ad e; omega)
             · exact fun ad e => by have := HN1.out ad e; omega
             · exact fun ad e => by have := HN2.out ad e; omega
   · have q2 : ((A2.length : Int) != (B2.length : Int)) = true := by rw [bne_iff_ne]; omega
     have q1 : ((A1.length : Int) != (B1.length : Int)) = false := by rw [bne_eq_false_iff_eq]; omega
     have HN := Hd (show ¬ (A1.length = B1.length ∧ A2.length = B2.length) from fun h => e2 h.2)
     have hbb := Hd (fun o1 o2 o3 => bl_alloc (bl_alloc (bl_alloc (Below.refl w.heap.size w) o1) o2) o3)
     clear e1 e2
     go_enter Tryz.func38, Tryz.ntmps38
     go_wp2_with fail
     exact bodyPost_ret (v := .tuple #[frV ⟨[], []⟩ nilF, .bool false]) (by simp [results, Tryz.results38, go_sem, frV, nilF]) rfl ⟨hbb.out _ _ _, Or.inl ⟨HN.out, rfl⟩⟩
 · have q1 : ((A1.length : Int) != (B1.length : Int)) = true := by rw [bne_iff_ne]; omega
   have HN := Hd (show ¬ (A1.length = B1.length ∧ A2.length = B2.length) from fun h => e1 h.1)
   have hbb := Hd (fun o1 o2 o3 => bl_alloc (bl_alloc (bl_alloc (Below.refl w.heap.size w) o1) o2) o3)
   clear e1
   go_enter Tryz.func38, Tryz.ntmps38
   go_wp2_with fail
   exact bodyPost_ret (v := .tuple #[frV ⟨[], []⟩ nilF, .bool false]) (by simp [results, Tryz.results38, go_sem, frV, nilF]) rfl ⟨hbb.out _ _ _, Or.inl ⟨HN.out, rfl⟩⟩
end Go.Proofs.YtddbnboicmaooaaGreatDoor
