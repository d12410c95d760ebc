/-
  The walk of sub.Does at right kinds.
-/
import Derived.Test.YtanjggdmgeedlaaGreatDoorKind1
import Derived.Test.YtanjggdmgeedlaaGreatDoorFind2
import Derived.Deep.QuietTactic
import Derived.BigQuiet
namespace Go.Proofs.YtanjggdmgeedlaaGreatDoor
set_option linter.unusedVariables false
set_option linter.unusedSimpArgs false
open Go.RowKit Go.Shelf Go.Lib

def DoesAt (b : Nat) (s t : Nm) (r : Bool) (w : World) : Prop := Calls Tryz.prog 62 #[.map (some b), .string ⟨⟨s⟩⟩, .string ⟨⟨t⟩⟩] w fun e w' => e = .returned (.bool r) ∧ Below w.heap.size w w'

set_option maxRecDepth 100000 in
set_option maxHeartbeats 1000000 in
theorem does_top (b : Nat) (s : Nm) (w : World) : DoesAt b s [84] true w := by
  unfold DoesAt
  go_enter Tryz.func62, Tryz.ntmps62
  go_wp2_with fail
  go_ret
  exact ⟨rfl, Below.refl _ _⟩
set_option maxRecDepth 100000 in
set_option maxHeartbeats 1000000 in
theorem does_same (b : Nat) (s : Nm) (w : World) : DoesAt b s s true w := by
  by_cases h : s = [84]
  · subst h; exact does_top b _ w
  have h84 : (s == [84]) = false := by rw [beq_eq_false_iff_ne]; exact h
  clear h
  unfold DoesAt
  go_enter Tryz.func62, Tryz.ntmps62
  go_wp2_with fail
  go_ret
  exact ⟨rfl, Below.refl _ _⟩
set_option maxRecDepth 100000 in
set_option maxHeartbeats 1000000 in
theorem does_nul (b : Nat) (t : Nm) (ht : refsB t = true) (w : World) : DoesAt b [78] t true w := by
  have HR := Lib.hid (refs_calls t)
  rw [ht] at HR
  have h84 : (t == [84]) = false := by rw [beq_eq_false_iff_ne]; rintro rfl; simp [refsB] at ht
  have h78 : (([78] : Nm) == t) = false := by rw [beq_eq_false_iff_ne]; rintro rfl; simp [refsB] at ht
  clear ht
  unfold DoesAt
  go_enter Tryz.func62, Tryz.ntmps62
  go_wp2_with fail
  refine (HR.out _).mono ?_
  rintro e w1 ⟨rfl, rfl⟩
  go_wp2_with fail
  go_ret
  exact ⟨rfl, Below.refl _ _⟩
set_option maxRecDepth 100000 in
set_option maxHeartbeats 2000000 in
theorem does_no (b : Nat) (s t : Nm) (hst : s ≠ t) (ht : t ≠ [84]) (hr : (refsB s && refsB t) = false) (hn : s = [78] → refsB t = false) (w : World) : DoesAt b s t false w := by
  have HS := Lib.hid (refs_calls s)
  have HT := Lib.hid (refs_calls t)
  have h84 : (t == [84]) = false := by rw [beq_eq_false_iff_ne]; exact ht
  have hst2 : (s == t) = false := by rw [beq_eq_false_iff_ne]; exact hst
  unfold DoesAt
  by_cases h : s = [78]
  · rw [hn h] at HT
    subst h
    rw [show refsB [78] = false from rfl] at HS
    clear hst ht hn hr
    go_enter Tryz.func62, Tryz.ntmps62
    go_wp2_with fail
    refine (HT.out _).mono ?_
    rintro e w1 ⟨rfl, rfl⟩
    go_wp2_with fail
    refine (HS.out _).mono ?_
    rintro e w1 ⟨rfl, rfl⟩
    go_wp2_with fail
    go_ret
    exact ⟨rfl, Below.refl _ _⟩
  · have h78 : (s == [78]) = false := by rw [beq_eq_false_iff_ne]; exact h
    clear hst ht hn h
    cases h1 : refsB s with
    | false =>
      rw [h1] at HS
      clear h1 hr
      go_enter Tryz.func62, Tryz.ntmps62
      go_wp2_with fail
      refine (HS.out _).mono ?_
      rintro e w1 ⟨rfl, rfl⟩
      go_wp2_with fail
      go_ret
      exact ⟨rfl, Below.refl _ _⟩
    | true =>
      rw [h1, Bool.true_and] at hr
      rw [h1] at HS
      rw [hr] at HT
      clear h1 hr
      go_enter Tryz.func62, Tryz.ntmps62
      go_wp2_with fail
      refine (HS.out _).mono ?_
      rintro e w1 ⟨rfl, rfl⟩
      go_wp2_with fail
      refine (HT.out _).mono ?_
      rintro e w1 ⟨rfl, rfl⟩
      go_wp2_with fail
      go_ret
      exact ⟨rfl, Below.refl _ _⟩

theorem refs_thing (x : Nm) : refsB (thing x) = true := rfl
theorem refs_arr (r : Nm) : refsB (91 :: r) = true := rfl
theorem thing_inj {x y : Nm} (h : thing x = thing y) : x = y := by unfold thing at h; simpa using h
theorem thing_cons (x : Nm) : ∃ r, thing x = 76 :: r ∧ r ≠ [] := ⟨x ++ [59], rfl, by simp⟩

set_option maxRecDepth 100000 in
set_option maxHeartbeats 2000000 in
theorem does_LL (l : List ClassR) (L : List CP) (b : Nat) (x y : Nm) (w : World) (hW : WOk w b l L) (hxy : x ≠ y) (hx : x.length ≤ 1048576) (hy : y.length ≤ 1048576) :
    DoesAt b (thing x) (thing y) ((every (wl l) x).contains y) w := by
  have HX := Lib.hid (refs_calls (thing x))
  have HY := Lib.hid (refs_calls (thing y))
  rw [refs_thing] at HX HY
  have HCX := Lib.hid (fun w => show Calls Tryz.prog 56 #[.string ⟨⟨thing x⟩⟩] w _ from class_calls 0 (.cls x) hx w)
  have HCY := Lib.hid (fun w => show Calls Tryz.prog 56 #[.string ⟨⟨thing y⟩⟩] w _ from class_calls 0 (.cls y) hy w)
  simp only [Bse.cl] at HCX HCY
  have HEV := Lib.hid (every_w hW x hx)
  have h50 := every_le50 hW.good x
  have h84 : (thing y == [84]) = false := by rw [beq_eq_false_iff_ne]; simp [thing]
  have h78 : (thing x == [78]) = false := by rw [beq_eq_false_iff_ne]; simp [thing]
  have hst : (thing x == thing y) = false := by rw [beq_eq_false_iff_ne]; exact fun h => hxy (thing_inj h)
  clear hW hxy
  obtain ⟨rx, hrx, hrx0⟩ := thing_cons x
  obtain ⟨ry, hry, hry0⟩ := thing_cons y
  generalize every (wl l) x = ev at *
  unfold DoesAt
  rw [hrx] at HX HCX h78 hst
  rw [hry] at HY HCY h84 hst
  rw [hrx, hry]
  clear hrx hry
  go_enter Tryz.func62, Tryz.ntmps62
  go_wp2_with fail
  refine (HX.out _).mono ?_
  rintro e w1 ⟨rfl, rfl⟩
  go_wp2_with fail
  refine (HY.out _).mono ?_
  rintro e w1 ⟨rfl, rfl⟩
  go_wp2_with fail
  refine (HCX.out _).mono ?_
  rintro e w1 ⟨rfl, rfl⟩
  go_wp2_with fail
  refine HEV.out.mono ?_
  rintro e w2 ⟨⟨v, rfl, ho⟩, hb2⟩
  obtain ⟨a2, c2, rfl, hr2⟩ := srow_of_own ho
  have HB2 := Lib.hid hb2
  have HCT := Lib.hid (contains_str ev a2 ev.length c2 y w2 hr2 rfl (by omega))
  clear ho hb2 hr2
  go_wp2_with fail
  refine (HCY.out _).mono ?_
  rintro e w1 ⟨rfl, rfl⟩
  go_wp2_with fail
  refine HCT.out.mono ?_
  rintro e w1 ⟨rfl, rfl⟩
  go_wp2_with fail
  go_ret
  exact ⟨ret_bool (by simp), HB2.out⟩

set_option maxRecDepth 100000 in
set_option maxHeartbeats 2000000 in
theorem does_LA (b : Nat) (x r : Nm) (w : World) : DoesAt b (thing x) (91 :: r) false w := by
  have HX := Lib.hid (refs_calls (thing x))
  have HY := Lib.hid (refs_calls (91 :: r))
  rw [refs_thing] at HX
  rw [refs_arr] at HY
  have h84 : ((91 :: r : Nm) == [84]) = false := by rw [beq_eq_false_iff_ne]; simp
  have h78 : (thing x == [78]) = false := by rw [beq_eq_false_iff_ne]; simp [thing]
  have hst : (thing x == 91 :: r) = false := by rw [beq_eq_false_iff_ne]; simp [thing]
  obtain ⟨rx, hrx, _⟩ := thing_cons x
  unfold DoesAt
  rw [hrx] at HX h78 hst
  rw [hrx]
  clear hrx
  go_enter Tryz.func62, Tryz.ntmps62
  go_wp2_with fail
  refine (HX.out _).mono ?_
  rintro e w1 ⟨rfl, rfl⟩
  go_wp2_with fail
  refine (HY.out _).mono ?_
  rintro e w1 ⟨rfl, rfl⟩
  go_wp2_with fail
  go_ret
  exact ⟨rfl, Below.refl _ _⟩

set_option maxRecDepth 100000 in
set_option maxHeartbeats 2000000 in
theorem does_AL (b : Nat) (y r : Nm) (w : World) : DoesAt b (91 :: r) (thing y) (thing y == thing objN) w := by
  have HX := Lib.hid (refs_calls (91 :: r))
  have HY := Lib.hid (refs_calls (thing y))
  rw [refs_thing] at HY
  rw [refs_arr] at HX
  have HTH := Lib.hid (fun w => thing_calls objN (by decide) w)
  have h84 : (thing y == [84]) = false := by rw [beq_eq_false_iff_ne]; simp [thing]
  have h78 : ((91 :: r : Nm) == [78]) = false := by rw [beq_eq_false_iff_ne]; simp
  have hst : ((91 :: r : Nm) == thing y) = false := by rw [beq_eq_false_iff_ne]; simp [thing]
  obtain ⟨ry, hry, _⟩ := thing_cons y
  unfold DoesAt
  rw [hry] at HY h84 hst
  rw [hry]
  clear hry
  generalize hq : (76 :: ry == thing objN) = q at *
  have HQ := Lib.hid hq
  clear hq
  unfold objN at HTH
  go_enter Tryz.func62, Tryz.ntmps62
  go_wp2_with fail
  refine (HX.out _).mono ?_
  rintro e w1 ⟨rfl, rfl⟩
  go_wp2_with fail
  refine (HY.out _).mono ?_
  rintro e w1 ⟨rfl, rfl⟩
  go_wp2_with fail
  refine (HTH.out _).mono ?_
  rintro e w1 ⟨rfl, rfl⟩
  go_wp2_with fail
  go_ret
  refine ⟨?_, Below.refl _ _⟩
  rw [← HQ.out]
  rfl

set_option maxRecDepth 100000 in
set_option maxHeartbeats 2000000 in
theorem does_AA (b : Nat) (r q : Nm) (z : Bool) (w : World) (hrq : r ≠ q) (hl : r.length ≤ 1048576) (hl2 : q.length ≤ 1048576) (h : (refsB r && refsB q) = true → ∀ W, Below w.heap.size w W → DoesAt b r q z W) : DoesAt b (91 :: r) (91 :: q) (refsB r && refsB q && z) w := by
  have HX := Lib.hid (refs_calls (91 :: r))
  have HY := Lib.hid (refs_calls (91 :: q))
  rw [refs_arr] at HX HY
  have HR := Lib.hid (refs_calls r)
  have HQ := Lib.hid (refs_calls q)
  have h84 : ((91 :: q : Nm) == [84]) = false := by rw [beq_eq_false_iff_ne]; simp
  have h78 : ((91 :: r : Nm) == [78]) = false := by rw [beq_eq_false_iff_ne]; simp
  have hst : (r == q) = false := by rw [beq_eq_false_iff_ne]; exact hrq
  clear hrq
  unfold DoesAt
  have HH := Lib.hid h
  clear h
  generalize refsB r = rr at *
  generalize refsB q = qq at *
  cases rr with
  | false =>
    go_enter Tryz.func62, Tryz.ntmps62
    go_wp2_with fail
    refine (HX.out _).mono ?_
    rintro e w1 ⟨rfl, rfl⟩
    go_wp2_with fail
    refine (HY.out _).mono ?_
    rintro e w1 ⟨rfl, rfl⟩
    go_wp2_with fail
    go_quiet (fail)
    go_wp2_with fail
    refine (HR.out _).mono ?_
    rintro e w1 ⟨rfl, rfl⟩
    go_wp2_with fail
    go_ret
    exact ⟨ret_bool (by simp), below_dn (Below.refl _ _) _⟩
  | true =>
    cases qq with
    | false =>
      go_enter Tryz.func62, Tryz.ntmps62
      go_wp2_with fail
      refine (HX.out _).mono ?_
      rintro e w1 ⟨rfl, rfl⟩
      go_wp2_with fail
      refine (HY.out _).mono ?_
      rintro e w1 ⟨rfl, rfl⟩
      go_wp2_with fail
      go_quiet (fail)
      go_wp2_with fail
      refine (HR.out _).mono ?_
      rintro e w1 ⟨rfl, rfl⟩
      go_wp2_with fail
      refine (HQ.out _).mono ?_
      rintro e w1 ⟨rfl, rfl⟩
      go_wp2_with fail
      go_ret
      exact ⟨ret_bool (by simp), below_dn (Below.refl _ _) _⟩
    | true =>
      have HD := Lib.hid (fun W hW => HH.out rfl W hW)
      unfold DoesAt at HD
      clear HH
      go_enter Tryz.func62, Tryz.ntmps62
      go_wp2_with fail
      refine (HX.out _).mono ?_
      rintro e w1 ⟨rfl, rfl⟩
      go_wp2_with fail
      refine (HY.out _).mono ?_
      rintro e w1 ⟨rfl, rfl⟩
      go_wp2_with fail
      go_quiet (fail)
      go_wp2_with fail
      refine (HR.out _).mono ?_
      rintro e w1 ⟨rfl, rfl⟩
      go_wp2_with fail
      refine (HQ.out _).mono ?_
      rintro e w1 ⟨rfl, rfl⟩
      go_wp2_with fail
      refine (HD.out _ (below_dn (Below.refl _ _) _)).mono ?_
      rintro e w3 ⟨rfl, hb3⟩
      have HB3 := Lib.hid (bl_trans (below_dn (Below.refl w.heap.size w) _) hb3)
      clear hb3
      go_wp2_with fail
      go_ret
      exact ⟨ret_bool (by simp), HB3.out⟩

/-- the text of an arr's element -/
theorem ty_len {L : List ClassR} {d : Nat} {b : Bse} (hd : d ≤ 3) (hb : b.Ok L) : (Kd.ty d b).text.length ≤ 25 := by
  cases b with
  | int => simp [Kd.text, Bse.text]; omega
  | long => simp [Kd.text, Bse.text]; omega
  | cls n => have := (name_len hb.1).2; simp [Kd.text, Bse.text]; omega
theorem ty_len2 {d : Nat} {b : Bse} (hd : d ≤ 3) (hb : b.cl.length ≤ 20) : (Kd.ty d b).text.length ≤ 25 := by
  cases b with
  | int => simp [Kd.text, Bse.text]; omega
  | long => simp [Kd.text, Bse.text]; omega
  | cls n => simp [Bse.cl] at hb; simp [Kd.text, Bse.text]; omega
theorem cl_len {L : List ClassR} {b : Bse} (hb : b.Ok L) : b.cl.length ≤ 20 := by
  cases b with
  | int => simp [Bse.cl]
  | long => simp [Bse.cl]
  | cls n => exact (name_len hb.1).2
theorem ty_ne_top (d : Nat) (b : Bse) : (Kd.ty d b).text ≠ [84] := fun h => ty_nt d b (Or.inr h)
theorem ty_ne_nul (d : Nat) (b : Bse) : (Kd.ty d b).text ≠ [78] := fun h => ty_nt d b (Or.inl h)
theorem refs_ty (d : Nat) (b : Bse) : refsB (Kd.ty d b).text = (Kd.ty d b).refs := refs_text _

theorem does_ty (l : List ClassR) (L : List CP) (m : Nat) {b b' : Bse} (hb : b.cl.length ≤ 20) (hb' : b'.cl.length ≤ 20) : ∀ (d d' : Nat), d ≤ 3 → d' ≤ 3 → ∀ w, WOk w m l L → DoesAt m (Kd.ty d b).text (Kd.ty d' b').text (doesT (wl l) d b d' b') w
  | 0, 0, _, _, w, hW => by
    by_cases e : b = b'
    · subst e
      have : doesT (wl l) 0 b 0 b = true := by simp [doesT]
      rw [this]
      exact does_same m _ w
    · have hne : (Kd.ty 0 b).text ≠ (Kd.ty 0 b').text := fun h => e (ty_inj h).2
      cases hr : (b.isRef && b'.isRef) with
      | false =>
        have : doesT (wl l) 0 b 0 b' = false := by unfold doesT; rw [hr]; simp [e]
        rw [this]
        exact does_no m _ _ hne (ty_ne_top _ _) (by rw [refs_ty, refs_ty]; exact hr) (fun h => absurd h (ty_ne_nul _ _)) w
      | true =>
        cases b with
        | int => cases hr
        | long => cases hr
        | cls x =>
          cases b' with
          | int => cases hr
          | long => cases hr
          | cls y =>
            have hxy : x ≠ y := fun h => e (by rw [h])
            have : doesT (wl l) 0 (.cls x) 0 (.cls y) = (every (wl l) x).contains y := by simp [doesT, Bse.isRef, Bse.cl, hxy]
            rw [this]
            exact does_LL l L m x y w hW hxy (by simp [Bse.cl] at hb; omega) (by simp [Bse.cl] at hb'; omega)
  | d + 1, 0, hd, _, w, hW => by
    have hne : (Kd.ty (d + 1) b).text ≠ (Kd.ty 0 b').text := fun h => by have := (ty_inj h).1; omega
    cases b' with
    | int =>
      have : doesT (wl l) (d + 1) b 0 .int = false := by simp [doesT]
      rw [this]
      exact does_no m _ _ hne (ty_ne_top _ _) (by rw [refs_ty, refs_ty]; rfl) (fun h => absurd h (ty_ne_nul _ _)) w
    | long =>
      have : doesT (wl l) (d + 1) b 0 .long = false := by simp [doesT]
      rw [this]
      exact does_no m _ _ hne (ty_ne_top _ _) (by rw [refs_ty, refs_ty]; rfl) (fun h => absurd h (ty_ne_nul _ _)) w
    | cls y =>
      have h1 := does_AL m y (Kd.ty d b).text w
      have : doesT (wl l) (d + 1) b 0 (.cls y) = (thing y == thing objN) := by
        unfold doesT
        rw [Bool.eq_iff_iff]
        simp only [decide_eq_true_eq, beq_iff_eq, Bse.cls.injEq]
        exact ⟨fun h => by rw [h], fun h => thing_inj h⟩
      rw [this]
      exact h1
  | 0, d' + 1, _, hd', w, hW => by
    have hne : (Kd.ty 0 b).text ≠ (Kd.ty (d' + 1) b').text := fun h => by have := (ty_inj h).1; omega
    have h0 : doesT (wl l) 0 b (d' + 1) b' = false := by unfold doesT; rfl
    rw [h0]
    cases b with
    | int => exact does_no m _ _ hne (ty_ne_top _ _) (by rw [refs_ty, refs_ty]; rfl) (fun h => absurd h (ty_ne_nul _ _)) w
    | long => exact does_no m _ _ hne (ty_ne_top _ _) (by rw [refs_ty, refs_ty]; rfl) (fun h => absurd h (ty_ne_nul _ _)) w
    | cls x => exact does_LA m x (Kd.ty d' b').text w
  | d + 1, d' + 1, hd, hd', w, hW => by
    by_cases e : d = d' ∧ b = b'
    · obtain ⟨rfl, rfl⟩ := e
      have : doesT (wl l) (d + 1) b (d + 1) b = true := by unfold doesT; simp
      rw [this]
      exact does_same m _ w
    · have hne : (Kd.ty d b).text ≠ (Kd.ty d' b').text := fun h => e (ty_inj h)
      have h := does_AA m (Kd.ty d b).text (Kd.ty d' b').text (doesT (wl l) d b d' b') w hne (by have := ty_len2 (d := d) (by omega) hb; omega) (by have := ty_len2 (d := d') (by omega) hb'; omega)
        (fun _ W hWW => does_ty l L m hb hb' d d' (by omega) (by omega) W (hW.below hWW))
      have : doesT (wl l) (d + 1) b (d' + 1) b' = (refsB (Kd.ty d b).text && refsB (Kd.ty d' b').text && doesT (wl l) d b d' b') := by
        rw [refs_ty, refs_ty]
        conv => lhs; unfold doesT
        simp [e]
      rw [this]
      exact h
theorem does_calls (l : List ClassR) (L : List CP) (m : Nat) {a b : Kd} (ha : a.Ok (wl l)) (hb : b.Ok (wl l)) (w : World) (hW : WOk w m l L) : DoesAt m a.text b.text (doesK (wl l) a b) w := by
  cases b with
  | top => have : doesK (wl l) a .top = true := by cases a <;> rfl
           rw [this]; exact does_top m _ w
  | nul =>
    cases a with
    | nul => exact does_same m _ w
    | top => exact does_no m _ _ (by simp [Kd.text]) (by simp [Kd.text]) rfl (fun h => by simp [Kd.text] at h) w
    | ty d x => exact does_no m _ _ (ty_ne_nul d x) (by simp [Kd.text]) (by show (refsB _ && false) = false; rw [Bool.and_false]) (fun h => absurd h (ty_ne_nul d x)) w
  | ty d' y =>
    cases a with
    | nul =>
      show DoesAt m [78] _ ((Kd.ty d' y).refs) w
      cases hr : (Kd.ty d' y).refs with
      | true => exact does_nul m _ (by rw [refs_ty]; exact hr) w
      | false => exact does_no m _ _ (fun h => ty_ne_nul d' y h.symm) (ty_ne_top _ _) (by rw [show refsB [78] = false from rfl, Bool.false_and]) (fun _ => by rw [refs_ty]; exact hr) w
    | top => exact does_no m _ _ (fun h => ty_ne_top d' y h.symm) (ty_ne_top _ _) rfl (fun h => by simp [Kd.text] at h) w
    | ty d x => exact does_ty l L m (cl_len ha.2) (cl_len hb.2) d d' ha.1 hb.1 w hW
end Go.Proofs.YtanjggdmgeedlaaGreatDoor
