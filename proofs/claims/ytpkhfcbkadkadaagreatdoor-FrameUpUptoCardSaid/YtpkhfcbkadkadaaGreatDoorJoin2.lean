/-
  The walk of join.Of at right kinds, of join.Join.
-/
import Derived.Test.YtpkhfcbkadkadaaGreatDoorJoin1
namespace Go.Proofs.YtpkhfcbkadkadaaGreatDoor
set_option linter.unusedVariables false
set_option linter.unusedSimpArgs false
open Go.RowKit Go.Shelf Go.Lib

theorem joinC_len {l : List ClassR} (hg : Good l) {x y : Nm} (hx : x ∈ names l) (hy : y ∈ names l) : (joinC (wl l) x y).length ≤ 1048576 := by
  have := good_names20 hg (joinC_names hg hx hy)
  omega

theorem of_ty (l : List ClassR) (L : List CP) (m : Nat) {b b' : Bse} (hb : b.Ok (wl l)) (hb' : b'.Ok (wl l)) : ∀ (d d' : Nat), d ≤ 3 → d' ≤ 3 → ∀ w, WOk w m l L → OfAt m (Kd.ty d b).text (Kd.ty d' b').text (joinT (wl l) d b d' b').text w
  | 0, 0, _, _, w, hW => by
    by_cases e : b = b'
    · subst e
      have : joinT (wl l) 0 b 0 b = .ty 0 b := by unfold joinT; rw [if_pos rfl]
      rw [this]
      exact of_same m _ w
    · have hne : (Kd.ty 0 b).text ≠ (Kd.ty 0 b').text := fun h => e (ty_inj h).2
      cases hr : (b.isRef && b'.isRef) with
      | false =>
        have : joinT (wl l) 0 b 0 b' = .top := by unfold joinT; rw [if_neg e, if_neg (by rw [hr]; simp)]
        rw [this]
        exact of_top m _ _ hne (by rw [refs_ty, refs_ty]; exact hr) (fun h => absurd h (ty_ne_nul _ _)) (fun h => absurd h (ty_ne_nul _ _)) w
      | true =>
        cases b with
        | int => cases hr
        | long => cases hr
        | cls x =>
          cases b' with
          | int => cases hr
          | long => cases hr
          | cls y =>
            have hxy : x ≠ y := fun h => e (by rw [h])
            have : joinT (wl l) 0 (.cls x) 0 (.cls y) = .ty 0 (.cls (joinC (wl l) x y)) := by unfold joinT; rw [if_neg e, if_pos hr]; rfl
            rw [this]
            exact of_LL l L m x y w hW hxy (by have := (name_len hb.1).2; omega) (by have := (name_len hb'.1).2; omega) (joinC_len hW.good (look_some.1 hb.2) (look_some.1 hb'.2))
  | d + 1, 0, hd, _, w, hW => by
    have hne : (Kd.ty (d + 1) b).text ≠ (Kd.ty 0 b').text := fun h => by have := (ty_inj h).1; omega
    cases b' with
    | int => exact of_top m _ _ hne (by rw [refs_ty, refs_ty]; rfl) (fun h => absurd h (ty_ne_nul _ _)) (fun h => absurd h (ty_ne_nul _ _)) w
    | long => exact of_top m _ _ hne (by rw [refs_ty, refs_ty]; rfl) (fun h => absurd h (ty_ne_nul _ _)) (fun h => absurd h (ty_ne_nul _ _)) w
    | cls y => exact of_AL m y (Kd.ty d b).text w
  | 0, d' + 1, _, hd', w, hW => by
    have hne : (Kd.ty 0 b).text ≠ (Kd.ty (d' + 1) b').text := fun h => by have := (ty_inj h).1; omega
    cases b with
    | int => exact of_top m _ _ hne (by rw [refs_ty, refs_ty]; rfl) (fun h => absurd h (ty_ne_nul _ _)) (fun h => absurd h (ty_ne_nul _ _)) w
    | long => exact of_top m _ _ hne (by rw [refs_ty, refs_ty]; rfl) (fun h => absurd h (ty_ne_nul _ _)) (fun h => absurd h (ty_ne_nul _ _)) w
    | cls x => exact of_LA m x (Kd.ty d' b').text w
  | d + 1, d' + 1, hd, hd', w, hW => by
    by_cases e : d = d' ∧ b = b'
    · obtain ⟨rfl, rfl⟩ := e
      rw [joinT_self]
      exact of_same m _ w
    · have hne : (Kd.ty d b).text ≠ (Kd.ty d' b').text := fun h => e (ty_inj h)
      have l1 := ty_len (L := wl l) (d := d) (by omega) hb
      have l2 := ty_len (L := wl l) (d := d') (by omega) hb'
      cases hr : ((Kd.ty d b).refs && (Kd.ty d' b').refs) with
      | true =>
        have hr' := hr
        simp only [Bool.and_eq_true] at hr'
        obtain ⟨e', c, h1, h2, h3, _⟩ := joinT_ref hW.good hb hb' d d' hr'.1 hr'.2
        have : joinT (wl l) (d + 1) b (d' + 1) b' = .ty (e' + 1) c := by
          conv => lhs; unfold joinT
          rw [if_neg e, if_pos hr, h1]; rfl
        rw [this]
        have l3 := ty_len (L := wl l) (d := e') (by omega) h3
        refine of_AAyes m (Kd.ty d b).text (Kd.ty d' b').text (Kd.ty e' c).text w hne (by omega) (by omega) (by omega) (by rw [refs_ty]; exact hr'.1) (by rw [refs_ty]; exact hr'.2) (fun W hWW => ?_)
        have ih := of_ty l L m hb hb' d d' (by omega) (by omega) W (hW.below hWW)
        rw [h1] at ih
        exact ih
      | false =>
        have : joinT (wl l) (d + 1) b (d' + 1) b' = .ty 0 (.cls objN) := by
          conv => lhs; unfold joinT
          rw [if_neg e, if_neg (by rw [hr]; simp)]
        rw [this]
        exact of_AAno m (Kd.ty d b).text (Kd.ty d' b').text w hne (by omega) (by omega) (by rw [refs_ty, refs_ty]; exact hr)

theorem of_calls (l : List ClassR) (L : List CP) (m : Nat) {a b : Kd} (ha : a.Ok (wl l)) (hb : b.Ok (wl l)) (w : World) (hW : WOk w m l L) : OfAt m a.text b.text (joinK (wl l) a b).text w := by
  cases a with
  | nul =>
    cases b with
    | nul => exact of_same m _ w
    | top => exact of_top m _ _ (by simp [Kd.text]) rfl (fun _ => rfl) (fun h => by simp [Kd.text] at h) w
    | ty d y =>
      have e : joinK (wl l) .nul (.ty d y) = if (Kd.ty d y).refs = true then .ty d y else .top := rfl
      rw [e]
      cases hr : (Kd.ty d y).refs with
      | true => rw [if_pos rfl]; exact of_nulL m _ (by rw [refs_ty]; exact hr) w
      | false => rw [if_neg (by simp)]; exact of_top m _ _ (fun h => ty_ne_nul d y h.symm) (by show (false && _) = false; rw [Bool.false_and]) (fun _ => by rw [refs_ty]; exact hr) (fun h => absurd h (ty_ne_nul _ _)) w
  | top =>
    cases b with
    | nul => exact of_top m _ _ (by simp [Kd.text]) rfl (fun h => by simp [Kd.text] at h) (fun _ => rfl) w
    | top => exact of_same m _ w
    | ty d y => exact of_top m _ _ (fun h => ty_ne_top d y h.symm) (by show (false && _) = false; rw [Bool.false_and]) (fun h => by simp [Kd.text] at h) (fun h => absurd h (ty_ne_nul _ _)) w
  | ty d x =>
    cases b with
    | nul =>
      have e : joinK (wl l) (.ty d x) .nul = if (Kd.ty d x).refs = true then .ty d x else .top := rfl
      rw [e]
      cases hr : (Kd.ty d x).refs with
      | true => rw [if_pos rfl]; exact of_nulR m _ (by rw [refs_ty]; exact hr) w
      | false => rw [if_neg (by simp)]; exact of_top m _ _ (ty_ne_nul d x) (by show (_ && false) = false; rw [Bool.and_false]) (fun h => absurd h (ty_ne_nul _ _)) (fun _ => by rw [refs_ty]; exact hr) w
    | top => exact of_top m _ _ (ty_ne_top d x) (by show (_ && false) = false; rw [Bool.and_false]) (fun h => absurd h (ty_ne_nul _ _)) (fun h => by simp [Kd.text] at h) w
    | ty d' y => exact of_ty l L m ha.2 hb.2 d d' ha.1 hb.1 w hW

def JoinRes (err : Int) (r : Nm) (w : World) (e : Ending) (w' : World) : Prop :=
  Below w.heap.size w w' ∧ ((err ≠ 0 ∧ e = .returned (.tuple #[.string ⟨#[]⟩, errV err])) ∨ (err = 0 ∧ e = .returned (.tuple #[.string ⟨⟨r⟩⟩, .nilIface])))

set_option maxRecDepth 100000 in
set_option maxHeartbeats 1000000 in
theorem join_join_calls (l : List ClassR) (ps : List CAddr) (a : Option Addr) (cap : Nat) (s t : Nm) (w : World) (hC : ClassesAt w a cap l ps) (hF : FormsAt w) (hB : ClsOk l) (hs : s.length ≤ 8388608) (ht : t.length ≤ 8388608) (r : Nm)
    (hr : read2Err l s t = 0 → ∃ x y : Kd, s = x.text ∧ t = y.text ∧ x.Ok (wl l) ∧ y.Ok (wl l) ∧ (joinK (wl l) x y).text = r) :
    Calls Tryz.prog 21 #[.slice a l.length cap, .string ⟨⟨s⟩⟩, .string ⟨⟨t⟩⟩] w (JoinRes (read2Err l s t) r w) := by
  have HR := Lib.hid (read2_calls l ps a cap s t w hC hF hB hs ht)
  clear hC hF hB
  have HRR := Lib.hid hr
  clear hr
  go_enter Tryz.func21, Tryz.ntmps21
  go_wp2_with fail
  refine HR.out.mono ?_
  rintro e w2 ⟨hb2, ⟨hne, rfl⟩ | ⟨h0, b, rfl, hw⟩⟩
  · have HB2 := Lib.hid hb2
    have HNE := Lib.hid hne
    clear hb2
    generalize read2Err l s t = z at *
    clear hne
    go_wp2_with fail
    go_ret2
    exact ⟨HB2.out, Or.inl ⟨HNE.out, rfl⟩⟩
  · have HB2 := Lib.hid hb2
    have H0 := Lib.hid h0
    obtain ⟨x, y, rfl, rfl, hx, hy, rfl⟩ := HRR.out h0
    have HD := Lib.hid (of_calls l (wcp l ps) b hx hy w2 hw)
    unfold OfAt at HD
    clear hb2 h0 hw hx hy
    generalize read2Err l x.text y.text = z at *
    generalize (joinK (wl l) x y).text = r at *
    generalize x.text = s at *
    generalize y.text = t at *
    go_wp2_with fail
    refine HD.out.mono ?_
    rintro e w3 ⟨rfl, hb3⟩
    have HB3 := Lib.hid (bl_trans HB2.out hb3)
    clear hb3
    go_wp2_with fail
    go_ret2
    exact ⟨HB3.out, Or.inr ⟨H0.out, rfl⟩⟩
end Go.Proofs.YtpkhfcbkadkadaaGreatDoor
