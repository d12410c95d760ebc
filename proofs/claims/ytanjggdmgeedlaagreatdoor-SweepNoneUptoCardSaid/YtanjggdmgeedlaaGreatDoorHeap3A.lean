/-
  The walk of heap.formed at an array: exact.
-/
import Derived.Test.YtanjggdmgeedlaaGreatDoorHeap3
import Derived.BigQuiet
import Derived.Deep.QuietTactic
namespace Go.Proofs.YtanjggdmgeedlaaGreatDoor
set_option linter.unusedVariables false
set_option linter.unusedSimpArgs false
open Go.RowKit Go.Shelf Go.Lib

set_option maxRecDepth 100000 in
set_option maxHeartbeats 8000000 in
theorem formed_A8 (l : List ClassR) (L : List CP) (b : Nat) (x : ThingR) (p : HA) (r : Nm) (w : World) (hW : WOk w b l L) (h : TypeOk x.ty) (hn : numB x.ty = false) (hz : kindErr (wl l) x.ty = 0) (hty : x.ty = 91 :: r) (h10 : 10 < x.has.length) : FormedAt b x p 8 w := by
  have HC := Lib.hid (fun w => check_ok x.ty h w)
  have HN := Lib.hid (fun w => number_calls x.ty w)
  rw [hn] at HN
  have HX := Lib.hid (show BoxT (w.alloc (.cells #[.string ⟨⟨x.ty⟩⟩, .slice p.1 x.has.length p.2] 33)) w.heap.size x p from blk_new _ _ _ _ rfl)
  have HB1 := Lib.hid (fun o => bl_alloc (Below.refl w.heap.size w) o)
  have HK := Lib.hid (fun w' (hw : Below w.heap.size w w') => kind_calls l L b x.ty w' (hW.below hw) (by have := dt_len (dt_ok h); omega))
  rw [hz, errOf_zero] at HK
  unfold FormedAt
  unfold BoxT at HX
  clear h hn hW hz
  rw [hty] at HC HN HK HX ⊢
  clear hty
  generalize x.has.length = m at *
  have q1 : (10 : Int) < (m : Int) := by omega
  go_enter Tryz.func103, Tryz.ntmps103
  go_wp2_with fail
  refine (HC.out _).mono ?_
  rintro e w1 ⟨rfl, hb1⟩
  have HB2 := Lib.hid (bl_trans (HB1.out _) hb1)
  have e0 := (HX.out.below hb1).cell 0
  have e1 := (HX.out.below hb1).cell 1
  have HX1 := Lib.hid (HX.out.below hb1)
  clear hb1
  go_wp2_with fail
  refine (HN.out _).mono ?_
  rintro e w1 ⟨rfl, rfl⟩
  go_wp2_with fail
  refine (HK.out _ HB2.out).mono ?_
  rintro e w3 ⟨rfl, hb3⟩
  have HB3 := Lib.hid (bl_trans HB2.out hb3)
  have HX3 := Lib.hid (HX1.out.below hb3)
  have f0 := HX3.out.cell 0
  have f1 := HX3.out.cell 1
  clear hb3 e0 e1 HX HX1 HK HN HC
  go_wp2_with fail
  go_quiet (fail)
  go_wp2_with fail
  go_ret
  exact ⟨rfl, below_dn HB3.out _⟩

set_option maxRecDepth 100000 in
set_option maxHeartbeats 8000000 in
theorem formed_A (l : List ClassR) (L : List CP) (b : Nat) (x : ThingR) (p : HA) (r : Nm) (w : World) (hW : WOk w b l L) (h : TypeOk x.ty) (hn : numB x.ty = false) (hz : kindErr (wl l) x.ty = 0) (hT : TyA (wl l) x r) : FormedAt b x p 0 w := by
  have HC := Lib.hid (fun w => check_ok x.ty h w)
  have HN := Lib.hid (fun w => number_calls x.ty w)
  rw [hn] at HN
  have HX := Lib.hid (show BoxT (w.alloc (.cells #[.string ⟨⟨x.ty⟩⟩, .slice p.1 x.has.length p.2] 33)) w.heap.size x p from blk_new _ _ _ _ rfl)
  have HB1 := Lib.hid (fun o => bl_alloc (Below.refl w.heap.size w) o)
  have HK := Lib.hid (fun w' (hw : Below w.heap.size w w') => kind_calls l L b x.ty w' (hW.below hw) (by have := dt_len (dt_ok h); omega))
  rw [hz, errOf_zero] at HK
  unfold FormedAt
  unfold BoxT at HX
  have HT := Lib.hid (fun w' (hw : Below w.heap.size w w') => htypes_calls l L b x p w' (hW.below hw) (Or.inr ⟨r, hT⟩))
  have hty := hT.1
  have h10 := hT.2.1
  rw [typesH_A hT] at HT
  clear h hn hW hz hT
  rw [hty] at HC HN HK HX HT ⊢
  clear hty
  generalize x.has.length = m at *
  obtain ⟨T, hTe⟩ : ∃ T, T = List.replicate m r := ⟨_, rfl⟩
  rw [← hTe] at HT
  obtain rfl : T.length = m := by rw [hTe, List.length_replicate]
  clear hTe
  have q1 : decide ((10 : Int) < (T.length : Int)) = false := decide_eq_false (by omega)
  clear h10
  go_enter Tryz.func103, Tryz.ntmps103
  go_wp2_with fail
  refine (HC.out _).mono ?_
  rintro e w1 ⟨rfl, hb1⟩
  have HB2 := Lib.hid (bl_trans (HB1.out _) hb1)
  have e0 := (HX.out.below hb1).cell 0
  have e1 := (HX.out.below hb1).cell 1
  have HX1 := Lib.hid (HX.out.below hb1)
  clear hb1
  go_wp2_with fail
  refine (HN.out _).mono ?_
  rintro e w1 ⟨rfl, rfl⟩
  go_wp2_with fail
  refine (HK.out _ HB2.out).mono ?_
  rintro e w3 ⟨rfl, hb3⟩
  have HB3 := Lib.hid (bl_trans HB2.out hb3)
  have HX3 := Lib.hid (HX1.out.below hb3)
  have f0 := HX3.out.cell 0
  have f1 := HX3.out.cell 1
  clear hb3 e0 e1 HX HX1 HK HN HC
  go_upto_region 8 with fail
  have HS1 := Lib.hid (fun W' (hb : Below w3.heap.size w3 W') => (show W'.cell? ⟨w.heap.size, 0, none⟩ = some (.string ⟨⟨91 :: r⟩⟩) ∧ W'.cell? ⟨w.heap.size, 1, none⟩ = some (.slice p.1 T.length p.2) from ⟨(HX3.out.below hb).cell 0, (HX3.out.below hb).cell 1⟩))
  have hb0 := Below.refl w3.heap.size w3
  clear f0 f1 HX3
  go_cut [55] (fun s55 wx => s55 = .bool false ∧ Below w3.heap.size w3 wx)
  case first =>
    obtain ⟨f0, f1⟩ := HS1.out _ hb0
    first
      | (go_region_with (go_at_call 57; refine (HT.out _ (Below.drew HB3.out)).mono ?_; rintro e w5 ⟨hb2c, a5, c5, rfl, hr5⟩; have hb2 : Below w3.heap.size w3 w5 := (Below.drew hb0).trans hb2c; obtain ⟨g0, g1⟩ := HS1.out _ hb2))
      | fail
    all_goals
      go_wp2_with fail
      go_meet
      exact ⟨by simp, hb2⟩
  case rest =>
    obtain ⟨rfl, hb2⟩ := hcut
    have HB4 := Lib.hid (bl_trans HB3.out hb2)
    clear hb2
    go_wp2_with fail
    go_ret
    exact ⟨rfl, HB4.out⟩

theorem formed_calls (l : List ClassR) (L : List CP) (b : Nat) (x : ThingR) (p : HA) (w : World) (hW : WOk w b l L) (hB : ThB x) : FormedAt b x p (formErr (wl l) x) w := by
  by_cases hT : TypeOk x.ty
  · cases hn : numB x.ty with
    | true =>
      have : formErr (wl l) x = 1 := by unfold formErr; rw [if_pos (Or.inr hn)]
      rw [this]
      exact formed_num b x p w hT hn
    | false =>
      have h1 : ¬ (¬ TypeOk x.ty ∨ numB x.ty = true) := by rintro (h | h); exact h hT; rw [hn] at h; cases h
      by_cases hz : kindErr (wl l) x.ty = 0
      · have hE : formErr (wl l) x = if x.ty.head? = some 76 ∧ (look (wl l) (clsOf x.ty)).elim false (·.face) = true then 7 else if (x.ty.head? = some 91 ∧ 10 < x.has.length) ∨ (typesH (wl l) x).length ≠ x.has.length then 8 else 0 := by
          unfold formErr; rw [if_neg h1, if_neg (by simpa using hz)]
        obtain ⟨k, hk, e⟩ := kind_zero.1 hz
        obtain ⟨d, bs, e2, _⟩ := type_kd.1 hT
        have := text_inj (e.symm.trans e2)
        subst this
        cases d with
        | zero =>
          cases bs with
          | int => rw [e] at hn; cases hn
          | long => rw [e] at hn; cases hn
          | cls n =>
            have hL : TyL (wl l) x n := ⟨by rw [e]; rfl, hk.2.1, hk.2.2⟩
            have hc : clsOf x.ty = n := by rw [e]; exact clsOf_thing n
            have hh : x.ty.head? = some 76 := by rw [e]; rfl
            rw [hE, hc]
            cases hf : (look (wl l) n).elim false (·.face) with
            | true =>
              rw [if_pos ⟨hh, rfl⟩]
              exact formed_face l L b x p n w hW hT hn hz hL hf
            | false =>
              rw [if_neg (by simp)]
              have h2 := formed_L l L b x p n ((typesH (wl l) x).length != x.has.length) w hW hT hn hz hL hf rfl (by rw [typesH_L hL]; unfold typesF; rw [List.length_map]; have := slotsF_len hW.good n; omega) hB.2.1
              have h3 : (if ((typesH (wl l) x).length != x.has.length) = true then (8 : Int) else 0) = if (x.ty.head? = some 91 ∧ 10 < x.has.length) ∨ (typesH (wl l) x).length ≠ x.has.length then 8 else 0 := by
                rw [hh]
                simp
              rw [← h3]
              exact h2
        | succ d =>
          have e' : x.ty = 91 :: (Kd.ty d bs).text := by rw [e]; rfl
          have hh : x.ty.head? = some 91 := by rw [e']; rfl
          rw [hE, if_neg (by rw [hh]; simp)]
          by_cases h10 : 10 < x.has.length
          · rw [if_pos (Or.inl ⟨hh, h10⟩)]
            exact formed_A8 l L b x p _ w hW hT hn hz e' h10
          · have hA : TyA (wl l) x (Kd.ty d bs).text := ⟨e', by omega, ⟨d, bs, rfl, by have := hk.1; omega, cl_len hk.2⟩⟩
            rw [if_neg]
            · exact formed_A l L b x p _ w hW hT hn hz hA
            · rintro (⟨_, h⟩ | h)
              · exact h10 h
              · exact h (by rw [typesH_A hA, List.length_replicate])
      · have : formErr (wl l) x = kindErr (wl l) x.ty := by unfold formErr; rw [if_neg h1, if_pos hz]
        rw [this]
        exact formed_none l L b x p w hW hT hn hz
  · have : formErr (wl l) x = 1 := by unfold formErr; rw [if_pos (Or.inl hT)]
    rw [this]
    exact formed_bad b x p w hB.1 hT
end Go.Proofs.YtanjggdmgeedlaaGreatDoor
