/-
  The walks of hand.subs (the table of how many sub-handles a kind has) and of hand.leaf.
-/
import Derived.Test.YtkobgmacoakelaaDoorHand5
import Derived.Test.YtkobgmacoakelaaDoorIMap
namespace Go.Proofs.YtkobgmacoakelaaDoor
set_option linter.unusedVariables false
set_option linter.unusedSimpArgs false
open Go.RowKit Go.Shelf Go.Lib

def subF (z : Int) : Option Value := if 1 ≤ z ∧ z ≤ 7 then some (.int .i64 (nsubs z : Nat)) else none

theorem grown_one {w0 w w' : World} {b : Nat} (h : Below w0.heap.size w0 w) (hg : w.grownBy w' (some b)) (hb : w0.heap.size ≤ b) : Below w0.heap.size w0 w' :=
  h.grown hg h.size (fun k hk => by cases hk; exact hb)

set_option maxRecDepth 100000 in
set_option maxHeartbeats 2000000 in
theorem subs_calls (w : World) : Calls Tryd.prog 12 #[] w fun e w' => ∃ m, e = .returned (.map (some m)) ∧ IMap w' m 7 subF ∧ Below w.heap.size w w' := by
  have h0 := IMap.made w
  obtain ⟨w1, r1, h1, g1⟩ := h0.store (P := Tryd.prog) Tryd.underlying3 Tryd.underlying40 (z := 1) (by decide) (by simp [putf]) (.int .i64 0)
  obtain ⟨w2, r2, h2, g2⟩ := h1.store (P := Tryd.prog) Tryd.underlying3 Tryd.underlying40 (z := 2) (by decide) (by simp [putf]) (.int .i64 0)
  obtain ⟨w3, r3, h3, g3⟩ := h2.store (P := Tryd.prog) Tryd.underlying3 Tryd.underlying40 (z := 3) (by decide) (by simp [putf]) (.int .i64 0)
  obtain ⟨w4, r4, h4, g4⟩ := h3.store (P := Tryd.prog) Tryd.underlying3 Tryd.underlying40 (z := 4) (by decide) (by simp [putf]) (.int .i64 1)
  obtain ⟨w5, r5, h5, g5⟩ := h4.store (P := Tryd.prog) Tryd.underlying3 Tryd.underlying40 (z := 5) (by decide) (by simp [putf]) (.int .i64 2)
  obtain ⟨w6, r6, h6, g6⟩ := h5.store (P := Tryd.prog) Tryd.underlying3 Tryd.underlying40 (z := 6) (by decide) (by simp [putf]) (.int .i64 1)
  obtain ⟨w7, r7, h7, g7⟩ := h6.store (P := Tryd.prog) Tryd.underlying3 Tryd.underlying40 (z := 7) (by decide) (by simp [putf]) (.int .i64 2)
  have b0 : Below w.heap.size w (w.alloc (.map #[] 0)) := bl_alloc (Below.refl _ _) _
  have b1 := grown_one b0 g1 (Nat.le_refl _)
  have b2 := grown_one b1 g2 (Nat.le_refl _)
  have b3 := grown_one b2 g3 (Nat.le_refl _)
  have b4 := grown_one b3 g4 (Nat.le_refl _)
  have b5 := grown_one b4 g5 (Nat.le_refl _)
  have b6 := grown_one b5 g6 (Nat.le_refl _)
  have b7 := grown_one b6 g7 (Nat.le_refl _)
  have hf : IMap w7 w.heap.size 7 subF := h7.cong (by omega) (fun z => by
    unfold subF nsubs
    by_cases e1 : z = 1
    · subst e1; rfl
    by_cases e2 : z = 2
    · subst e2; rfl
    by_cases e3 : z = 3
    · subst e3; rfl
    by_cases e4 : z = 4
    · subst e4; rfl
    by_cases e5 : z = 5
    · subst e5; rfl
    by_cases e6 : z = 6
    · subst e6; rfl
    by_cases e7 : z = 7
    · subst e7; rfl
    rw [if_neg (by omega)]
    simp [putf, e1, e2, e3, e4, e5, e6, e7])
  have HF := Lib.hid hf
  have HB := Lib.hid b7
  have m1 := run_makeMap (P := Tryd.prog) 40
  clear h0 h1 h2 h3 h4 h5 h6 h7 g1 g2 g3 g4 g5 g6 g7 b0 b1 b2 b3 b4 b5 b6 b7 hf
  go_enter Tryd.func12, Tryd.ntmps12
  go_wp2_with fail
  go_ret
  exact ⟨_, rfl, HF.out, HB.out⟩

theorem number_calls (t : List UInt8) (w : World) : Calls Tryd.prog 27 #[.string ⟨⟨t⟩⟩] w fun e w' => e = .returned (.bool (numT t)) ∧ w = w' := by
  by_cases h1 : t = [73]
  · subst h1
    go_enter Tryd.func27, Tryd.ntmps27
    go_wp2_with fail
    go_ret
    exact ⟨rfl, rfl⟩
  · have q1 : (t == [73]) = false := by rw [beq_eq_false_iff_ne]; exact h1
    unfold numT
    rw [q1]
    clear h1
    go_enter Tryd.func27, Tryd.ntmps27
    go_wp2_with fail
    go_ret
    exact ⟨by simp, rfl⟩

theorem type_num {t : List UInt8} (h : t = [73] ∨ t = [74]) : TypeOk t := by
  refine ⟨[], t, rfl, by simp, by simp, ?_⟩
  rcases h with rfl | rfl
  · exact Or.inl rfl
  · exact Or.inr (Or.inl rfl)

theorem word_exact (a : Int) (w : World) : Calls Tryd.prog 28 #[.int .i64 a] w fun e w' => e = .returned (.int .i64 (wrap32 a)) ∧ w = w' := by
  go_enter Tryd.func28, Tryd.ntmps28
  go_wp2_with fail
  go_ret
  exact ⟨by simp [wrap32]; unfold wrap64; omega, rfl⟩

set_option maxRecDepth 100000 in
set_option maxHeartbeats 4000000 in
theorem leaf_not (k : Int) (t : List UInt8) (a : Int) (pa : Option Addr) (n pc : Nat) (sa : Option Addr) (m sc : Nat) (w : World) (h : numT t = false) :
    Calls Tryd.prog 13 #[.agg #[.int .i64 k, .string ⟨⟨t⟩⟩, .int .i64 a, .slice pa n pc, .slice sa m sc]] w (Exact w (leafF k t a)) := by
  have HN := Lib.hid (fun w => number_calls t w)
  have HR := Lib.hid (show leafF k t a = (1, []) by unfold leafF; rw [h]; rfl)
  rw [h] at HN
  have HB := Lib.hid (fun o => bl_alloc (Below.refl w.heap.size w) o)
  clear h
  go_enter Tryd.func13, Tryd.ntmps13
  go_wp2_with fail
  refine (HN.out _).mono ?_
  rintro e w1 ⟨rfl, rfl⟩
  go_wp2_with fail
  go_ret2
  exact ⟨by rw [HR.out]; rfl, HB.out _⟩

theorem srow_one (W : World) (t u : List UInt8) (g : Nat) (hg : g = W.heap.size) : SRow (W.alloc (.cells #[.string ⟨⟨t⟩⟩, .string ⟨⟨u⟩⟩] 9)) (some ⟨g, 0, none⟩) 2 [t] := by
  subst hg
  refine ⟨by simp, Or.inr ⟨_, 0, rfl, by simp, fun j x hx => ?_⟩⟩
  have hj : j < 1 := by simpa using (List.getElem?_eq_some_iff.1 hx).1
  obtain rfl : j = 0 := by omega
  rw [World.cell?_alloc_new]
  simp at hx
  subst hx
  rfl
theorem srow_two (W : World) (t u : List UInt8) (g : Nat) (hg : g = W.heap.size) : SRow (W.alloc (.cells #[.string ⟨⟨t⟩⟩, .string ⟨⟨u⟩⟩] 9)) (some ⟨g, 0, none⟩) 2 [t, u] := by
  subst hg
  refine ⟨by simp, Or.inr ⟨_, 0, rfl, by simp, fun j x hx => ?_⟩⟩
  have hj : j < 2 := by simpa using (List.getElem?_eq_some_iff.1 hx).1
  rw [World.cell?_alloc_new, Nat.zero_add]
  rcases (show j = 0 ∨ j = 1 by omega) with rfl | rfl
  · simp at hx; subst hx; rfl
  · simp at hx; subst hx; rfl
theorem number_yes {t : List UInt8} (ht : t = [73] ∨ t = [74]) (w : World) : Calls Tryd.prog 27 #[.string ⟨⟨t⟩⟩] w fun e w' => e = .returned (.bool true) ∧ w = w' := by
  have h := number_calls t w
  rw [show numT t = true by rcases ht with rfl | rfl <;> rfl] at h
  exact h
theorem make_args (L : List (List UInt8)) (a : Option Addr) (n cap : Nat) (t : List UInt8) (w : World) (hn : n = L.length) (h : SRow w a cap L) (hl : L.length ≤ 5) (hA : ∀ x ∈ L, TypeOk x) (ht : t = [73] ∨ t = [74]) :
    Calls Tryd.prog 29 #[.slice a n cap, .string ⟨⟨t⟩⟩] w fun e w' => e = .returned (.tuple #[.string ⟨⟨methT L t⟩⟩, .nilIface]) ∧ Below w.heap.size w w' := by
  subst hn
  exact make_ok L a cap t w h hl hA (Or.inr (type_num ht))
theorem dn_alloc (w : World) (o p : Obj) (n : Nat) : Below w.heap.size w (((w.alloc o).drewN n).alloc p) := (below_dn (bl_alloc (Below.refl _ _) o) n).alloc (by show w.heap.size ≤ (w.alloc o).heap.size; simp) p

set_option maxRecDepth 100000 in
set_option maxHeartbeats 4000000 in
theorem leaf_one (t : List UInt8) (ht : t = [73] ∨ t = [74]) (a : Int) (pa : Option Addr) (n pc : Nat) (sa : Option Addr) (m sc : Nat) (w : World) :
    Calls Tryd.prog 13 #[.agg #[.int .i64 1, .string ⟨⟨t⟩⟩, .int .i64 a, .slice pa n pc, .slice sa m sc]] w (Exact w (leafF 1 t a)) := by
  have HN := Lib.hid (fun w => number_yes ht w)
  have HB := Lib.hid (fun o => bl_alloc (Below.refl w.heap.size w) o)
  have HB2 := Lib.hid (dn_alloc w)
  have HW := Lib.hid (fun w => word_exact a w)
  have HK := Lib.hid (fun w => make_args [] none 0 0 t w rfl ⟨by simp, Or.inl rfl⟩ (by simp) (by simp) ht)
  rcases ht with rfl | rfl
  · by_cases ha : a = wrap32 a
    · have HR := Lib.hid (show leafF 1 [73] a = (0, methT [] [73]) by unfold leafF; rw [if_neg (by simp [numT]), if_neg (by simp [← ha])]; rfl)
      have q1 : (a != wrap32 a) = false := by simp [← ha]
      clear ha
      generalize wrap32 a = aw at *
      go_enter Tryd.func13, Tryd.ntmps13
      go_wp2_with fail
      refine (HN.out _).mono ?_
      rintro e w1 ⟨rfl, rfl⟩
      go_wp2_with fail
      go_quiet (exact (HW.out _).mono (fun e w1 h => by obtain ⟨rfl, rfl⟩ := h; exact ⟨rfl, _, rfl⟩))
      go_wp2_with fail
      refine (HK.out _).mono ?_
      rintro e w2 ⟨rfl, hb2⟩
      go_wp2_with fail
      go_ret2
      exact ⟨by rw [HR.out]; rfl, (HB2.out _ _ _).trans (hb2.mono (HB2.out _ _ _).size)⟩
    · have HR := Lib.hid (show leafF 1 [73] a = (2, []) by unfold leafF; rw [if_neg (by simp [numT]), if_pos (by simp [ha])])
      have q1 : (a != wrap32 a) = true := by simp [ha]
      clear ha
      generalize wrap32 a = aw at *
      go_enter Tryd.func13, Tryd.ntmps13
      go_wp2_with fail
      refine (HN.out _).mono ?_
      rintro e w1 ⟨rfl, rfl⟩
      go_wp2_with fail
      go_quiet (exact (HW.out _).mono (fun e w1 h => by obtain ⟨rfl, rfl⟩ := h; exact ⟨rfl, _, rfl⟩))
      go_wp2_with fail
      go_ret2
      exact ⟨by rw [HR.out]; rfl, below_dn (HB.out _) _⟩
  · have HR := Lib.hid (show leafF 1 [74] a = (0, methT [] [74]) by unfold leafF; rw [if_neg (by simp [numT]), if_neg (by simp)]; rfl)
    go_enter Tryd.func13, Tryd.ntmps13
    go_wp2_with fail
    refine (HN.out _).mono ?_
    rintro e w1 ⟨rfl, rfl⟩
    go_wp2_with fail
    go_quiet (fail)
    go_wp2_with fail
    refine (HK.out _).mono ?_
    rintro e w2 ⟨rfl, hb2⟩
    go_wp2_with fail
    go_ret2
    exact ⟨by rw [HR.out]; rfl, (HB2.out _ _ _).trans (hb2.mono (HB2.out _ _ _).size)⟩

set_option maxRecDepth 100000 in
set_option maxHeartbeats 4000000 in
theorem leaf_two (t : List UInt8) (ht : t = [73] ∨ t = [74]) (a : Int) (pa : Option Addr) (n pc : Nat) (sa : Option Addr) (m sc : Nat) (w : World) :
    Calls Tryd.prog 13 #[.agg #[.int .i64 2, .string ⟨⟨t⟩⟩, .int .i64 a, .slice pa n pc, .slice sa m sc]] w (Exact w (leafF 2 t a)) := by
  have HN := Lib.hid (fun w => number_yes ht w)
  have HB2 := Lib.hid (dn_alloc w)
  have HK := Lib.hid (fun (W : World) (g : Nat) (hg : g = W.heap.size) => make_args [t] (some ⟨g, 0, none⟩) 1 2 t _ rfl (srow_one W t t g hg) (by simp) (by simpa using type_num ht) ht)
  have HR := Lib.hid (show leafF 2 t a = (0, methT [t] t) by
    unfold leafF
    rw [if_neg (by rcases ht with rfl | rfl <;> simp [numT]), if_neg (by simp)]
    rfl)
  clear ht
  go_enter Tryd.func13, Tryd.ntmps13
  go_wp2_with fail
  refine (HN.out _).mono ?_
  rintro e w1 ⟨rfl, rfl⟩
  go_wp2_with fail
  go_quiet (fail)
  go_wp2_with fail
  refine (HK.out _ _ (by simp)).mono ?_
  rintro e w2 ⟨rfl, hb2⟩
  go_wp2_with fail
  go_ret2
  exact ⟨by rw [HR.out]; rfl, (HB2.out _ _ _).trans (hb2.mono (HB2.out _ _ _).size)⟩

set_option maxRecDepth 100000 in
set_option maxHeartbeats 4000000 in
theorem leaf_three (t : List UInt8) (ht : t = [73] ∨ t = [74]) (a : Int) (pa : Option Addr) (n pc : Nat) (sa : Option Addr) (m sc : Nat) (w : World) :
    Calls Tryd.prog 13 #[.agg #[.int .i64 3, .string ⟨⟨t⟩⟩, .int .i64 a, .slice pa n pc, .slice sa m sc]] w (Exact w (leafF 3 t a)) := by
  have HN := Lib.hid (fun w => number_yes ht w)
  have HB := Lib.hid (fun o => bl_alloc (Below.refl w.heap.size w) o)
  have HB2 := Lib.hid (dn_alloc w)
  have hnt : numT t = true := by rcases ht with rfl | rfl <;> rfl
  by_cases hr : a < 1 ∨ 12 < a
  · have HR := Lib.hid (show leafF 3 t a = (1, []) by unfold leafF; rw [if_pos (by rw [hnt]; simp; exact hr)])
    clear ht hnt
    rcases hr with hr | hr
    · have q : decide (a < 1) = true := by simp [hr]
      go_enter Tryd.func13, Tryd.ntmps13
      go_wp2_with fail
      refine (HN.out _).mono ?_
      rintro e w1 ⟨rfl, rfl⟩
      go_wp2_with fail
      go_ret2
      exact ⟨by rw [HR.out]; rfl, HB.out _⟩
    · have q : ¬ a < 1 := by omega
      go_enter Tryd.func13, Tryd.ntmps13
      go_wp2_with fail
      refine (HN.out _).mono ?_
      rintro e w1 ⟨rfl, rfl⟩
      go_wp2_with fail
      go_ret2
      exact ⟨by rw [HR.out]; rfl, HB.out _⟩
  · have HRR := Lib.hid (show leafF 3 t a = (0, methT (leafA 3 t a) t) by unfold leafF; rw [if_neg (by rw [hnt]; simp; omega), if_neg (by simp)])
    have q1 : ¬ a < 1 := by omega
    have q2 : ¬ 12 < a := by omega
    have q3 : (decide (a < 1)) = false := by simp; omega
    have q4 : (decide (12 < a)) = false := by simp; omega
    clear hr hnt
    by_cases h12 : a = 12
    · subst h12
      have HR := Lib.hid (show leafF 3 t 12 = (0, methT [t] t) from HRR.out)
      have HK := Lib.hid (fun (W : World) (g : Nat) (hg : g = W.heap.size) => make_args [t] (some ⟨g, 0, none⟩) 1 2 t _ rfl (srow_one W t t g hg) (by simp) (by simpa using type_num ht) ht)
      clear ht HRR
      go_enter Tryd.func13, Tryd.ntmps13
      go_wp2_with fail
      refine (HN.out _).mono ?_
      rintro e w1 ⟨rfl, rfl⟩
      go_wp2_with fail
      go_quiet (fail)
      go_wp2_with fail
      refine (HK.out _ _ (by simp)).mono ?_
      rintro e w2 ⟨rfl, hb2⟩
      go_wp2_with fail
      go_ret2
      exact ⟨by rw [HR.out]; rfl, (HB2.out _ _ _).trans (hb2.mono (HB2.out _ _ _).size)⟩
    · have q5 : (a == 12) = false := by rw [beq_eq_false_iff_ne]; exact h12
      by_cases h9 : 9 ≤ a ∧ a ≤ 11
      · have HR := Lib.hid (show leafF 3 t a = (0, methT [t, [73]] t) by rw [HRR.out]; unfold leafA; rw [if_neg (by decide), if_neg (by omega), if_pos h9])
        have HK := Lib.hid (fun (W : World) (g : Nat) (hg : g = W.heap.size) => make_args [t, [73]] (some ⟨g, 0, none⟩) 2 2 t _ rfl (srow_two W t [73] g hg) (by simp) (by simp; exact ⟨type_num ht, type_num (Or.inl rfl)⟩) ht)
        have q6 : decide (9 ≤ a) = true := by simp; omega
        have q7 : decide (a ≤ 11) = true := by simp; omega
        obtain ⟨q8, q9⟩ := h9
        clear ht HRR
        go_enter Tryd.func13, Tryd.ntmps13
        go_wp2_with fail
        refine (HN.out _).mono ?_
        rintro e w1 ⟨rfl, rfl⟩
        go_wp2_with fail
        go_quiet (fail)
        go_wp2_with fail
        refine (HK.out _ _ (by simp)).mono ?_
        rintro e w2 ⟨rfl, hb2⟩
        go_wp2_with fail
        go_ret2
        exact ⟨by rw [HR.out]; rfl, (HB2.out _ _ _).trans (hb2.mono (HB2.out _ _ _).size)⟩
      · have HR := Lib.hid (show leafF 3 t a = (0, methT [t, t] t) by rw [HRR.out]; unfold leafA; rw [if_neg (by decide), if_neg (by omega), if_neg h9])
        have HK := Lib.hid (fun (W : World) (g : Nat) (hg : g = W.heap.size) => make_args [t, t] (some ⟨g, 0, none⟩) 2 2 t _ rfl (srow_two W t t g hg) (by simp) (by simp; exact type_num ht) ht)
        have hc : a < 9 ∨ 11 < a := by omega
        clear ht HRR h9
        rcases hc with hc | hc
        · have q6 : decide (9 ≤ a) = false := by simp; omega
          have q8 : ¬ 9 ≤ a := by omega
          go_enter Tryd.func13, Tryd.ntmps13
          go_wp2_with fail
          refine (HN.out _).mono ?_
          rintro e w1 ⟨rfl, rfl⟩
          go_wp2_with fail
          go_quiet (fail)
          go_wp2_with fail
          refine (HK.out _ _ (by simp)).mono ?_
          rintro e w2 ⟨rfl, hb2⟩
          go_wp2_with fail
          go_ret2
          exact ⟨by rw [HR.out]; rfl, (HB2.out _ _ _).trans (hb2.mono (HB2.out _ _ _).size)⟩
        · exfalso; omega
end Go.Proofs.YtkobgmacoakelaaDoor
