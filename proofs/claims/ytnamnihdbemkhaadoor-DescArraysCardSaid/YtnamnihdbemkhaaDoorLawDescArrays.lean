/-
  DescArrays: an array type is a type exactly if it has at most three brackets; a class type exactly if its name is a name. By the walks of desc.Check, name.Check and the law's own loop.
-/
import Derived.Test.YtnamnihdbemkhaaDoorDesc
import Derived.Lib.QuietBelow
import Derived.BigQuiet
namespace Go.Proofs.YtnamnihdbemkhaaDoor
set_option linter.unusedVariables false
set_option linter.unusedSimpArgs false
open Go.RowKit Go.Shelf Go.Lib

theorem type_more (P X : List UInt8) (hP : ∀ b ∈ P, b = 91) (hX : ∀ c r, X = c :: r → c ≠ 91) : TypeOk (91 :: (P ++ X)) ↔ TypeOk (P ++ X) ∧ P.length < 3 := by
  constructor
  · rintro ⟨Q, Y, e, hQ, hQ3, hY⟩
    have ny : ∀ c s, Y = c :: s → c ≠ 91 := by
      intro c s e2
      rcases hY with rfl | rfl | ⟨n, _, rfl⟩ <;> (simp only [List.cons.injEq] at e2; rw [← e2.1]; decide)
    obtain ⟨e1, e2⟩ := lead_uniq (91 :: P) Q X Y (by intro b hb; rcases List.mem_cons.1 hb with h | h; · exact h
                                                     · exact hP b h) hQ hX ny (by simpa using e)
    subst e1 e2
    simp only [List.length_cons] at hQ3
    exact ⟨⟨P, X, rfl, hP, by omega, hY⟩, by omega⟩
  · rintro ⟨⟨Q, Y, e, hQ, hQ3, hY⟩, h⟩
    have ny : ∀ c s, Y = c :: s → c ≠ 91 := by
      intro c s e2
      rcases hY with rfl | rfl | ⟨n, _, rfl⟩ <;> (simp only [List.cons.injEq] at e2; rw [← e2.1]; decide)
    obtain ⟨e1, e2⟩ := lead_uniq P Q X Y hP hQ hX ny e
    subst e1 e2
    refine ⟨91 :: P, X, rfl, ?_, by simp; omega, hY⟩
    intro b hb
    rcases List.mem_cons.1 hb with h | h
    · exact h
    · exact hP b h

theorem type_class (s : List UInt8) : TypeOk (76 :: (s ++ [59])) ↔ nameOk s = true := by
  constructor
  · rintro ⟨Q, Y, e, hQ, hQ3, hY⟩
    have ny : ∀ c s, Y = c :: s → c ≠ 91 := by
      intro c s e2
      rcases hY with rfl | rfl | ⟨n, _, rfl⟩ <;> (simp only [List.cons.injEq] at e2; rw [← e2.1]; decide)
    obtain ⟨e1, e2⟩ := lead_uniq [] Q (76 :: (s ++ [59])) Y (by simp) hQ (by intro c r e; cases e; decide) ny e
    rcases hY with rfl | rfl | ⟨n, hn, rfl⟩
    · simp at e2
    · simp at e2
    · simp only [List.cons.injEq, true_and] at e2
      rw [List.append_cancel_right e2]; exact hn
  · intro h
    exact ⟨[], _, rfl, by simp, by simp, Or.inr (Or.inr ⟨s, h, rfl⟩)⟩

theorem lead_at (P X : List UInt8) (hP : ∀ b ∈ P, b = 91) (k : Nat) (hk : k < P.length) (h : k < (P ++ X).length) : (P ++ X)[k] = 91 := by
  rw [List.getElem_append_left hk]
  exact hP _ (List.getElem_mem _)

def Gives (l : List UInt8) (f : FuncId) (v : Value) : Prop := ∀ w, Calls Tryd.prog f #[.string ⟨⟨l⟩⟩] w fun e w' => e = .returned v ∧ Below w.heap.size w w'

set_option maxRecDepth 100000 in
set_option maxHeartbeats 1000000 in
theorem descArrays_go (P X s : List UInt8) (hP : ∀ b ∈ P, b = 91) (hX : ∀ c r, X = c :: r → c ≠ 91) (hl : P.length ≤ 1152921504606846976) (hl2 : X.length ≤ 1152921504606846976) (hl3 : s.length ≤ 1152921504606846976) (w : World)
    (v1 v2 v3 : Value) (hb : (v2 = .nilIface ∧ v1 = .nilIface ∧ P.length < 3) ∨ (v2 = errV 1 ∧ v1 = .nilIface ∧ ¬ P.length < 3) ∨ (v2 = errV 1 ∧ v1 = errV 1)) (hb3 : v3 = .nilIface ∨ v3 = errV 1)
    (h1 : Gives (P ++ X) 15 v1) (h2 : Gives (91 :: (P ++ X)) 15 v2) (h3 : Gives (76 :: (s ++ [59])) 15 v3) (h4 : Gives s 14 v3) :
    Calls Tryd.prog 4 #[.string ⟨⟨P ++ X⟩⟩, .string ⟨⟨s⟩⟩] w fun e w' => e = .returned (.bool true) ∧ Below w.heap.size w w' := by
  unfold Gives at h1 h2 h3 h4
  have H1 := Lib.hid h1
  have H2 := Lib.hid h2
  have H3 := Lib.hid h3
  have H4 := Lib.hid h4
  have HP := Lib.hid hP
  have HX := Lib.hid hX
  have HB := Lib.hid hb
  have HB3 := Lib.hid hb3
  clear h1 h2 h3 h4 hP hX hb hb3
  go_enter Tryd.func4, Tryd.ntmps4
  go_wp2_with fail
  refine (named_true _).mono ?_
  rintro e w1 ⟨rfl, hb1⟩
  go_wp2_with fail
  go_loop [6] (fun t => ∃ k : Nat, k ≤ P.length ∧ t = .int .i64 k) (fun t => P.length + 1 - (RowKit.intOf t).toNat)
  case atStart => exact ⟨0, by omega, rfl⟩
  case round =>
    obtain ⟨k, hk, rfl⟩ := hrel
    by_cases hlt : k < P.length
    · have hg : ∀ h, (P ++ X)[k]'h = 91 := fun h => lead_at P X HP.out k hlt h
      go_wp2_with fail
      go_round
      case rel => exact ⟨k + 1, by omega, by go_num⟩
      case measure => simp [RowKit.intOf]; omega
    · obtain rfl : k = P.length := by omega
      have hc : ∀ c r, X = c :: r → ((c.toNat : Int) == 91) = false := by
        intro c r e
        have := HX.out c r e
        rw [beq_eq_false_iff_ne]
        intro e
        apply this
        apply UInt8.toNat_inj.1
        exact Int.ofNat.inj e
      clear hlt
      cases X
      case' cons c r =>
        have hcc := hc c r rfl
        simp only [List.length_cons] at hl2
      case' nil => simp only [List.append_nil] at H1 H2
      all_goals
        clear hc
        go_wp2_with fail
      all_goals
        ((with_reducible refine (H1.out _).mono ?_); rintro e w2 ⟨rfl, hb2⟩)
        go_wp2_with fail
        ((with_reducible refine (H2.out _).mono ?_); rintro e w3 ⟨rfl, hb3⟩)
        go_wp2_with fail
        ((with_reducible refine (H3.out _).mono ?_); rintro e w4 ⟨rfl, hb4⟩)
        go_wp2_with fail
      all_goals
        have HBB := bl_trans (bl_trans (bl_trans hb1 hb2) hb3) hb4
        clear hb1 hb2 hb3 hb4 H1 H2 H3 HP
        have hb := HB.out
        have hb' := HB3.out
        clear HB HB3
        rcases hb with ⟨rfl, rfl, h3⟩ | ⟨rfl, rfl, h3⟩ | ⟨rfl, rfl⟩
      all_goals
        first
          | have hd : decide ((P.length : Int) < 3) = true := by simp; omega
          | have hd : decide ((P.length : Int) < 3) = false := by simp; omega
          | skip
        rcases hb' with rfl | rfl
      all_goals
        refine wp_region_quiet_below (by kernel_rfl) (by kernel_rfl) ?_
        repeat (first | go_big_quiet_step (exact Calls.regrown_of (H4.out _)) | quiet_step (exact Calls.regrown_of (H4.out _)))
        refine wpQuiet_nil ?_
        intro _ hw'
        obtain ⟨⟨dq, osq⟩, hw''⟩ := hw'
        subst hw''
        go_wp2_with fail
        go_ret
        exact ⟨rfl, bl_trans HBB (below_regrown _ dq osq)⟩

theorem descArrays.core (t s : List UInt8) (ht : t.length ≤ 1152921504606846976) (hs : s.length ≤ 1152921504606846976) (w : World) :
    Calls Tryd.prog 4 #[.string ⟨⟨t⟩⟩, .string ⟨⟨s⟩⟩] w fun e w' => e = .returned (.bool true) ∧ Below w.heap.size w w' := by
  obtain ⟨P, X, rfl, hP, hX⟩ := lead_split t
  rw [List.length_append] at ht
  have tm := type_more P X hP hX
  have tc := type_class s
  have hl1 : (P ++ X).length ≤ 4611686018427387904 := by rw [List.length_append]; omega
  have hl2 : (91 :: (P ++ X)).length ≤ 4611686018427387904 := by simp; omega
  have hl3 : (76 :: (s ++ [59])).length ≤ 4611686018427387904 := by simp; omega
  have g34 : ∃ v3, (v3 = .nilIface ∨ v3 = errV 1) ∧ Gives (76 :: (s ++ [59])) 15 v3 ∧ Gives s 14 v3 := by
    cases h : nameOk s with
    | true => exact ⟨.nilIface, Or.inl rfl, fun w => check_ok _ (tc.2 h) w, fun w => name_ok ⟨⟨s⟩⟩ w h⟩
    | false => exact ⟨errV 1, Or.inr rfl, fun w => check_bad _ (fun h2 => by rw [tc.1 h2] at h; cases h) hl3 w, fun w => name_bad ⟨⟨s⟩⟩ w h⟩
  obtain ⟨v3, hv3, g3, g4⟩ := g34
  by_cases h1 : TypeOk (P ++ X)
  · by_cases h3 : P.length < 3
    · exact descArrays_go P X s hP hX (by omega) (by omega) hs w .nilIface .nilIface v3 (Or.inl ⟨rfl, rfl, h3⟩) hv3 (fun w => check_ok _ h1 w) (fun w => check_ok _ (tm.2 ⟨h1, h3⟩) w) g3 g4
    · exact descArrays_go P X s hP hX (by omega) (by omega) hs w .nilIface (errV 1) v3 (Or.inr (Or.inl ⟨rfl, rfl, h3⟩)) hv3 (fun w => check_ok _ h1 w) (fun w => check_bad _ (fun h => h3 (tm.1 h).2) hl2 w) g3 g4
  · exact descArrays_go P X s hP hX (by omega) (by omega) hs w (errV 1) (errV 1) v3 (Or.inr (Or.inr ⟨rfl, rfl⟩)) hv3 (fun w => check_bad _ h1 hl1 w) (fun w => check_bad _ (fun h => h1 (tm.1 h).1) hl2 w) g3 g4

theorem descArrays.walk (t : ByteArray) (ht : t.size ≤ maxLen) (htr : t.data.toList.length ≤ reachBytes) (s : ByteArray) (hs : s.size ≤ maxLen) (hsr : s.data.toList.length ≤ reachBytes) (w : World) {L S : Prop} (_ : L) (_ : S) :
    Calls Tryd.prog 4 #[.string t, .string s] w fun e w' => e = .returned (.bool true) ∧ Below w.heap.size w w' := by
  obtain ⟨⟨t⟩⟩ := t
  obtain ⟨⟨s⟩⟩ := s
  have := reachBytes_lt
  exact descArrays.core t s (by simp only at htr; omega) (by simp only at hsr; omega) w

end Go.Proofs.YtnamnihdbemkhaaDoor
