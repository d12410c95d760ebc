/-
  The walks of slices.Equal at one list, of frame.Same, of coffeehousesame.Frame; arguments: frames.
-/
import Derived.Test.YtpkhfcbkadkadaaGreatDoorFrm2
import Derived.Test.YtpkhfcbkadkadaaGreatDoorTexts
import Derived.Test.YtpkhfcbkadkadaaGreatDoorShelf
namespace Go.Proofs.YtpkhfcbkadkadaaGreatDoor
set_option linter.unusedVariables false
set_option linter.unusedSimpArgs false
open Go.RowKit Go.Shelf Go.Lib

theorem equal_same (X : List Nm) (a a' : Option Addr) (c c' : Nat) (w : World) (h : SRow w a c X) (h' : SRow w a' c' X) (hl : X.length ≤ 1000000) :
    Calls Tryz.prog 66 #[.slice a X.length c, .slice a' X.length c'] w fun e w' => e = .returned (.bool true) ∧ Below w.heap.size w w' := by
  by_cases h0 : X = []
  · subst h0
    refine (Tryz.slices_Equal_string_empty a a' c 0 c' w (by omega)).mono ?_
    rintro e w' ⟨rfl, rfl⟩
    exact ⟨rfl, Below.refl _ _⟩
  · obtain ⟨_, e1 | ⟨b, o, rfl, _, hc⟩⟩ := h
    · exact absurd e1 h0
    obtain ⟨_, e1 | ⟨b', o', rfl, _, hc'⟩⟩ := h'
    · exact absurd e1 h0
    have hg : ∀ j, j < (X.map (fun x => (⟨⟨x⟩⟩ : ByteArray))).length → ∃ x, X[j]? = some x ∧ (X.map (fun x => (⟨⟨x⟩⟩ : ByteArray))).getD j ByteArray.empty = ⟨⟨x⟩⟩ := fun j hj => by
      rw [List.length_map] at hj
      refine ⟨X[j], List.getElem?_eq_getElem hj, ?_⟩
      simp [List.getD, hj]
    refine (Tryz.slices_Equal_string b o X.length c b' o' X.length c' (X.map (fun x => (⟨⟨x⟩⟩ : ByteArray))) (X.map (fun x => (⟨⟨x⟩⟩ : ByteArray))) w (by simp) (by simp) (by omega) (by omega) ?_ ?_).mono ?_
    · intro j hj
      obtain ⟨x, hx, e⟩ := hg j hj
      rw [e]; exact hc j x hx
    · intro j hj
      obtain ⟨x, hx, e⟩ := hg j hj
      rw [e]; exact hc' j x hx
    · rintro e w' ⟨rfl, q, rfl⟩
      exact ⟨by simp, below_dn (Below.refl _ _) q⟩

set_option maxRecDepth 100000 in
set_option maxHeartbeats 1000000 in
theorem same_calls (f : FrR) (p q : FAddr) (w : World) (hp : FrAt w f p) (hq : FrAt w f q) (h1 : f.loc.length ≤ 100000) (h2 : f.st.length ≤ 100000) :
    Calls Tryz.prog 43 #[frV f p, frV f q] w fun e w' => e = .returned (.bool true) ∧ Below w.heap.size w w' := by
  have HE1 := Lib.hid (fun W (hW : Below w.heap.size w W) => equal_same f.loc p.la q.la p.lc q.lc W (hp.1.below hW) (hq.1.below hW) (by omega))
  have HE2 := Lib.hid (fun W (hW : Below w.heap.size w W) => equal_same f.st p.sa q.sa p.sc q.sc W (hp.2.below hW) (hq.2.below hW) (by omega))
  have HBB := Lib.hid (fun o1 o2 => bl_alloc (bl_alloc (Below.refl w.heap.size w) o1) o2)
  clear hp hq
  unfold frV
  have HD0 := Lib.hid ((blk_new w w.heap.size 65 #[.slice p.la f.loc.length p.lc, .slice p.sa f.st.length p.sc] rfl).below ((Below.refl _ _).alloc (Nat.le_refl _) (.cells #[.slice q.la f.loc.length q.lc, .slice q.sa f.st.length q.sc] 65)))
  have HD1 := Lib.hid (blk_new (w.alloc (.cells #[.slice p.la f.loc.length p.lc, .slice p.sa f.st.length p.sc] 65)) (w.heap.size + 1) 65 #[.slice q.la f.loc.length q.lc, .slice q.sa f.st.length q.sc] (by simp))
  go_enter Tryz.func43, Tryz.ntmps43
  go_wp2_with fail
  refine (HE1.out _ (HBB.out _ _)).mono ?_
  rintro e w2 ⟨rfl, hb2⟩
  have HB2 := Lib.hid (bl_trans (HBB.out _ _) hb2)
  have e1 := (HD0.out.below hb2).cell 1
  have e2 := (HD0.out.below hb2).lt
  have e3 := (HD1.out.below hb2).cell 1
  have e4 := (HD1.out.below hb2).lt
  clear hb2
  go_wp2_with fail
  refine (HE2.out _ HB2.out).mono ?_
  rintro e w3 ⟨rfl, hb3⟩
  have HB3 := Lib.hid (bl_trans HB2.out hb3)
  clear hb3
  go_wp2_with fail
  go_ret
  exact ⟨rfl, HB3.out⟩

set_option maxRecDepth 100000 in
set_option maxHeartbeats 1000000 in
theorem sframe_calls (f : FrR) (p q : FAddr) (w : World) (hp : FrAt w f p) (hq : FrAt w f q) (h1 : f.loc.length ≤ 100000) (h2 : f.st.length ≤ 100000) :
    Calls Tryz.prog 26 #[frV f p, frV f q] w fun e w' => e = .returned (.bool true) ∧ Below w.heap.size w w' := by
  have HE1 := Lib.hid (fun W (hW : Below w.heap.size w W) => texts_same f.loc p.la q.la p.lc q.lc W (hp.1.below hW) (hq.1.below hW) (by omega))
  have HE2 := Lib.hid (fun W (hW : Below w.heap.size w W) => texts_same f.st p.sa q.sa p.sc q.sc W (hp.2.below hW) (hq.2.below hW) (by omega))
  have HBB := Lib.hid (fun o1 o2 => bl_alloc (bl_alloc (Below.refl w.heap.size w) o1) o2)
  clear hp hq
  unfold frV
  have HD0 := Lib.hid ((blk_new w w.heap.size 65 #[.slice p.la f.loc.length p.lc, .slice p.sa f.st.length p.sc] rfl).below ((Below.refl _ _).alloc (Nat.le_refl _) (.cells #[.slice q.la f.loc.length q.lc, .slice q.sa f.st.length q.sc] 65)))
  have HD1 := Lib.hid (blk_new (w.alloc (.cells #[.slice p.la f.loc.length p.lc, .slice p.sa f.st.length p.sc] 65)) (w.heap.size + 1) 65 #[.slice q.la f.loc.length q.lc, .slice q.sa f.st.length q.sc] (by simp))
  go_enter Tryz.func26, Tryz.ntmps26
  go_wp2_with fail
  refine (HE1.out _ (HBB.out _ _)).mono ?_
  rintro e w2 ⟨rfl, hb2⟩
  have HB2 := Lib.hid (bl_trans (HBB.out _ _) hb2)
  have e1 := (HD0.out.below hb2).cell 1
  have e2 := (HD0.out.below hb2).lt
  have e3 := (HD1.out.below hb2).cell 1
  have e4 := (HD1.out.below hb2).lt
  clear hb2
  go_wp2_with fail
  refine (HE2.out _ HB2.out).mono ?_
  rintro e w3 ⟨rfl, hb3⟩
  have HB3 := Lib.hid (bl_trans HB2.out hb3)
  clear hb3
  go_wp2_with fail
  go_ret
  exact ⟨rfl, HB3.out⟩
end Go.Proofs.YtpkhfcbkadkadaaGreatDoor
