import Derived.Test.YtddbnboicmaooaaGreatDoorFa
namespace Go.Proofs.YtddbnboicmaooaaGreatDoor
set_option maxRecDepth 100000
set_option maxHeartbeats 16000000
set_option linter.unusedVariables false
set_option linter.unusedSimpArgs false
open Go.RowKit Go.Shelf Go.Lib
open Classical in
noncomputable def withErr (l : List ClassR) (n : Nm) : Int := if readErr l ≠ 0 then readErr l else if n ∈ names l then 0 else 3
def WithRes (l : List ClassR) (ps : List CAddr) (n : Nm) (w : World) (e : Ending) (w' : World) : Prop :=
 Below w.heap.size w w' ∧ ((withErr l n ≠ 0 ∧ e = .returned (.tuple #[.map none, errV (withErr l n)])) ∨
   (withErr l n = 0 ∧ ∃ b, e = .returned (.tuple #[.map (some b), .nilIface]) ∧ w.heap.size ≤ b ∧ WorldAt w' b (wcp l ps)))
def ListRes (err : Int) (A : List Nm) (w : World) (e : Ending) (w' : World) : Prop :=
 Below w.heap.size w w' ∧ ((err ≠ 0 ∧ e = .returned (.tuple #[.slice none 0 0, errV err])) ∨
   (err = 0 ∧ ∃ v, e = .returned (.tuple #[v, .nilIface]) ∧ w'.ownsRow w.heap.size 9 1 v A.length (A.map strV)))
theorem texts_same (A : List Nm) (a a' : Option Addr) (c c' : Nat) (w : World) (h : SRow w a c A) (h' : SRow w a' c' A) (hl : A.length ≤ 1000000) :
   Calls Tryz.prog 46 #[.slice a A.length c, .slice a' A.length c'] w fun e w' => e = .returned (.bool true) ∧ Below w.heap.size w w' := by
 have HR := Hd h
 have HR' := Hd h'
 clear h h'
 go_enter Tryz.func46, Tryz.ntmps46
 go_wp2_with fail
 go_loopw [5] (fun i wr => ∃ k : Nat, k ≤ A.length ∧ i = .int .i64 k ∧ Below w.heap.size w wr) (fun i _ => A.length - (RowKit.intOf i).toNat)
 case atStart => exact ⟨0, by omega, rfl, Below.refl _ _⟩
 case round =>
   obtain ⟨k, hk, rfl, hwr⟩ := hrel
   by_cases hlk : k < A.length
   · obtain ⟨t, ht⟩ : ∃ t, A[k]? = some t := ⟨_, List.getElem?_eq_getElem hlk⟩
     obtain ⟨b, off, rfl, _, c1⟩ := strs_cell (HR.out.below hwr) ht
     obtain ⟨b', off', rfl, _, c2⟩ := strs_cell (HR'.out.below hwr) ht
     have HW := Hd hwr
     have i0 : (0 : Int) ≤ (k : Int) := by omega
     have i1 : (k : Int) < (A.length : Int) := by omega
     clear ht hwr HR HR'
     go_wp2_with fail
     go_quiet (fail)
     go_wp2_with fail
     go_roundw
     case rel => exact ⟨k + 1, by omega, by go_num, HW.out.trans ⟨rfl, rfl, rfl, Nat.le_refl _, fun _ _ => rfl⟩⟩
     case measure => simp [RowKit.intOf]; omega
   · obtain rfl : k = A.length := by omega
     have HW := Hd hwr
     clear hwr
     go_wp2_with fail
     go_ret
     exact ⟨rfl, HW.out⟩
def ListV (err : Int) (A : List Nm) (W : World) (v ev : Value) : Prop := (err ≠ 0 ∧ v = .slice none 0 0 ∧ ev = errV err) ∨ (err = 0 ∧ ev = .nilIface ∧ ∃ a cap, v = .slice a A.length cap ∧ SRow W a cap A)
theorem ListV.below {err : Int} {A : List Nm} {W W' : World} {v ev : Value} (h : ListV err A W v ev) (hb : Below W.heap.size W W') : ListV err A W' v ev := by
 rcases h with h | ⟨h1, h2, a, cap, h3, h4⟩
 · exact Or.inl h
 · exact Or.inr ⟨h1, h2, a, cap, h3, h4.below hb⟩
theorem sframe_calls (f : FrR) (p q : FAddr) (w : World) (hp : FrAt w f p) (hq : FrAt w f q) (h1 : f.loc.length ≤ 100000) (h2 : f.st.length ≤ 100000) :
   Calls Tryz.prog 19 #[frV f p, frV f q] w fun e w' => e = .returned (.bool true) ∧ Below w.heap.size w w' := by
 have HE1 := Hd (fun W (hW : Below w.heap.size w W) => texts_same f.loc p.la q.la p.lc q.lc W (hp.1.below hW) (hq.1.below hW) (by omega))
 have HE2 := Hd (fun W (hW : Below w.heap.size w W) => texts_same f.st p.sa q.sa p.sc q.sc W (hp.2.below hW) (hq.2.below hW) (by omega))
 have HBB := Hd (fun o1 o2 => bl_alloc (bl_alloc (Below.refl w.heap.size w) o1) o2)
 clear hp hq
 unfold frV
 have HD0 := Hd ((blk_new w w.heap.size 67 #[.slice p.la f.loc.length p.lc, .slice p.sa f.st.length p.sc] rfl).below ((Below.refl _ _).alloc (Nat.le_refl _) (.cells #[.slice q.la f.loc.length q.lc, .slice q.sa f.st.length q.sc] 67)))
 have HD1 := Hd (blk_new (w.alloc (.cells #[.slice p.la f.loc.length p.lc, .slice p.sa f.st.length p.sc] 67)) (w.heap.size + 1) 67 #[.slice q.la f.loc.length q.lc, .slice q.sa f.st.length q.sc] (by simp))
 go_enter Tryz.func19, Tryz.ntmps19
 go_wp2_with fail
 refine (HE1.out _ (HBB.out _ _)).mono ?_
 rintro e w2 ⟨rfl, hb2⟩
 have HB2 := Hd (bl_trans (HBB.out _ _) hb2)
 have e1 := (HD0.out.below hb2).cell 1
 have e2 := (HD0.out.below hb2).lt
 have e3 := (HD1.out.below hb2).cell 1
 have e4 := (HD1.out.below hb2).lt
 clear hb2
 go_wp2_with fail
 refine (HE2.out _ HB2.out).mono ?_
 rintro e w3 ⟨rfl, hb3⟩
 have HB3 := Hd (bl_trans HB2.out hb3)
 clear hb3
 go_wp2_with fail
 go_ret
 exact ⟨rfl, HB3.out⟩
end Go.Proofs.YtddbnboicmaooaaGreatDoor
