/-
  The walks of heap.types and heap.formed: exact.
-/
import Derived.Test.YtanjggdmgeedlaaGreatDoorHeap1
import Derived.Test.YtanjggdmgeedlaaGreatDoorRep
import Derived.Test.YtanjggdmgeedlaaGreatDoorLay2
namespace Go.Proofs.YtanjggdmgeedlaaGreatDoor
set_option linter.unusedVariables false
set_option linter.unusedSimpArgs false
open Go.RowKit Go.Shelf Go.Lib

def TysRes (A : List Nm) (w : World) (e : Ending) (w' : World) : Prop := Below w.heap.size w w' ∧ ∃ a cap, e = .returned (.slice a A.length cap) ∧ SRow w' a cap A
theorem cutPre_yes (r : Nm) (w : World) : Calls Tryz.prog 106 #[.string ⟨⟨91 :: r⟩⟩, .string ⟨#[91]⟩] w fun e w' => e = .returned (.tuple #[.string ⟨⟨r⟩⟩, .bool true]) ∧ w = w' := by
  have h := Tryz.strings_CutPrefix ⟨⟨91 :: r⟩⟩ ⟨#[91]⟩ w
  refine h.mono fun e w' ⟨h1, h2⟩ => ⟨?_, h2.symm⟩
  rw [h1]
  simp [Lib.trimPrefix, Lib.hasPrefix, List.isPrefixOf]
theorem cutPre_no (c : UInt8) (r : Nm) (hc : c ≠ 91) (w : World) : Calls Tryz.prog 106 #[.string ⟨⟨c :: r⟩⟩, .string ⟨#[91]⟩] w fun e w' => e = .returned (.tuple #[.string ⟨⟨c :: r⟩⟩, .bool false]) ∧ w = w' := by
  have h := Tryz.strings_CutPrefix ⟨⟨c :: r⟩⟩ ⟨#[91]⟩ w
  refine h.mono fun e w' ⟨h1, h2⟩ => ⟨?_, h2.symm⟩
  rw [h1]
  have h3 : (91 == c) = false := by simpa using Ne.symm hc
  simp [Lib.trimPrefix, Lib.hasPrefix, List.isPrefixOf, h3]

/-- a thing's type: of a class, or an array of it -/
def TyL (L : List ClassR) (x : ThingR) (n : Nm) : Prop := x.ty = thing n ∧ nameOk n = true ∧ (look L n).isSome = true
def TyA (L : List ClassR) (x : ThingR) (r : Nm) : Prop := x.ty = 91 :: r ∧ x.has.length ≤ 10 ∧ DT r
theorem ty_cases {L : List ClassR} {x : ThingR} {d : Nat} {b : Bse} (he : x.ty = (Kd.ty d b).text) (hok : (Kd.ty d b).Ok L) (hr : (Kd.ty d b).refs = true) (h10 : x.ty.head? = some 91 → x.has.length ≤ 10) : (∃ n, TyL L x n) ∨ ∃ r, TyA L x r := by
  cases d with
  | zero =>
    cases b with
    | int => cases hr
    | long => cases hr
    | cls n => exact Or.inl ⟨n, by rw [he]; rfl, hok.2.1, hok.2.2⟩
  | succ d =>
    rw [arr_one] at he
    exact Or.inr ⟨_, he, h10 (by rw [he]; rfl), ⟨d, b, rfl, by have := hok.1; omega, cl_len hok.2⟩⟩
theorem typesH_L {L : List ClassR} {x : ThingR} {n : Nm} (h : TyL L x n) : typesH L x = typesF L n := by
  have h1 : x.ty.head? ≠ some 91 := by rw [h.1]; simp [thing]
  unfold typesH typesF
  rw [if_neg h1, h.1]
  have : clsOf (thing n) = n := by simp [clsOf, thing]
  rw [this]
theorem typesH_A {L : List ClassR} {x : ThingR} {r : Nm} (h : TyA L x r) : typesH L x = List.replicate x.has.length r := by
  unfold typesH
  rw [h.1]
  rfl

set_option maxRecDepth 100000 in
set_option maxHeartbeats 2000000 in
theorem htypes_L (l : List ClassR) (L : List CP) (b : Nat) (x : ThingR) (p : HA) (n : Nm) (w : World) (hW : WOk w b l L) (h : TyL (wl l) x n) :
    Calls Tryz.prog 57 #[.map (some b), .agg #[.string ⟨⟨x.ty⟩⟩, .slice p.1 x.has.length p.2]] w (TysRes (typesH (wl l) x) w) := by
  have hn := (name_len h.2.1).2
  rw [typesH_L h, h.1]
  have HT := Lib.hid (fun w' (hw : Below w.heap.size w w') => types_calls l L b n w' (hW.below hw) (by omega))
  have HC := Lib.hid (fun w => show Calls Tryz.prog 56 #[.string ⟨⟨thing n⟩⟩] w (fun e w' => e = .returned (.string ⟨⟨n⟩⟩) ∧ w = w') from class_calls 0 (.cls n) (by show n.length ≤ _; omega) w)
  have HCP := Lib.hid (fun w => cutPre_no 76 (n ++ [59]) (by decide) w)
  have HB1 := Lib.hid (fun o => bl_alloc (Below.refl w.heap.size w) o)
  have HX := Lib.hid (fun cs => (blk_new w w.heap.size 33 cs rfl))
  clear hW h
  unfold thing at *
  generalize n ++ [59] = r at *
  go_enter Tryz.func57, Tryz.ntmps57
  go_wp2_with fail
  refine (HCP.out _).mono ?_
  rintro e w1 ⟨rfl, rfl⟩
  go_wp2_with fail
  refine (HC.out _).mono ?_
  rintro e w1 ⟨rfl, rfl⟩
  go_wp2_with fail
  refine (HT.out _ (HB1.out _)).mono ?_
  rintro e w2 ⟨⟨v, rfl, ho⟩, hb2⟩
  obtain ⟨a2, c2, rfl, hr2⟩ := srow_of_own ho
  have HB2 := Lib.hid (bl_trans (HB1.out _) hb2)
  have HR := Lib.hid hr2
  clear ho hb2 hr2
  go_wp2_with fail
  go_ret
  exact ⟨HB2.out, a2, c2, rfl, HR.out⟩

set_option maxRecDepth 100000 in
set_option maxHeartbeats 2000000 in
theorem htypes_A (L : List ClassR) (b : Nat) (x : ThingR) (p : HA) (r : Nm) (w : World) (h : TyA L x r) :
    Calls Tryz.prog 57 #[.map (some b), .agg #[.string ⟨⟨x.ty⟩⟩, .slice p.1 x.has.length p.2]] w (TysRes (typesH L x) w) := by
  rw [typesH_A h, h.1]
  have h10 := h.2.1
  have HCP := Lib.hid (fun w => cutPre_yes r w)
  have HB1 := Lib.hid (fun o1 o2 => bl_alloc (bl_alloc (Below.refl w.heap.size w) o1) o2)
  generalize x.has.length = n at *
  have HRP := Lib.hid (fun o => repeat_calls r (w.heap.size + 1) n ((w.alloc o).alloc (.cells #[strV r] 9)) (blk_new _ _ _ _ (by simp)) h10)
  clear h
  go_enter Tryz.func57, Tryz.ntmps57
  go_wp2_with fail
  refine (HCP.out _).mono ?_
  rintro e w1 ⟨rfl, rfl⟩
  go_wp2_with fail
  refine (HRP.out _).mono ?_
  rintro e w2 ⟨⟨a2, rfl, hr2⟩, hb2⟩
  have HB2 := Lib.hid (bl_trans (HB1.out _ _) hb2)
  have HR := Lib.hid hr2
  clear hb2 hr2
  go_wp2_with fail
  go_ret
  exact ⟨HB2.out, a2, n, by rw [List.length_replicate]; rfl, HR.out⟩

theorem htypes_calls (l : List ClassR) (L : List CP) (b : Nat) (x : ThingR) (p : HA) (w : World) (hW : WOk w b l L) (h : (∃ n, TyL (wl l) x n) ∨ ∃ r, TyA (wl l) x r) :
    Calls Tryz.prog 57 #[.map (some b), .agg #[.string ⟨⟨x.ty⟩⟩, .slice p.1 x.has.length p.2]] w (TysRes (typesH (wl l) x) w) := by
  rcases h with ⟨n, h⟩ | ⟨r, h⟩
  · exact htypes_L l L b x p n w hW h
  · exact htypes_A (wl l) b x p r w h
end Go.Proofs.YtanjggdmgeedlaaGreatDoor
