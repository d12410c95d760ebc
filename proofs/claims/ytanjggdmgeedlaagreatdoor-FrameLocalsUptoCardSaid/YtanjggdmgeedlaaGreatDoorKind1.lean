/-
  The walks of sub.Refs, desc.Class, sub.Kind, sub.Thing: at any text, at any right type.
-/
import Derived.Test.YtanjggdmgeedlaaGreatDoorWBase
import Derived.Test.YtanjggdmgeedlaaGreatDoorPKind
import Derived.Test.YtanjggdmgeedlaaGreatDoorInsBase
namespace Go.Proofs.YtanjggdmgeedlaaGreatDoor
set_option linter.unusedVariables false
set_option linter.unusedSimpArgs false
open Go.RowKit Go.Shelf Go.Lib

def refsB (k : Nm) : Bool := match k with
  | [] => false
  | c :: _ => c == 76 || c == 91
theorem refs_text (k : Kd) : refsB k.text = k.refs := by
  cases k with
  | nul => rfl
  | top => rfl
  | ty d b =>
    cases d with
    | zero => cases b <;> rfl
    | succ d => rfl

theorem hasPre_one (k : Nm) (c : UInt8) (w : World) : Calls Tryz.prog 109 #[.string ⟨⟨k⟩⟩, .string ⟨#[c]⟩] w fun e w' => e = .returned (.bool (hasPrefix k [c])) ∧ w = w' := by
  have h := Tryz.strings_HasPrefix ⟨⟨k⟩⟩ ⟨#[c]⟩ w
  exact h.mono fun e w' ⟨h1, h2⟩ => ⟨h1, h2.symm⟩
theorem hasPre_cons (x : UInt8) (r : Nm) (c : UInt8) : hasPrefix (x :: r) [c] = (x == c) := by
  by_cases e : x = c
  · subst e; simp [hasPrefix, List.isPrefixOf]
  · have h1 : (x == c) = false := by simpa using e
    have h2 : (c == x) = false := by simpa using Ne.symm e
    simp [hasPrefix, List.isPrefixOf, h1, h2]
set_option maxRecDepth 100000 in
set_option maxHeartbeats 400000 in
theorem refs_calls (k : Nm) (w : World) : Calls Tryz.prog 61 #[.string ⟨⟨k⟩⟩] w fun e w' => e = .returned (.bool (refsB k)) ∧ w = w' := by
  have H1 := Lib.hid (hasPre_one k 76)
  have H2 := Lib.hid (hasPre_one k 91)
  have h : refsB k = (hasPrefix k [76] || hasPrefix k [91]) := by
    cases k with
    | nil => rfl
    | cons c r => rw [hasPre_cons, hasPre_cons]; rfl
  rw [h]
  clear h
  generalize hasPrefix k [76] = p at *
  generalize hasPrefix k [91] = q at *
  cases p with
  | true =>
    go_enter Tryz.func61, Tryz.ntmps61
    go_wp2_with fail
    refine (H1.out _).mono ?_
    rintro e w1 ⟨rfl, rfl⟩
    go_wp2_with fail
    go_ret
    exact ⟨rfl, rfl⟩
  | false =>
    go_enter Tryz.func61, Tryz.ntmps61
    go_wp2_with fail
    refine (H1.out _).mono ?_
    rintro e w1 ⟨rfl, rfl⟩
    go_wp2_with fail
    refine (H2.out _).mono ?_
    rintro e w1 ⟨rfl, rfl⟩
    go_wp2_with fail
    go_ret
    exact ⟨rfl, rfl⟩

def thing (x : Nm) : Nm := 76 :: (x ++ [59])
set_option maxRecDepth 100000 in
set_option maxHeartbeats 400000 in
theorem thing_calls (x : Nm) (hx : x.length ≤ 1048576) (w : World) : Calls Tryz.prog 64 #[.string ⟨⟨x⟩⟩] w fun e w' => e = .returned (.string ⟨⟨thing x⟩⟩) ∧ w = w' := by
  unfold thing
  go_enter Tryz.func64, Tryz.ntmps64
  go_wp2_with fail
  go_ret
  exact ⟨by simp, rfl⟩

/-- the class in a right type -/
theorem base_lead (b : Bse) : ∀ c r, b.text = c :: r → c ≠ 91 := by
  intro c r h
  obtain ⟨c', r', h', h1, _⟩ := base_head b
  rw [h'] at h
  cases h
  exact h1
def TrimAt (t X : Nm) : Prop := ∀ w, Calls Tryz.prog 104 #[.string ⟨⟨t⟩⟩, .string ⟨#[91]⟩] w fun e w' => e = .returned (.string ⟨⟨X⟩⟩) ∧ w = w'
set_option maxRecDepth 100000 in
set_option maxHeartbeats 400000 in
theorem class_num (t : Nm) (c : UInt8) (hc : numB [c] = true) (h : TrimAt t [c]) (w : World) : Calls Tryz.prog 56 #[.string ⟨⟨t⟩⟩] w fun e w' => e = .returned (.string ⟨⟨[]⟩⟩) ∧ w = w' := by
  have HT := Lib.hid h
  have HN := Lib.hid (fun w => number_calls [c] w)
  rw [hc] at HN
  clear h hc
  go_enter Tryz.func56, Tryz.ntmps56
  go_wp2_with fail
  refine (HT.out _).mono ?_
  rintro e w1 ⟨rfl, rfl⟩
  go_wp2_with fail
  refine (HN.out _).mono ?_
  rintro e w1 ⟨rfl, rfl⟩
  go_wp2_with fail
  go_ret
  exact ⟨rfl, rfl⟩
set_option maxRecDepth 100000 in
set_option maxHeartbeats 400000 in
theorem class_thing (t n : Nm) (hn : n.length ≤ 1048576) (h : TrimAt t (thing n)) (w : World) : Calls Tryz.prog 56 #[.string ⟨⟨t⟩⟩] w fun e w' => e = .returned (.string ⟨⟨n⟩⟩) ∧ w = w' := by
  have HT := Lib.hid h
  have HN := Lib.hid (fun w => number_calls (thing n) w)
  have hc : numB (thing n) = false := by simp [numB, thing]
  rw [hc] at HN
  have hl : (thing n).length = n.length + 2 := by simp [thing]
  clear h hc
  go_enter Tryz.func56, Tryz.ntmps56
  go_wp2_with fail
  refine (HT.out _).mono ?_
  rintro e w1 ⟨rfl, rfl⟩
  go_wp2_with fail
  refine (HN.out _).mono ?_
  rintro e w1 ⟨rfl, rfl⟩
  go_wp2_with fail
  go_ret
  refine ⟨?_, rfl⟩
  rw [show List.take (n.length + 2 - 1 - 1) (thing n).tail = n by simp [thing]]
  rfl
theorem class_calls (d : Nat) (b : Bse) (hb : b.cl.length ≤ 1048576) (w : World) : Calls Tryz.prog 56 #[.string ⟨⟨(Kd.ty d b).text⟩⟩] w fun e w' => e = .returned (.string ⟨⟨b.cl⟩⟩) ∧ w = w' := by
  have HT : TrimAt (Kd.ty d b).text b.text := fun w => trimLeft_lead (List.replicate d 91) b.text (fun x hx => (List.mem_replicate.1 hx).2) (base_lead b) w
  cases b with
  | int => exact class_num _ 73 rfl HT w
  | long => exact class_num _ 74 rfl HT w
  | cls n => exact class_thing _ n hb HT w

theorem kind_none' {L : List ClassR} {d : Nat} {n : Nm} (hd : d ≤ 3) (hn : nameOk n = true) (hl : (look L n).isSome = false) : kindErr L (Kd.ty d (.cls n)).text = 3 := kind_none hd hn (by simpa using hl)

set_option maxRecDepth 100000 in
set_option maxHeartbeats 1000000 in
theorem kind_calls (l : List ClassR) (L : List CP) (b : Nat) (t : Nm) (w : World) (hW : WOk w b l L) (ht : t.length ≤ 8388608) :
    Calls Tryz.prog 28 #[.map (some b), .string ⟨⟨t⟩⟩] w fun e w' => e = .returned (errOf (kindErr (wl l) t)) ∧ Below w.heap.size w w' := by
  have HW := Lib.hid hW
  have HCL := Lib.hid hW.cl
  clear hW
  by_cases h78 : t = [78]
  · subst h78
    rw [kind_nt (Or.inl rfl), errOf_zero]
    go_enter Tryz.func28, Tryz.ntmps28
    go_wp2_with fail
    go_ret
    exact ⟨rfl, Below.refl _ _⟩
  by_cases h84 : t = [84]
  · subst h84
    rw [kind_nt (Or.inr rfl), errOf_zero]
    go_enter Tryz.func28, Tryz.ntmps28
    go_wp2_with fail
    go_ret
    exact ⟨rfl, Below.refl _ _⟩
  have q78 : (t == [78]) = false := by rw [beq_eq_false_iff_ne]; exact h78
  have q84 : (t == [84]) = false := by rw [beq_eq_false_iff_ne]; exact h84
  by_cases hok : TypeOk t
  · have HCK := Lib.hid (fun w => check_ok t hok w)
    clear h78 h84
    obtain ⟨d, x, rfl, hd, hx⟩ := type_kd.1 hok
    cases x with
    | int =>
      have HE := Lib.hid (show kindErr (wl l) (Kd.ty d .int).text = 0 from kind_ok (k := .ty d .int) ⟨hd, trivial⟩)
      have HC := Lib.hid (fun w => class_calls d .int (by simp [Bse.cl]) w)
      rw [HE.out, errOf_zero]
      simp only [Bse.cl] at HC
      generalize (Kd.ty d .int).text = t at *
      go_enter Tryz.func28, Tryz.ntmps28
      go_wp2_with fail
      refine (HCK.out _).mono ?_
      rintro e w1 ⟨rfl, hb1⟩
      have HB1 := Lib.hid hb1
      clear hb1
      go_wp2_with fail
      refine (HC.out _).mono ?_
      rintro e w2 ⟨rfl, rfl⟩
      go_wp2_with fail
      go_ret
      exact ⟨rfl, HB1.out⟩
    | long =>
      have HE := Lib.hid (show kindErr (wl l) (Kd.ty d .long).text = 0 from kind_ok (k := .ty d .long) ⟨hd, trivial⟩)
      have HC := Lib.hid (fun w => class_calls d .long (by simp [Bse.cl]) w)
      rw [HE.out, errOf_zero]
      simp only [Bse.cl] at HC
      generalize (Kd.ty d .long).text = t at *
      go_enter Tryz.func28, Tryz.ntmps28
      go_wp2_with fail
      refine (HCK.out _).mono ?_
      rintro e w1 ⟨rfl, hb1⟩
      have HB1 := Lib.hid hb1
      clear hb1
      go_wp2_with fail
      refine (HC.out _).mono ?_
      rintro e w2 ⟨rfl, rfl⟩
      go_wp2_with fail
      go_ret
      exact ⟨rfl, HB1.out⟩
    | cls n =>
      have hn := hx n rfl
      have hl := name_len hn
      have hml : n.length ≤ maxLen := by unfold maxLen; omega
      have hne : List.isEmpty n = false := by cases n with | nil => simp at hl | cons x r => rfl
      have HC := Lib.hid (fun w => class_calls d (.cls n) (by simp [Bse.cl]; omega) w)
      simp only [Bse.cl] at HC
      cases hs : (look (wl l) n).isSome with
      | false =>
        have HE := Lib.hid (kind_none' hd hn hs)
        rw [HE.out]
        have E3 : errOf 3 = errV 3 := rfl
        rw [E3]
        generalize (Kd.ty d (.cls n)).text = t at *
        clear E3 hx hok
        go_enter Tryz.func28, Tryz.ntmps28
        go_wp2_with fail
        refine (HCK.out _).mono ?_
        rintro e w1 ⟨rfl, hb1⟩
        have HB1 := Lib.hid hb1
        have hlk := cur_look2 (n := n) (HW.out.below hb1).at_ hml
        rw [HCL.out, hs] at hlk
        unfold classV at hlk
        have hs1 := hb1.size
        clear hb1 hs
        go_wp2_with fail
        refine (HC.out _).mono ?_
        rintro e w2 ⟨rfl, rfl⟩
        go_wp2_with fail
        go_ret
        exact ⟨rfl, HB1.out.alloc hs1 _⟩
      | true =>
        have HE := Lib.hid (show kindErr (wl l) (Kd.ty d (.cls n)).text = 0 from kind_ok (k := .ty d (.cls n)) ⟨hd, hn, hs⟩)
        rw [HE.out, errOf_zero]
        generalize (Kd.ty d (.cls n)).text = t at *
        clear hx hok
        go_enter Tryz.func28, Tryz.ntmps28
        go_wp2_with fail
        refine (HCK.out _).mono ?_
        rintro e w1 ⟨rfl, hb1⟩
        have HB1 := Lib.hid hb1
        have hlk := cur_look2 (n := n) (HW.out.below hb1).at_ hml
        rw [HCL.out, hs] at hlk
        unfold classV at hlk
        have hs1 := hb1.size
        clear hb1 hs
        go_wp2_with fail
        refine (HC.out _).mono ?_
        rintro e w2 ⟨rfl, rfl⟩
        go_wp2_with fail
        go_ret
        exact ⟨rfl, HB1.out.alloc hs1 _⟩
  · have HCK := Lib.hid (fun w => check_bad t hok (by omega) w)
    rw [kind_bad (by rintro (e | e) <;> contradiction) hok]
    clear h78 h84
    have E1 : errOf 1 = errV 1 := rfl
    rw [E1]
    clear hok E1
    go_enter Tryz.func28, Tryz.ntmps28
    go_wp2_with fail
    refine (HCK.out _).mono ?_
    rintro e w1 ⟨rfl, hb1⟩
    have HB1 := Lib.hid hb1
    clear hb1
    go_wp2_with fail
    go_ret
    exact ⟨rfl, HB1.out⟩
end Go.Proofs.YtanjggdmgeedlaaGreatDoor
