/-
  The walk of desc.Method: it reads exactly the method types.
-/
import Derived.Test.YtokomofjcnefaaaDoorDesc
import Derived.Test.YtokomofjcnefaaaDoorPMeth
import Derived.Lib.SlicesS
namespace Go.Proofs.YtokomofjcnefaaaDoor
set_option linter.unusedVariables false
set_option linter.unusedSimpArgs false
open Go.RowKit Go.Shelf Go.Lib

theorem info_str : (Tryd.prog.info? 9).map (fun i => (i.zero, i.size, i.bytes)) = some (some (.string ByteArray.empty), 1, 16) := by kernel_rfl

abbrev strV (t : List UInt8) : Value := .string ⟨⟨t⟩⟩

theorem cutPrefix40_yes (s : List UInt8) (w : World) : Calls Tryd.prog 82 #[.string ⟨⟨40 :: s⟩⟩, .string ⟨#[40]⟩] w fun e w' => e = .returned (.tuple #[.string ⟨⟨s⟩⟩, .bool true]) ∧ w = w' := by
  have h := Tryd.strings_CutPrefix ⟨⟨40 :: s⟩⟩ ⟨#[40]⟩ w
  exact h.mono fun e w' ⟨h1, h2⟩ => ⟨by rw [h1]; rfl, h2.symm⟩
theorem cutPrefix40_no (m : List UInt8) (hm : ∀ s, m ≠ 40 :: s) (w : World) : Calls Tryd.prog 82 #[.string ⟨⟨m⟩⟩, .string ⟨#[40]⟩] w fun e w' => e = .returned (.tuple #[.string ⟨⟨m⟩⟩, .bool false]) ∧ w = w' := by
  have h := Tryd.strings_CutPrefix ⟨⟨m⟩⟩ ⟨#[40]⟩ w
  have hp : hasPrefix m [40] = false := by
    cases m with
    | nil => rfl
    | cons x r =>
      have : x ≠ 40 := fun e => hm r (by rw [e])
      simp [hasPrefix, List.isPrefixOf, this.symm]
  refine h.mono fun e w' ⟨h1, h2⟩ => ⟨?_, h2.symm⟩
  rw [h1]
  simp only [trimPrefix, hp]
  rfl
theorem hasPrefix41_yes (s : List UInt8) (w : World) : Calls Tryd.prog 83 #[.string ⟨⟨41 :: s⟩⟩, .string ⟨#[41]⟩] w fun e w' => e = .returned (.bool true) ∧ w = w' := by
  have h := Tryd.strings_HasPrefix ⟨⟨41 :: s⟩⟩ ⟨#[41]⟩ w
  exact h.mono fun e w' ⟨h1, h2⟩ => ⟨by rw [h1]; rfl, h2.symm⟩
theorem pre41_no {m : List UInt8} (hm : ∀ s, m ≠ 41 :: s) : hasPrefix m [41] = false := by
  cases m with
  | nil => rfl
  | cons x r =>
    have : x ≠ 41 := fun e => hm r (by rw [e])
    simp [hasPrefix, List.isPrefixOf, this.symm]
theorem hasPrefix41_no (m : List UInt8) (hm : ∀ s, m ≠ 41 :: s) (w : World) : Calls Tryd.prog 83 #[.string ⟨⟨m⟩⟩, .string ⟨#[41]⟩] w fun e w' => e = .returned (.bool false) ∧ w = w' := by
  have h := Tryd.strings_HasPrefix ⟨⟨m⟩⟩ ⟨#[41]⟩ w
  refine h.mono fun e w' ⟨h1, h2⟩ => ⟨?_, h2.symm⟩
  rw [h1, show hasPrefix (⟨⟨m⟩⟩ : ByteArray).data.toList (⟨#[41]⟩ : ByteArray).data.toList = false from pre41_no hm]
theorem trimPrefix41_yes (s : List UInt8) (w : World) : Calls Tryd.prog 84 #[.string ⟨⟨41 :: s⟩⟩, .string ⟨#[41]⟩] w fun e w' => e = .returned (.string ⟨⟨s⟩⟩) ∧ w = w' := by
  have h := Tryd.strings_TrimPrefix ⟨⟨41 :: s⟩⟩ ⟨#[41]⟩ w
  exact h.mono fun e w' ⟨h1, h2⟩ => ⟨by rw [h1]; rfl, h2.symm⟩
theorem trimPrefix41_any (m : List UInt8) (w : World) : Calls Tryd.prog 84 #[.string ⟨⟨m⟩⟩, .string ⟨#[41]⟩] w fun e w' => (∃ g, e = .returned (.string ⟨⟨g⟩⟩)) ∧ w = w' := by
  have h := Tryd.strings_TrimPrefix ⟨⟨m⟩⟩ ⟨#[41]⟩ w
  exact h.mono fun e w' ⟨h1, h2⟩ => ⟨⟨_, h1⟩, h2.symm⟩

def strLen : Value → Nat | .string s => s.size | _ => 0
def bit : Value → Nat | .bool true => 1 | _ => 0

/-- the reader's state -/
def ReadRel (s : List UInt8) (B : Nat) (w : World) (rest : List UInt8) (b : Bool) (v : Value) (wr : World) : Prop :=
  Below B w wr ∧ ∃ A : List (List UInt8), wr.ownsRow B 9 1 v A.length (A.map strV) ∧ (∀ t ∈ A, TypeOk t) ∧ s = A.flatten ++ rest ∧ (b = false → (∀ t r, rest = t ++ r → ¬ TypeOk t) ∧ ∀ g, rest ≠ 41 :: g)

/-- what Method gives -/
def MethRes (m : List UInt8) (w : World) (e : Ending) (w' : World) : Prop :=
  Below w.heap.size w w' ∧ ((e = .returned (.tuple #[.slice none 0 0, .string ⟨#[]⟩, errV 1]) ∧ ∀ A g, ¬ MethodOk m A g) ∨
    ∃ v A g, e = .returned (.tuple #[v, .string ⟨⟨g⟩⟩, .nilIface]) ∧ MethodOk m A g ∧ w'.ownsRow w.heap.size 9 1 v A.length (A.map strV))

set_option maxRecDepth 100000 in
set_option maxHeartbeats 1000000 in
theorem method_noopen (m : List UInt8) (hm : ∀ s, m ≠ 40 :: s) (w : World) : Calls Tryd.prog 67 #[.string ⟨⟨m⟩⟩] w fun e w' => MethRes m w e w' := by
  have HC := Lib.hid (fun w => cutPrefix40_no m hm w)
  have HM := Lib.hid hm
  clear hm
  go_enter Tryd.func67, Tryd.ntmps67
  go_wp2_with fail
  refine (HC.out _).mono ?_
  rintro e w1 ⟨rfl, rfl⟩
  go_wp2_with fail
  refine wp_loop_rounds 1 ?_
  rw [rounds_succ]
  go_wp2_with fail
  refine (trimPrefix41_any m _).mono ?_
  rintro e w1 ⟨⟨g, rfl⟩, rfl⟩
  go_wp2_with fail
  go_ret3
  exact ⟨Below.refl _ _, Or.inl ⟨rfl, method_open HM.out⟩⟩

theorem read_step {s rest t r : List UInt8} {B : Nat} {w wr w1 w2 : World} {v v' : Value} {o : Obj} {A : List (List UInt8)} (hB : B ≤ wr.heap.size) (hw : Below B w wr) (hb1 : Below wr.heap.size wr w1) (ht : TypeOk t) (hA : ∀ t ∈ A, TypeOk t) (hs : s = A.flatten ++ rest) (hr : rest = t ++ r)
    (hown : w2.ownsRow B 9 1 v' (A.length + 1) (A.map strV ++ [strV t])) (hrow : ∀ j, v.ownBlock = some j → B ≤ j) (hg : (w1.alloc o).grownBy w2 v.ownBlock) : ReadRel s B w r true v' w2 := by
  refine ⟨((hw.trans (hb1.mono hB)).alloc (by have := hb1.size; omega) o).grown hg (by simp; have := hb1.size; omega) hrow, A ++ [t], ?_, ?_, ?_, by simp⟩
  · simpa using hown
  · intro x hx
    rcases List.mem_append.1 hx with h | h
    · exact hA x h
    · simp at h; rw [h]; exact ht
  · rw [hs, hr]; simp

set_option maxRecDepth 100000 in
set_option maxHeartbeats 1000000 in
theorem method_open_calls (s : List UInt8) (hl : s.length ≤ 8388608) (w : World) : Calls Tryd.prog 67 #[.string ⟨⟨40 :: s⟩⟩] w fun e w' => MethRes (40 :: s) w e w' := by
  obtain ⟨i0, hi, hz0, hz1, hz2⟩ := info_parts info_str
  have HC := Lib.hid (fun w => cutPrefix40_yes s w)
  obtain ⟨B, hB⟩ : ∃ B, B = w.heap.size := ⟨_, rfl⟩
  have HB := Lib.hid hB
  clear hB
  go_enter Tryd.func67, Tryd.ntmps67
  go_wp2_with fail
  refine (HC.out _).mono ?_
  rintro e w1 ⟨rfl, rfl⟩
  go_wp2_with fail
  go_loopw [5, 6, 7] (fun x y v wr => ∃ (rest : List UInt8) (b : Bool), x = .string ⟨⟨rest⟩⟩ ∧ y = .bool b ∧ ReadRel s B w rest b v wr) (fun x y _ _ => 2 * strLen x + bit y)
  case atStart => exact ⟨s, true, rfl, rfl, Below.refl _ _, [], by simpa using World.ownsRow_nil w B _ 1, by simp, by simp, by simp⟩
  case round =>
    obtain ⟨rest, b, rfl, rfl, hrel⟩ := hrel
    obtain ⟨hw, A, hown, hA, hs, hb⟩ := hrel
    have hAl := types_len A hA
    have hln := congrArg List.length hs
    rw [List.length_append] at hln
    have hr1 : rest.length ≤ 8388608 := by omega
    have ha1 : A.length ≤ 8388608 := by omega
    have HW := Lib.hid hw
    have HA := Lib.hid hA
    have HS := Lib.hid hs
    have HBB := Lib.hid hb
    clear hw hA hs hb hAl hln
    cases b with
    | false =>
      go_wp2_with fail
      refine (trimPrefix41_any rest _).mono ?_
      rintro e w1 ⟨⟨g, rfl⟩, rfl⟩
      go_wp2_with fail
      go_ret3
      have h := HB.out
      subst h
      exact ⟨HW.out, Or.inl ⟨rfl, method_none HA.out HS.out (HBB.out trivial).1 (HBB.out trivial).2⟩⟩
    | true =>
      by_cases h41 : ∃ g, rest = 41 :: g
      · obtain ⟨g, rfl⟩ := h41
        clear HBB
        simp only [List.length_cons] at hr1
        have HH := Lib.hid (fun w => hasPrefix41_yes g w)
        have HT := Lib.hid (fun w => trimPrefix41_yes g w)
        by_cases h5 : 5 < A.length
        · go_wp2_with fail
          refine (HH.out _).mono ?_
          rintro e w1 ⟨rfl, rfl⟩
          go_wp2_with fail
          refine (HT.out _).mono ?_
          rintro e w1 ⟨rfl, rfl⟩
          obtain ⟨C, hv⟩ : ∃ C : Option Addr × Nat, u7 = .slice C.1 A.length C.2 := by
            rcases hown.2 with ⟨h, h0⟩ | ⟨g2, c2, _, h, _⟩
            · omega
            · exact ⟨(some ⟨g2, 0, none⟩, c2), h⟩
          subst hv
          go_wp2_with fail
          go_ret3
          have h := HB.out
          subst h
          exact ⟨HW.out, Or.inl ⟨rfl, method_wrong HA.out HS.out (Or.inl h5)⟩⟩
        · obtain ⟨C, hv⟩ : ∃ C : Option Addr × Nat, u7 = .slice C.1 A.length C.2 := by
            rcases hown.2 with ⟨h, h0⟩ | ⟨g2, c2, _, h, _⟩
            · exact ⟨(none, 0), by rw [h, h0]⟩
            · exact ⟨(some ⟨g2, 0, none⟩, c2), h⟩
          have HO := Lib.hid hown
          clear hown
          subst hv
          by_cases hV : g = [86]
          · subst hV
            go_wp2_with fail
            refine (HH.out _).mono ?_
            rintro e w1 ⟨rfl, rfl⟩
            go_wp2_with fail
            refine (HT.out _).mono ?_
            rintro e w1 ⟨rfl, rfl⟩
            go_wp2_with fail
            go_ret3
            have h := HB.out
            subst h
            exact ⟨HW.out, Or.inr ⟨_, A, [86], rfl, ⟨by rw [HS.out], HA.out, by omega, Or.inl rfl⟩, HO.out⟩⟩
          · have hq : (g == [86]) = false := by rw [beq_eq_false_iff_ne]; exact hV
            by_cases hg : TypeOk g
            · have HK := Lib.hid (fun w => check_ok g hg w)
              have HG := Lib.hid hg
              have HVV := Lib.hid hV
              clear hg
              go_wp2_with fail
              refine (HH.out _).mono ?_
              rintro e w1 ⟨rfl, rfl⟩
              go_wp2_with fail
              refine (HT.out _).mono ?_
              rintro e w1 ⟨rfl, rfl⟩
              go_wp2_with fail
              refine (HK.out _).mono ?_
              rintro e w1 ⟨rfl, hb1⟩
              go_wp2_with fail
              go_ret3
              have h := HB.out
              subst h
              have hown1 : w1.ownsRow w.heap.size 9 1 (.slice C.1 A.length C.2) A.length (A.map strV) := HO.out.kept (row := none) ⟨hb1.os, hb1.tape, hb1.output, hb1.size, fun k hk _ => hb1.block k hk⟩ (by cases hv : Value.ownBlock (.slice C.1 A.length C.2) <;> simp)
              exact ⟨HW.out.trans (hb1.mono HW.out.size), Or.inr ⟨_, A, g, rfl, ⟨by rw [HS.out], HA.out, by omega, Or.inr HG.out⟩, hown1⟩⟩
            · have HK := Lib.hid (fun w => check_bad g hg (by omega) w)
              have HG := Lib.hid hg
              have HVV := Lib.hid hV
              clear hg
              go_wp2_with fail
              refine (HH.out _).mono ?_
              rintro e w1 ⟨rfl, rfl⟩
              go_wp2_with fail
              refine (HT.out _).mono ?_
              rintro e w1 ⟨rfl, rfl⟩
              go_wp2_with fail
              refine (HK.out _).mono ?_
              rintro e w1 ⟨rfl, hb1⟩
              go_wp2_with fail
              go_ret3
              have h := HB.out
              subst h
              have hown1 : w1.ownsRow w.heap.size 9 1 (.slice C.1 A.length C.2) A.length (A.map strV) := HO.out.kept (row := none) ⟨hb1.os, hb1.tape, hb1.output, hb1.size, fun k hk _ => hb1.block k hk⟩ (by cases hv : Value.ownBlock (.slice C.1 A.length C.2) <;> simp)
              exact ⟨HW.out.trans (hb1.mono HW.out.size), Or.inl ⟨rfl, method_wrong HA.out HS.out (Or.inr (fun h => h.elim (fun e => HVV.out e) (fun e => HG.out e)))⟩⟩
      · have h41' : ∀ g, rest ≠ 41 :: g := fun g e => h41 ⟨g, e⟩
        have HH := Lib.hid (fun w => hasPrefix41_no rest h41' w)
        have H41 := Lib.hid h41'
        clear h41 h41' HBB
        by_cases hc : ∃ t r, rest = t ++ r ∧ TypeOk t
        · obtain ⟨t, r, rfl, ht⟩ := hc
          rw [List.length_append] at hr1
          have HCU := Lib.hid (fun w => cut_yes t r ht (by omega) w)
          have hpos := type_pos ht
          have HT := Lib.hid ht
          clear ht
          go_wp2_with fail
          refine (HH.out _).mono ?_
          rintro e w1 ⟨rfl, rfl⟩
          go_wp2_with fail
          refine (HCU.out _).mono ?_
          rintro e w1 ⟨rfl, hb1⟩
          have hown1 : w1.ownsRow B 9 1 u7 A.length (A.map strV) := hown.kept (row := none) ⟨hb1.os, hb1.tape, hb1.output, hb1.size, fun k hk _ => hb1.block k hk⟩ (by cases hv : Value.ownBlock u7 <;> simp)
          have hs1 : B ≤ w1.heap.size := by have := hb1.size; have := HW.out.size; have := HB.out; omega
          have HB1 := Lib.hid hb1
          clear hb1 hown
          go_wp2_with (at_builtin; refine wpList_append_own _ rfl _ _ 24 rfl B 9 i0 (.string ByteArray.empty) 1 16 Tryd.underlying24 hi hz0 hz1 hz2 rfl (by decide) _ _ _ rfl (hown1.alloc _) ⟨w1.heap.size, 0, none⟩ 1 1 [strV t] rfl rfl ?c1 ?c2 ?c3 ?c4 ?c5 ?_)
          case c1 => exact fun j v hj => new_cells w1 [strV t] 9 j v hj
          case c2 => intro x hx; simp only [List.mem_cons, List.mem_nil_iff, or_false] at hx; rcases hx with rfl; rfl
          case c3 => unfold maxLen; omega
          case c4 => omega
          case c5 => simp; omega
          intro v' w2 ho hg _
          have HN := Lib.hid (read_step (by have := HW.out.size; have := HB.out; omega) HW.out HB1.out HT.out HA.out HS.out rfl ho (fun j hj => (hown1.lt j hj).1) hg)
          clear ho hg hown1 HW HA HS HT HB1 HH HCU H41
          go_wp2_with fail
          go_roundw
          case rel => exact ⟨r, true, rfl, rfl, HN.out⟩
          case measure =>
            simp [strLen, bit, ByteArray.size]
            omega
        · have hc' : ∀ t r, rest = t ++ r → ¬ TypeOk t := fun t r e h => hc ⟨t, r, e, h⟩
          have hcu := fun w => cut_no rest hc' (by omega) w
          unfold NoCut at hcu
          have HCU := Lib.hid hcu
          have HCC := Lib.hid hc'
          clear hcu hc hc'
          have HO := Lib.hid hown
          clear hown
          go_wp2_with fail
          refine (HH.out _).mono ?_
          rintro e w1 ⟨rfl, rfl⟩
          go_wp2_with fail
          refine (HCU.out _).mono ?_
          rintro e w1 ⟨rfl, hb1⟩
          have hown1 : w1.ownsRow B 9 1 u7 A.length (A.map strV) := HO.out.kept (row := none) ⟨hb1.os, hb1.tape, hb1.output, hb1.size, fun k hk _ => hb1.block k hk⟩ (by cases hv : Value.ownBlock u7 <;> simp)
          have HN : Hid (ReadRel s B w rest false u7 w1) := ⟨HW.out.trans (hb1.mono (by have := HW.out.size; have := HB.out; omega)), A, hown1, HA.out, HS.out, fun _ => ⟨HCC.out, H41.out⟩⟩
          clear hb1 hown1 HW HA HS HH HCU HCC HO H41
          go_wp2_with fail
          go_roundw
          case rel => exact ⟨rest, false, rfl, rfl, HN.out⟩
          case measure => simp [strLen, bit]

theorem method_calls (m : List UInt8) (hl : m.length ≤ 8388608) (w : World) : Calls Tryd.prog 67 #[.string ⟨⟨m⟩⟩] w fun e w' => MethRes m w e w' := by
  by_cases h : ∃ s, m = 40 :: s
  · obtain ⟨s, rfl⟩ := h
    exact method_open_calls s (by simp at hl; omega) w
  · exact method_noopen m (fun s e => h ⟨s, e⟩) w
end Go.Proofs.YtokomofjcnefaaaDoor
