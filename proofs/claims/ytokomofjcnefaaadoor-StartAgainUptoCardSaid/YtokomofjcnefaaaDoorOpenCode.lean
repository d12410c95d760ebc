/-
  A slice of instructions that came in.
-/
import Derived.Test.YtokomofjcnefaaaDoorOpen
import Derived.Test.YtokomofjcnefaaaDoorCode
namespace Go.Proofs.YtokomofjcnefaaaDoor
set_option linter.unusedVariables false
set_option linter.unusedSimpArgs false
open Go.RowKit Go.ChangeShapes Go.WideShapes Go.Deep

section
variable {H : Type} {enc : TypeId × Value → H} {W : World}

/-- what an instruction's datum says of its texts -/
def InsIs (x : InsR) (cs : List Value) (d : DataW H) : Prop :=
  cs = insCells x ∧ x.ty.length < Rows.uptoBulk d ∧ x.cl.length < Rows.uptoBulk d ∧ x.nm.length < Rows.uptoBulk d ∧ (-9223372036854775808 ≤ x.a ∧ x.a ≤ 9223372036854775807) ∧ (-9223372036854775808 ≤ x.b ∧ x.b ≤ 9223372036854775807)

theorem string_is {t : TypeId} (ht : Tryd.prog.underlying t = some .string) {fuel : Nat} {c : Value} {y : DataW H × List MemPlace} (h : DataW.trod enc Tryd.prog W 0 (fun _ => true) true fuel t [c] = some y) : ∃ l : List UInt8, c = .string ⟨⟨l⟩⟩ ∧ l.length ≤ maxLen ∧ Rows.uptoBulk y.1 = l.length + 1 := by
  obtain ⟨s, h1, rfl, h3⟩ := DataW.trod_string ht h
  obtain ⟨⟨l⟩⟩ := s
  refine ⟨l, by simpa using h1, h3, rfl⟩
theorem int_is {t : TypeId} (ht : Tryd.prog.underlying t = some (.int .i64)) {fuel : Nat} {c : Value} {y : DataW H × List MemPlace} (h : DataW.trod enc Tryd.prog W 0 (fun _ => true) true fuel t [c] = some y) : ∃ n : Int, c = .int .i64 n ∧ (Lit.int .i64 n).wf = true := by
  obtain ⟨n, h1, rfl, h3⟩ := DataW.trod_int ht h
  exact ⟨n, by simpa using h1, h3⟩
theorem i64_bounds {n : Int} (h : (Lit.int .i64 n).wf = true) : -9223372036854775808 ≤ n ∧ n ≤ 9223372036854775807 := by
  simpa [Lit.wf, IntKind.min, IntKind.max, IntKind.signed, IntKind.bits] using h
theorem bool_is {t : TypeId} (ht : Tryd.prog.underlying t = some .bool) {fuel : Nat} {c : Value} {y : DataW H × List MemPlace} (h : DataW.trod enc Tryd.prog W 0 (fun _ => true) true fuel t [c] = some y) : ∃ b : Bool, c = .bool b := by
  obtain ⟨n, h1, rfl⟩ := DataW.trod_bool ht h
  exact ⟨n, by simpa using h1⟩

theorem cells_str : Tryd.prog.cellsOf 9 = 1 := by kernel_rfl
theorem cells_int : Tryd.prog.cellsOf 3 = 1 := by kernel_rfl
theorem cells_bool : Tryd.prog.cellsOf 4 = 1 := by kernel_rfl
theorem cells_Ins : Tryd.prog.cellsOf 122 = 6 := by kernel_rfl

theorem list6 {α : Type} : ∀ {l : List α}, l.length = 6 → ∃ a b c d e f, l = [a, b, c, d, e, f]
  | [a, b, c, d, e, f], _ => ⟨a, b, c, d, e, f, rfl⟩

set_option maxRecDepth 10000 in
theorem open_ins {fuel : Nat} {cs : List Value} {d : DataW H} {p : List MemPlace} (h : DataW.trod enc Tryd.prog W 0 (fun _ => true) true fuel 122 cs = some (d, p)) (hl : cs.length = 6) : ∃ x, InsIs x cs d := by
  obtain ⟨ys, n, _, hx, _, hyl, hf⟩ := DataW.trod_struct Tryd.underlying122 h
  simp only [Prod.mk.injEq] at hx
  obtain ⟨rfl, _⟩ := hx
  obtain ⟨c0, c1, c2, c3, c4, c5, rfl⟩ := list6 hl
  obtain ⟨y0, _, m0, h0⟩ := field_one hyl hf 0 _ rfl rfl cells_int c0 rfl
  obtain ⟨y1, _, m1, h1⟩ := field_one hyl hf 1 _ rfl rfl cells_int c1 rfl
  obtain ⟨y2, _, m2, h2⟩ := field_one hyl hf 2 _ rfl rfl cells_int c2 rfl
  obtain ⟨y3, _, m3, h3⟩ := field_one hyl hf 3 _ rfl rfl cells_str c3 rfl
  obtain ⟨y4, _, m4, h4⟩ := field_one hyl hf 4 _ rfl rfl cells_str c4 rfl
  obtain ⟨y5, _, m5, h5⟩ := field_one hyl hf 5 _ rfl rfl cells_str c5 rfl
  obtain ⟨op, rfl, _⟩ := int_is Tryd.underlying3 h0
  obtain ⟨a, rfl, wa⟩ := int_is Tryd.underlying3 h1
  obtain ⟨b, rfl, wb⟩ := int_is Tryd.underlying3 h2
  obtain ⟨ty, rfl, _, b3⟩ := string_is Tryd.underlying9 h3
  obtain ⟨cl, rfl, _, b4⟩ := string_is Tryd.underlying9 h4
  obtain ⟨nm, rfl, _, b5⟩ := string_is Tryd.underlying9 h5
  have e3 := bulk_agg m3
  have e4 := bulk_agg m4
  have e5 := bulk_agg m5
  exact ⟨⟨op, a, b, ty, cl, nm⟩, rfl, by simp only; omega, by simp only; omega, by simp only; omega, i64_bounds wa, i64_bounds wb⟩

set_option maxRecDepth 10000 in
/-- an instruction by value -/
theorem open_insV {r : Reach} {base : Nat} {v : Value} {d : DataW H} {p : List MemPlace} (hv : Value.okWide Tryd.prog W r base 122 v) (h : DataW.Trod enc Tryd.prog W 0 (fun _ => true) true 122 v d p) : ∃ x, v = insV x ∧ InsIs x (insCells x) d := by
  obtain ⟨cs, rfl, hsz⟩ := okWide_struct Tryd.underlying122 hv
  obtain ⟨l⟩ := cs
  obtain ⟨fuel, hf⟩ := h
  have hf' : DataW.trod enc Tryd.prog W 0 (fun _ => true) true fuel 122 l = some (d, p) := hf
  have hl : l.length = 6 := by rw [← cells_Ins]; exact hsz
  obtain ⟨x, hx⟩ := open_ins hf' hl
  have hc := hx.1
  subst hc
  exact ⟨x, rfl, hx⟩

theorem open_code {fuel : Nat} {cs : List Value} {d : DataW H} {p : List MemPlace} (h : DataW.trod enc Tryd.prog W 0 (fun _ => true) true fuel 40 cs = some (d, p)) :
    ∃ a cap l, cs = [.slice a (l : List InsR).length cap] ∧ CodeAt W a cap l ∧ l.length ≤ Rows.uptoBulk d ∧ ∀ x ∈ l, x.ty.length ≤ Rows.uptoBulk d ∧ x.cl.length ≤ Rows.uptoBulk d ∧ x.nm.length ≤ Rows.uptoBulk d ∧ (-9223372036854775808 ≤ x.a ∧ x.a ≤ 9223372036854775807) ∧ (-9223372036854775808 ≤ x.b ∧ x.b ≤ 9223372036854775807) := by
  obtain ⟨a, cap, L, rfl, hlc, _, _, hbl, hr⟩ := open_list Tryd.underlying40 cells_Ins (by decide) (InsIs (H := H)) (fun fuel cs d p h hl => open_ins h hl) h
  refine ⟨a, cap, L, rfl, ⟨by rw [List.length_map]; exact hlc, ?_⟩, by omega, ?_⟩
  · rcases hr with rfl | ⟨b, off, rfl, hb, hc⟩
    · exact Or.inl rfl
    · refine Or.inr ⟨b, off, rfl, hb, fun k cs hk j u hu => ?_⟩
      rw [List.getElem?_map] at hk
      cases hx : L[k]? with
      | none => rw [hx] at hk; cases hk
      | some x =>
        rw [hx] at hk
        simp only [Option.map_some, Option.some.injEq] at hk
        subst hk
        obtain ⟨cs, d', ⟨rfl, _⟩, _, hcell⟩ := hc k x hx
        exact hcell j u hu
  · intro x hx
    rcases hr with rfl | ⟨b, off, rfl, hb, hc⟩
    · cases hx
    · obtain ⟨k, hk, rfl⟩ := List.getElem_of_mem hx
      obtain ⟨cs, d', ⟨_, h1, h2, h3, h5, h6⟩, h4, _⟩ := hc k _ (List.getElem?_eq_getElem hk)
      exact ⟨by omega, by omega, by omega, h5, h6⟩
end
end Go.Proofs.YtokomofjcnefaaaDoor
