/-
  Handles as arguments: a tree that came in, opened.
-/
import Derived.Test.YtkobgmacoakelaaDoorHand1
import Derived.Test.YtkobgmacoakelaaDoorOpen
namespace Go.Proofs.YtkobgmacoakelaaDoor
set_option linter.unusedVariables false
set_option linter.unusedSimpArgs false
open Go.RowKit Go.ChangeShapes Go.WideShapes Go.Deep Go.Lib

section
variable {H : Type} {enc : TypeId × Value → H} {W : World}

theorem hd_string {t : TypeId} (ht : Tryd.prog.underlying t = some .string) {fuel : Nat} {c : Value} {y : DataW H × List MemPlace} (h : DataW.trod enc Tryd.prog W 0 (fun _ => true) true fuel t [c] = some y) : ∃ l : List UInt8, c = .string ⟨⟨l⟩⟩ ∧ Rows.uptoBulk y.1 = l.length + 1 := by
  obtain ⟨s, h1, rfl, h3⟩ := DataW.trod_string ht h
  obtain ⟨⟨l⟩⟩ := s
  exact ⟨l, by simpa using h1, rfl⟩
theorem hd_int {t : TypeId} (ht : Tryd.prog.underlying t = some (.int .i64)) {fuel : Nat} {c : Value} {y : DataW H × List MemPlace} (h : DataW.trod enc Tryd.prog W 0 (fun _ => true) true fuel t [c] = some y) : ∃ n : Int, c = .int .i64 n ∧ -9223372036854775808 ≤ n ∧ n ≤ 9223372036854775807 := by
  obtain ⟨n, h1, rfl, h3⟩ := DataW.trod_int ht h
  exact ⟨n, by simpa using h1, by simpa [Lit.wf, IntKind.min, IntKind.max, IntKind.signed, IntKind.bits] using h3⟩

/-- open_list, the elements read with less fuel -/
theorem open_list_at {t e : TypeId} {size : Nat} {fuel : Nat} (ht : Tryd.prog.underlying t = some (.slice e)) (hC : Tryd.prog.cellsOf e = size) (hs : 0 < size) {α : Type} (R : α → List Value → DataW H → Prop)
    (hel : ∀ n, n < fuel → ∀ cs d p, DataW.trod enc Tryd.prog W 0 (fun _ => true) true n e cs = some (d, p) → cs.length = size → ∃ x, R x cs d) {cs0 : List Value} {d : DataW H} {p : List MemPlace}
    (h : DataW.trod enc Tryd.prog W 0 (fun _ => true) true fuel t cs0 = some (d, p)) : ∃ a cap L, cs0 = [.slice a L.length cap] ∧ L.length ≤ cap ∧ ListAt W size a cap R L d := by
  rcases DataW.trod_slice ht h with ⟨rfl, hx⟩ | ⟨a, len, cap, elems, rest, n, hfu, rfl, hx, _, hlc, _, hlen, hi, _, _⟩
  · simp only [Prod.mk.injEq] at hx
    exact ⟨none, 0, [], rfl, by simp, by simp, by simp, Or.inl rfl⟩
  · simp only [Prod.mk.injEq] at hx
    obtain ⟨rfl, _⟩ := hx
    have hex : ∀ i, i < len → ∃ x : α, ∃ cs y, elems[i]? = some y ∧ R x cs y.1 ∧ W.cells? 0 (a.add (i * size)) size = some cs := by
      intro i hil
      have h1 := hi i hil
      obtain ⟨y, hy⟩ : ∃ y, elems[i]? = some y := ⟨_, List.getElem?_eq_getElem (by omega)⟩
      rw [hy, Option.bind_eq_some_iff] at h1
      obtain ⟨cs, hc, h2⟩ := h1
      rw [hC] at hc
      obtain ⟨x, hx⟩ := hel n (by omega) cs y.1 y.2 h2 (World.cells?_some hc).2.1
      exact ⟨x, cs, y, hy, hx, hc⟩
    obtain ⟨L, hL, hp⟩ := choose_list len hex
    refine ⟨some a, cap, L, by rw [hL], by omega, by omega, ?_, ?_⟩
    · have := bulk_slice (elems.map (·.1)) (rest.map (·.1))
      simp only [List.length_map] at this
      omega
    · by_cases h0 : len = 0
      · exact Or.inl (List.eq_nil_of_length_eq_zero (by omega))
      right
      obtain ⟨x0, hx0⟩ : ∃ x, L[0]? = some x := ⟨_, List.getElem?_eq_getElem (by omega)⟩
      obtain ⟨cs, _, _, _, hc0⟩ := hp 0 x0 hx0
      obtain ⟨_, hl0, hat⟩ := World.cells?_some hc0
      obtain ⟨u, hu⟩ : ∃ u, cs[0]? = some u := ⟨_, List.getElem?_eq_getElem (by omega)⟩
      have hcell := hat 0 hs
      rw [hu] at hcell
      obtain ⟨b, off, spot⟩ := a
      have hspot : spot = none := by simpa [Addr.add] using World.cell?_spot hcell
      subst hspot
      refine ⟨b, off, rfl, ?_, fun k x hk => ?_⟩
      · have := World.block_lt_of_cell? W _ hcell
        simpa [Addr.add] using this
      · obtain ⟨cs, y, hy, hR, hc⟩ := hp k x hk
        obtain ⟨_, hlk, hatk⟩ := World.cells?_some hc
        refine ⟨cs, y.1, hR, ?_, fun j u hj => ?_⟩
        · have h1 : y.1 ∈ elems.map (·.1) := List.mem_map.2 ⟨y, List.mem_of_getElem? hy, rfl⟩
          have h2 := bulk_part h1
          simp only [Rows.uptoBulk]
          omega
        · have hjl : j < size := by have := (List.getElem?_eq_some_iff.1 hj).1; omega
          have h1 := hatk j hjl
          rw [hj] at h1
          rw [addr_add, addr_add] at h1
          exact h1

theorem hd_list5 {α : Type} : ∀ {l : List α}, l.length = 5 → ∃ a b c d e, l = [a, b, c, d, e]
  | [a, b, c, d, e], _ => ⟨a, b, c, d, e, rfl⟩
theorem hd_cInt : Tryd.prog.cellsOf 3 = 1 := by kernel_rfl
theorem hd_cStr : Tryd.prog.cellsOf 9 = 1 := by kernel_rfl
theorem hd_cInts : Tryd.prog.cellsOf 22 = 1 := by kernel_rfl
theorem hd_cHds : Tryd.prog.cellsOf 23 = 1 := by kernel_rfl
theorem hd_cHd : Tryd.prog.cellsOf 25 = 5 := by kernel_rfl

def HdIs (W : World) (h : Hd) (cs : List Value) (d : DataW H) : Prop := cs = hdCells h ∧ (Rows.uptoBulk d ≤ 1048576 → HdOk W h)
def IntIs (x : Int) (cs : List Value) (_ : DataW H) : Prop := cs = [.int .i64 x]

theorem open_hd : ∀ (fuel : Nat) (cs : List Value) (d : DataW H) (p : List MemPlace), DataW.trod enc Tryd.prog W 0 (fun _ => true) true fuel 25 cs = some (d, p) → cs.length = 5 → ∃ h, HdIs W h cs d := by
  intro fuel
  induction fuel using Nat.strongRecOn with
  | _ fuel ih =>
    intro cs d p h hl
    obtain ⟨ys, n, hfu, hx, _, hyl, hf⟩ := DataW.trod_struct Tryd.underlying25 h
    simp only [Prod.mk.injEq] at hx
    obtain ⟨rfl, _⟩ := hx
    obtain ⟨c0, c1, c2, c3, c4, rfl⟩ := hd_list5 hl
    obtain ⟨y0, _, m0, h0⟩ := field_one hyl hf 0 _ rfl rfl hd_cInt c0 rfl
    obtain ⟨y1, _, m1, h1⟩ := field_one hyl hf 1 _ rfl rfl hd_cStr c1 rfl
    obtain ⟨y2, _, m2, h2⟩ := field_one hyl hf 2 _ rfl rfl hd_cInt c2 rfl
    obtain ⟨y3, _, m3, h3⟩ := field_one hyl hf 3 _ rfl rfl hd_cInts c3 rfl
    obtain ⟨y4, _, m4, h4⟩ := field_one hyl hf 4 _ rfl rfl hd_cHds c4 rfl
    obtain ⟨k, rfl, hk⟩ := hd_int Tryd.underlying3 h0
    obtain ⟨ty, rfl, b1⟩ := hd_string Tryd.underlying9 h1
    obtain ⟨a, rfl, _⟩ := hd_int Tryd.underlying3 h2
    obtain ⟨pa, pc, pos, e3, hpc, hbp, hpl⟩ := open_list_at Tryd.underlying22 hd_cInt (by decide) (IntIs (H := H)) (fun n _ cs d p h hl => by
      match cs, hl with
      | [c], _ => obtain ⟨x, rfl, _⟩ := hd_int Tryd.underlying3 h; exact ⟨x, rfl⟩) (d := y3.1) (p := y3.2) h3
    obtain ⟨sa, sc, subs, e4, hsc, hbs, hsl⟩ := open_list_at Tryd.underlying23 hd_cHd (by decide) (HdIs (H := H) W) (fun m hm cs d p h hl => ih m (by omega) cs d p h hl) (d := y4.1) (p := y4.2) h4
    simp only [List.cons.injEq, and_true] at e3 e4
    subst e3
    subst e4
    have g1 := bulk_agg m1
    have g3 := bulk_agg m3
    have g4 := bulk_agg m4
    refine ⟨.mk k ty a pos pa pc subs sa sc, rfl, fun hb => ⟨_, ?_, ?_, ?_, ?_, ?_, hk, ?_⟩⟩
    · refine ⟨by rw [List.length_map]; exact hpc, ?_⟩
      rcases hpl.2 with h | ⟨b, off, rfl, hlt, hc⟩
      · left; show pos.map _ = []; rw [h]; rfl
      · refine Or.inr ⟨b, off, rfl, hlt, fun j x hj => ?_⟩
        rw [List.getElem?_map] at hj
        change Option.map _ pos[j]? = _ at hj
        cases hz : pos[j]? with
        | none => rw [hz] at hj; cases hj
        | some z =>
          rw [hz] at hj
          simp only [Option.map_some, Option.some.injEq] at hj
          subst hj
          obtain ⟨cs, d', hR, _, hcell⟩ := hc j z hz
          subst hR
          have := hcell 0 _ rfl
          simpa using this
    · refine ⟨by rw [List.length_map]; exact hsc, ?_⟩
      rcases hsl.2 with h | ⟨b, off, rfl, hlt, hc⟩
      · left; show subs.map _ = []; rw [h]; rfl
      · refine Or.inr ⟨b, off, rfl, hlt, fun j x hj => ?_⟩
        rw [List.getElem?_map] at hj
        change Option.map _ subs[j]? = _ at hj
        cases hz : subs[j]? with
        | none => rw [hz] at hj; cases hj
        | some z =>
          rw [hz] at hj
          simp only [Option.map_some, Option.some.injEq] at hj
          subst hj
          obtain ⟨cs, d', ⟨rfl, _⟩, _, hcell⟩ := hc j z hz
          exact hcell
    · show ty.length ≤ _; omega
    · show subs.length ≤ _; omega
    · show pos.length ≤ _; omega
    · intro s hs
      change s ∈ subs at hs
      obtain ⟨j, hj⟩ := List.getElem?_of_mem hs
      rcases hsl.2 with h | ⟨b, off, rfl, hlt, hc⟩
      · rw [h] at hs; cases hs
      · obtain ⟨cs, d', ⟨_, hR⟩, hle, _⟩ := hc j s hj
        exact hR (by omega)

theorem open_hdV {r : Reach} {base : Nat} {v : Value} {d : DataW H} {p : List MemPlace} (hv : Value.okWide Tryd.prog W r base 25 v) (h : DataW.Trod enc Tryd.prog W 0 (fun _ => true) true 25 v d p) :
    ∃ x : Hd, v = hdV x ∧ (Rows.uptoBulk d ≤ 1048576 → HdOk W x) := by
  obtain ⟨cs, rfl, hsz⟩ := okWide_struct Tryd.underlying25 hv
  obtain ⟨l⟩ := cs
  obtain ⟨fuel, hf⟩ := h
  have hf' : DataW.trod enc Tryd.prog W 0 (fun _ => true) true fuel 25 l = some (d, p) := hf
  have hl : l.length = 5 := by rw [← hd_cHd]; exact hsz
  obtain ⟨x, rfl, hx⟩ := open_hd fuel l d p hf' hl
  exact ⟨x, rfl, hx⟩
end
end Go.Proofs.YtkobgmacoakelaaDoor
