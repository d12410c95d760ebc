/-
  THE FRAME OF A LAW (any program): from a walk that returns true and writes nothing that was there, to the row's 'post': every argument reads as it read. Its conditions: the parameters' types can be read (closed facts).
-/
import Derived.Test.YtfimajijegohmaaGreatDoorRows
import Derived.WalkKit
import Derived.ProofKit
import Derived.OpenShut
import Derived.ShutString
import Derived.Below
import Derived.LaidMore
import Derived.Lay
import Derived.SevenTiedAt
import Derived.Stop.Joined
import Derived.Deep.DeepHandedRow
import Derived.Deep.DeepWitnessRowRef
namespace Go.Proofs.YtfimajijegohmaaGreatDoor
set_option linter.unusedVariables false
set_option linter.unusedSimpArgs false
open Go.ChangeShapes Go.WideShapes Go.ChangeAt Go.RowKit

theorem trod_lt {H : Type} {enc : TypeId × Value → H} {P : Program} {W : World} {base : Nat} {sp : Nat → Bool} {held : Bool} {t : TypeId} {v : Value} {d : DataW H} {ps : List MemPlace}
    (h : DataW.Trod enc P W base sp held t v d ps) : ∀ x ∈ ps, x.block < W.heap.size := by
  obtain ⟨m, hm⟩ := h
  exact DataW.trod_lt m _ _ _ hm

theorem trodAll_again {H : Type} {enc : TypeId × Value → H} {P : Program} (hl : laidOutB P = true) {W W' : World} (hb : Below W.heap.size W W') :
    ∀ (ts : List TypeId) (vs : List Value) (ds : List (DataW H)) (ps : List MemPlace), ts.all P.readableRec = true → ts.all (fun t => decide (t < P.types.size)) = true →
      DataW.TrodAll enc P W 0 (fun _ => true) true ts vs ds ps → DataW.TrodAll enc P W' 0 (fun b => decide (b < W.heap.size)) true ts vs ds ps
  | [], vs, ds, ps, _, _, h => by
    obtain ⟨rfl, rfl, rfl⟩ := trodAll_nil h
    exact rfl
  | t :: ts, vs, ds, ps, h1, h2, h => by
    obtain ⟨v, vs', d, ds', p, q, rfl, rfl, rfl, ht, hr⟩ := trodAll_cons h
    simp only [List.all_cons, Bool.and_eq_true, decide_eq_true_eq] at h1 h2
    exact trodAll_cons_mk (Below.trod hl h1.1 h2.1 ht hb (trod_lt ht)) (trodAll_again hl hb ts vs' ds' q h1.2 h2.2 hr)

theorem law_post {H : Type} {enc : TypeId × Value → H} {P : Program} {fn : Func} {spec : ChangeSpec} {bt : TypeId} (hl : laidOutB P = true) (h1 : fn.params.toList.all P.readableRec = true) (h2 : fn.params.toList.all (fun t => decide (t < P.types.size)) = true)
    (hb : fn.resultTypes = #[bt]) (ub : P.underlying bt = some .bool) (hvs : spec.vars = []) {W W' : World} {args : Array Value} {ds gs : List (DataW H)} {before : List MemPlace}
    (hW : DataW.Whole enc P fn.params.toList spec.vars false W args.toList ds gs before) (hspec : spec.fn H ds = { results := [.lit (.bool true)], args := ds }) (bel : Below W.heap.size W W') :
    spec.post enc P fn false true false false W args (.bool true) W' := by
  have hW' := hW
  obtain ⟨p, q, hA, hV, rfl, hfz, hnd⟩ := hW
  have hgs : gs = [] ∧ q = [] := by
    rw [hvs] at hV
    exact trodVars_none hV
  obtain ⟨rfl, rfl⟩ := hgs
  refine ⟨ds, [], _, [], p, [], hW', ?_, ?_, ?_, bel.frame _, fun h => by cases h⟩
  · rw [hb, List.append_nil, hspec]
    exact trodAll_mk1 (shut_bool ub _)
  · rw [List.append_nil, hspec]
    exact trodAll_again hl bel _ _ _ _ h1 h2 hA
  · rw [hvs, List.append_nil, hspec]
    exact rfl

/-- an input that fits, at a world that is written out -/
theorem witness_law {H : Type} {enc : TypeId × Value → H} {C : Checked} {os : Os} {f : FuncId} {fn : Func} {s : OpenSpec} {laid : List (String × DataW Unit)} (w0 : World) (args : Array Value) (hos : w0.os = os)
    (hsh : (w0.forCall (fun _ _ => 0) ⟨#[], args, []⟩).Shaped C.prog)
    (hok : Input.okWideB C.prog (w0.forCall (fun _ _ => 0) ⟨#[], args, []⟩) f ⟨#[], args, []⟩ = true)
    (hrow : s.preRow enc C.prog fn [] false laid (w0.forCall (fun _ _ => 0) ⟨#[], args, []⟩).memory args) :
    ∃ (w : World) (tape : Tape) (i : Input), w.os = os ∧ (w.forCall tape i).Shaped C.prog ∧ i.vars = [] ∧ Input.okWide C.prog (w.forCall tape i) .any w.heap.size f i ∧
      s.preRow enc C.prog fn [] false laid (w.forCall tape i).memory i.args ∧ ({} : Assume).holds C.prog (lone (Frame.enter C.prog f i.args .normal) [] (w.forCall tape i)) :=
  ⟨w0, fun _ _ => 0, ⟨#[], args, []⟩, hos, hsh, (Input.okWide_of_okWideB (base := 0) hok).1, (Input.okWide_of_okWideB hok).2, hrow, by
    simp only [Assume.holds]
    exact ⟨by simp, by simp, fun _ => Modest.zero, by simp, by simp⟩⟩

/-- a slice of integers that came in: its value, what its cells hold, and its datum -/
theorem open_int_row {H : Type} {enc : TypeId × Value → H} {P : Program} {W : World} {base : Nat} {r : Reach} {t e : TypeId} {k : IntKind} {v : Value} {d : DataW H} {p : List MemPlace} (ht : P.underlying t = some (.slice e)) (he : P.underlying e = some (.int k)) (hc : P.cellsOf e = 1)
    (hv : Value.okWide P W r base t v) (h : DataW.Trod enc P W 0 (fun _ => true) true t v d p) :
    ∃ (a : Option Addr) (cap : Nat) (zs : List Int), v = .slice a zs.length cap ∧ zs.length ≤ cap ∧ (∀ n ∈ zs, (Lit.int k n).wf = true) ∧ (∀ i, i < zs.length → (Lit.int k (zs.getD i 0)).wf = true) ∧
      ((zs = [] ∧ a = none ∧ cap = 0) ∨ zs = [] ∨ ∃ b off, a = some ⟨b, off, none⟩ ∧ b < W.heap.size ∧ ∀ i, i < zs.length → W.cell? ⟨b, off + i, none⟩ = some (.int k (zs.getD i 0))) ∧
      ((d = .nil ∧ zs = []) ∨ ∃ es sp, d = .slice es sp ∧ es.length = zs.length) := by
  obtain ⟨a0, len, cap, rfl⟩ := okWide_slice ht hv
  obtain ⟨fuel, hf⟩ := h
  rcases open_ints ht he hc hf with ⟨hcs, hx⟩ | ⟨x, l, c, zs, hcs, _, hl, hm, hz, hx, hcell, hwz⟩
  · simp [Value.cells] at hcs
    obtain ⟨rfl, rfl, rfl⟩ := hcs
    simp only [Prod.mk.injEq] at hx
    exact ⟨none, 0, [], rfl, by simp, by simp, by simp, Or.inl ⟨rfl, rfl, rfl⟩, Or.inl ⟨hx.1, rfl⟩⟩
  · simp [Value.cells] at hcs
    obtain ⟨rfl, rfl, rfl⟩ := hcs
    simp only [Prod.mk.injEq] at hx
    have hlen : (zs.take len).length = len := by
      rw [List.length_take]
      simp at hz
      omega
    have hget : ∀ i, i < len → (zs.take len).getD i 0 = zs.getD i 0 := fun i hi => by simp [List.getD, List.getElem?_take, hi]
    refine ⟨_, cap, zs.take len, by rw [hlen], by omega, fun n hn => hwz n (List.mem_of_mem_take hn), fun i hi => ?_, ?_, Or.inr ⟨_, _, hx.1, by simp [lits]⟩⟩
    · have hi2 : i < zs.length := by rw [List.length_take] at hi; omega
      rw [List.getD, List.getElem?_eq_getElem hi]
      exact hwz _ (List.mem_of_mem_take (List.getElem_mem hi))
    · by_cases h0 : len = 0
      · right; left
        rw [h0]; rfl
      · right; right
        obtain ⟨b, off, spot⟩ := x
        have hc0 := hcell 0 (by simp at hz; omega)
        have hspot : spot = none := by simpa [Addr.add] using World.cell?_spot hc0
        subst hspot
        refine ⟨b, off, rfl, ?_, fun i hi => ?_⟩
        · have := World.block_lt_of_cell? W _ hc0
          simpa [Addr.add] using this
        · rw [hlen] at hi
          have h1 := hcell i (by simp at hz; omega)
          have e : (⟨b, off, none⟩ : Addr).add i = ⟨b, off + i, none⟩ := by unfold Addr.add; split <;> simp_all
          rw [e] at h1
          rw [h1, hget i hi]

/-- what the bulk gives of a slice -/
theorem bulk_one {H : Type} (d : DataW H) : 1 ≤ Rows.uptoBulk d := by
  cases d with
  | lit l => cases l <;> simp [Rows.uptoBulk]
  | nil => simp [Rows.uptoBulk]
  | ptr d => simp [Rows.uptoBulk]
  | slice elems spare => simp [Rows.uptoBulk]
  | agg parts => simp [Rows.uptoBulk]
  | iface t d => simp [Rows.uptoBulk]
  | map entries => simp [Rows.uptoBulk]
  | held h => simp [Rows.uptoBulk]
theorem bulk_all {H : Type} (l : List (DataW H)) : l.length ≤ Rows.uptoBulkAll l := by
  induction l with
  | nil => simp [Rows.uptoBulkAll]
  | cons x r ih => have := bulk_one x; simp only [Rows.uptoBulkAll, List.length_cons]; omega
theorem bulk_part {H : Type} {d : DataW H} {l : List (DataW H)} (h : d ∈ l) : Rows.uptoBulk d ≤ Rows.uptoBulkAll l := by
  induction l with
  | nil => cases h
  | cons x r ih =>
    simp only [Rows.uptoBulkAll]
    cases List.mem_cons.1 h with
    | inl e => subst e; omega
    | inr e => have := ih e; omega
theorem bulk_slice {H : Type} (es sp : List (DataW H)) : es.length + 1 ≤ Rows.uptoBulk (.slice es sp) := by
  have h1 := bulk_all es
  simp only [Rows.uptoBulk]
  omega

/-- no parameter wants a stand-in -/
theorem plain_of {P : Program} {nm : String} {f0 : FuncId} {fn0 : Func} {lk : Bool} (hn : P.funcNamed nm = some f0) (hf0 : P.funcs[f0]? = some fn0) (hlk : lk = P.looks []) (hall : (fn0.params.toList.all fun u => !P.wantsStandIn u) = true)
    (f : FuncId) (fn : Func) (hf : P.funcNamed nm = some f) (hfn : P.funcs[f]? = some fn) :
    lk = P.looks [] ∧ ∀ (j : Nat) t, fn.params[j]? = some t → P.wantsStandIn t = false := by
  obtain rfl : f = f0 := Option.some.inj (hf.symm.trans hn)
  obtain rfl : fn = fn0 := Option.some.inj (hfn.symm.trans hf0)
  refine ⟨hlk, fun j t ht => ?_⟩
  have hm : t ∈ fn.params.toList := by simpa using Array.mem_of_getElem? ht
  simpa using List.all_eq_true.1 hall t hm
end Go.Proofs.YtfimajijegohmaaGreatDoor
