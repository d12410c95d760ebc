import Derived.Test.YtbnkckjdgpiggaaGreatDoorRows
import Derived.WalkKit
import Derived.ProofKit
import Derived.OpenShut
import Derived.ShutString
import Derived.LaidMore
import Derived.Lay
import Derived.SevenTiedAt
import Derived.Deep.DeepWitnessRowRef
namespace Go.Proofs.YtbnkckjdgpiggaaGreatDoor
set_option linter.unusedVariables false
set_option linter.unusedSimpArgs false
open Go.ChangeShapes Go.WideShapes Go.ChangeAt Go.RowKit
theorem trod_lt {H : Type} {enc : TypeId × Value -> H} {P : Program} {W : World} {base : Nat} {sp : Nat -> Bool} {held : Bool} {t : TypeId} {v : Value} {d : DataW H} {ps : List MemPlace}
   (h : DataW.Trod enc P W base sp held t v d ps) : ∀ x ∈ ps, x.block < W.heap.size := by
 obtain ⟨m, hm⟩ := h
 exact DataW.trod_lt m _ _ _ hm
theorem trodAll_again {H : Type} {enc : TypeId × Value -> H} {P : Program} (hl : laidOutB P = true) {W W' : World} (hb : Below W.heap.size W W') :
   ∀ (ts : List TypeId) (vs : List Value) (ds : List (DataW H)) (ps : List MemPlace), ts.all P.readableRec = true -> ts.all (fun t => decide (t < P.types.size)) = true ->
     DataW.TrodAll enc P W 0 (fun _ => true) true ts vs ds ps -> DataW.TrodAll enc P W' 0 (fun b => decide (b < W.heap.size)) true ts vs ds ps
 | [], vs, ds, ps, _, _, h => by
   obtain ⟨rfl, rfl, rfl⟩ := trodAll_nil h
   exact rfl
 | t :: ts, vs, ds, ps, h1, h2, h => by
   obtain ⟨v, vs', d, ds', p, q, rfl, rfl, rfl, ht, hr⟩ := trodAll_cons h
   simp only [List.all_cons, Bool.and_eq_true, decide_eq_true_eq] at h1 h2
   exact trodAll_cons_mk (Below.trod hl h1.1 h2.1 ht hb (trod_lt ht)) (trodAll_again hl hb ts vs' ds' q h1.2 h2.2 hr)
theorem law_post {H : Type} {enc : TypeId × Value -> H} {P : Program} {fn : Func} {spec : ChangeSpec} {bt : TypeId} (hl : laidOutB P = true) (h1 : fn.params.toList.all P.readableRec = true) (h2 : fn.params.toList.all (fun t => decide (t < P.types.size)) = true)
   (hb : fn.resultTypes = #[bt]) (ub : P.underlying bt = some .bool) (hvs : spec.vars = []) {W W' : World} {args : Array Value} {ds gs : List (DataW H)} {before : List MemPlace}
   (hW : DataW.Whole enc P fn.params.toList spec.vars false W args.toList ds gs before) (hspec : spec.fn H ds = { results := [.lit (.bool true)], args := ds }) (bel : Below W.heap.size W W') :
   spec.post enc P fn false true false false W args (.bool true) W' := by
 have hW' := hW
 obtain ⟨p, q, hA, hV, rfl, hfz, hnd⟩ := hW
 have hgs : gs = [] /\ q = [] := by
   rw [hvs] at hV
   exact trodVars_none hV
 obtain ⟨rfl, rfl⟩ := hgs
 refine ⟨ds, [], _, [], p, [], hW', ?_, ?_, ?_, bel.frame _, fun h => by cases h⟩
 . rw [hb, List.append_nil, hspec]
   exact trodAll_mk1 (shut_bool ub _)
 . rw [List.append_nil, hspec]
   exact trodAll_again hl bel _ _ _ _ h1 h2 hA
 . rw [hvs, List.append_nil, hspec]
   exact rfl
theorem witness_law {H : Type} {enc : TypeId × Value -> H} {C : Checked} {os : Os} {f : FuncId} {fn : Func} {s : OpenSpec} {laid : List (String × DataW Unit)} (w0 : World) (args : Array Value) (hos : w0.os = os)
   (hsh : (w0.forCall (fun _ _ => 0) ⟨#[], args, []⟩).Shaped C.prog)
   (hok : Input.okWideB C.prog (w0.forCall (fun _ _ => 0) ⟨#[], args, []⟩) f ⟨#[], args, []⟩ = true)
   (hrow : s.preRow enc C.prog fn [] false laid (w0.forCall (fun _ _ => 0) ⟨#[], args, []⟩).memory args) :
   ∃ (w : World) (tape : Tape) (i : Input), w.os = os /\ (w.forCall tape i).Shaped C.prog /\ i.vars = [] /\ Input.okWide C.prog (w.forCall tape i) .any w.heap.size f i /\
     s.preRow enc C.prog fn [] false laid (w.forCall tape i).memory i.args /\ ({} : Assume).holds C.prog (lone (Frame.enter C.prog f i.args .normal) [] (w.forCall tape i)) :=
 ⟨w0, fun _ _ => 0, ⟨#[], args, []⟩, hos, hsh, (Input.okWide_of_okWideB (base := 0) hok).1, (Input.okWide_of_okWideB hok).2, hrow, by
   simp only [Assume.holds]
   exact ⟨by simp, by simp, fun _ => Modest.zero, by simp, by simp⟩⟩
theorem bulk_one {H : Type} (d : DataW H) : 1 <= Rows.uptoBulk d := by
 cases d with
 | lit l => cases l <;> simp [Rows.uptoBulk]
 | nil => simp [Rows.uptoBulk]
 | ptr d => simp [Rows.uptoBulk]
 | slice elems spare => simp [Rows.uptoBulk]
 | agg parts => simp [Rows.uptoBulk]
 | iface t d => simp [Rows.uptoBulk]
 | map entries => simp [Rows.uptoBulk]
 | held h => simp [Rows.uptoBulk]
theorem bulk_all {H : Type} (l : List (DataW H)) : l.length <= Rows.uptoBulkAll l := by
 induction l with
 | nil => simp [Rows.uptoBulkAll]
 | cons x r ih => have := bulk_one x; simp only [Rows.uptoBulkAll, List.length_cons]; omega
theorem bulk_part {H : Type} {d : DataW H} {l : List (DataW H)} (h : d ∈ l) : Rows.uptoBulk d <= Rows.uptoBulkAll l := by
 induction l with
 | nil => cases h
 | cons x r ih =>
   simp only [Rows.uptoBulkAll]
   cases List.mem_cons.1 h with
   | inl e => subst e; omega
   | inr e => have := ih e; omega
theorem bulk_slice {H : Type} (es sp : List (DataW H)) : es.length + 1 <= Rows.uptoBulk (.slice es sp) := by
 have h1 := bulk_all es
 simp only [Rows.uptoBulk]
 omega
theorem plain_of {P : Program} {nm : String} {f0 : FuncId} {fn0 : Func} {lk : Bool} (hn : P.funcNamed nm = some f0) (hf0 : P.funcs[f0]? = some fn0) (hlk : lk = P.looks []) (hall : (fn0.params.toList.all fun u => !P.wantsStandIn u) = true)
   (f : FuncId) (fn : Func) (hf : P.funcNamed nm = some f) (hfn : P.funcs[f]? = some fn) :
   lk = P.looks [] /\ ∀ (j : Nat) t, fn.params[j]? = some t -> P.wantsStandIn t = false := by
 obtain rfl : f = f0 := Option.some.inj (hf.symm.trans hn)
 obtain rfl : fn = fn0 := Option.some.inj (hfn.symm.trans hf0)
 refine ⟨hlk, fun j t ht => ?_⟩
 have hm : t ∈ fn.params.toList := by simpa using Array.mem_of_getElem? ht
 simpa using List.all_eq_true.1 hall t hm
end Go.Proofs.YtbnkckjdgpiggaaGreatDoor
