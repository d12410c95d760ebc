/-
  The walks of package lock's methods over a lock that the law itself makes.
-/
import Derived.Test.YtnamnihdbemkhaaDoorName
import Derived.Test.YtnamnihdbemkhaaDoorIMap
import Derived.Deep.AppendLies
import Derived.BigRegion
namespace Go.Proofs.YtnamnihdbemkhaaDoor
set_option linter.unusedVariables false
set_option linter.unusedSimpArgs false
open Go.RowKit Go.Shelf Go.Lib

def LocksAt (w : World) (L M1 M2 : Nat) : Prop := w.heap[L]? = some (.cells #[.map (some M1), .map (some M2)] 77 (0, 0))
def LockAt (w : World) (K : Nat) (who times : Int) (ws : Value) : Prop := w.heap[K]? = some (.cells #[.int .i64 who, .int .i64 times, ws] 80 (0, 0))

theorem wf_small {z : Int} (h0 : 0 ≤ z) (h1 : z < 50) : (Lit.int .i64 z).wf = true := by
  simp [Lit.wf, IntKind.min, IntKind.max, IntKind.signed, IntKind.bits]; omega

theorem info_int : (Tryd.prog.info? 3).map (fun i => (i.zero, i.size, i.bytes)) = some (some (.int .i64 0), 1, 8) := by kernel_rfl
theorem zero_ptr (w : World) : (zeroValue 78).run Tryd.prog w = .ok (.pointer none) w := Tryd.zeroValue78 w
theorem zero_int (w : World) : (zeroValue 3).run Tryd.prog w = .ok (.int .i64 0) w := Tryd.zeroValue3 w

set_option maxRecDepth 100000 in
theorem wrong_none {w : World} {L M1 M2 n : Nat} {f2 : Int → Option Value} (hL : LocksAt w L M1 M2) (h2 : IMap w M2 n f2) {who what : Int} (a0 : 0 ≤ who) (a1 : who < 50) (b0 : 0 ≤ what) (b1 : what < 50) (hf : f2 who = none) :
    Calls Tryd.prog 38 #[.pointer (some ⟨L, 0, none⟩), .int .i64 who, .int .i64 what] w fun e w' => e = .returned .nilIface ∧ w' = w := by
  have c1 : w.cell? ⟨L, 1, none⟩ = some (.map (some M2)) := by unfold LocksAt at hL; simp [World.cell?, hL]
  have hrun := h2.look_none (P := Tryd.prog) (k := 3) (t := 75) (e := 3) Tryd.underlying3 Tryd.underlying75 (wf_small a0 a1) hf (zero_int w) true
  simp only [if_true] at hrun
  clear hL h2 hf
  go_enter Tryd.func38, Tryd.ntmps38
  go_wp2_with fail
  go_ret
  exact ⟨rfl, rfl⟩

/-- The frame of a call: blocks that were there stand, but for those in S -/
def KeptBut (S : Nat → Prop) (w w' : World) : Prop := w.heap.size ≤ w'.heap.size ∧ w'.os = w.os ∧ w'.tape = w.tape ∧ w'.output = w.output ∧ ∀ b, b < w.heap.size → ¬ S b → w'.heap[b]? = w.heap[b]?

theorem block_set {w : World} {K j : Nat} {cs : Array Value} {t : TypeId} {fr : Nat × Nat} (h : w.heap[K]? = some (.cells cs t fr)) (hj : j < cs.size) (v : Value) : (w.setCell ⟨K, j, none⟩ v).heap[K]? = some (.cells (cs.setIfInBounds j v) t fr) := by
  show (w.heap.modify K _)[K]? = _
  rw [Array.getElem?_modify, if_pos rfl, h]
  rfl

set_option maxRecDepth 100000 in
/-- a lock that nobody has -/
theorem enter_new {w : World} {L M1 M2 n n1 : Nat} {f1 f2 : Int → Option Value} (hL : LocksAt w L M1 M2) (h1 : IMap w M1 n1 f1) (h2 : IMap w M2 n f2) {who what : Int} (a0 : 0 ≤ who) (a1 : who < 50) (b0 : 0 ≤ what) (b1 : what < 50) (hf : f2 who = none) (hf1 : f1 what = none) :
    Calls Tryd.prog 19 #[.pointer (some ⟨L, 0, none⟩), .int .i64 who, .int .i64 what] w fun e w' => e = .returned (.tuple #[.bool true, .nilIface]) ∧
      LockAt w' w.heap.size who 1 (.slice none 0 0) ∧ IMap w' M1 (n1 + 1) (putf f1 what (.pointer (some ⟨w.heap.size, 0, none⟩))) ∧ KeptBut (· = M1) w w' := by
  have c1 : w.cell? ⟨L, 0, none⟩ = some (.map (some M1)) := by unfold LocksAt at hL; simp [World.cell?, hL]
  have hw := wrong_none hL h2 a0 a1 b0 b1 hf
  have HW := Lib.hid hw
  have hrun := h1.look_none (P := Tryd.prog) (k := 3) (t := 74) (e := 78) Tryd.underlying3 Tryd.underlying74 (wf_small b0 b1) hf1 (zero_ptr w) false
  simp only [Bool.false_eq_true, if_false] at hrun
  have hlt : L < w.heap.size := (Array.getElem?_eq_some_iff.1 hL).1
  have hlt1 : M1 < w.heap.size := h1.lt
  have h1' : IMap (w.alloc (.cells #[.int .i64 who, .int .i64 0, .slice none 0 0] 80)) M1 n1 f1 := h1.kept (Below.heap_alloc _ _ _ h1.lt)
  obtain ⟨w2, hst, hI, hg⟩ := h1'.store (P := Tryd.prog) (k := 3) (t := 74) (e := 78) Tryd.underlying3 Tryd.underlying74 (wf_small b0 b1) hf1 (.pointer (some ⟨w.heap.size, 0, none⟩))
  have hK : LockAt w2 w.heap.size who 0 (.slice none 0 0) := (hg.block w.heap.size (by simp) (by simp; omega)).trans (heap_alloc_new w _)
  have d0 : w2.cell? ⟨w.heap.size, 0, none⟩ = some (.int .i64 who) := by unfold LockAt at hK; simp [World.cell?, hK]
  have d1 : w2.cell? ⟨w.heap.size, 1, none⟩ = some (.int .i64 0) := by unfold LockAt at hK; simp [World.cell?, hK]
  have e1 : w2.frozen? ⟨w.heap.size, 1, none⟩ = false := by unfold LockAt at hK; simp [World.frozen?, hK]
  have HK := Lib.hid hK
  have HI := Lib.hid hI
  have HG := Lib.hid hg
  clear h1' hK hI hg
  have H1 := Lib.hid h1
  have HL := Lib.hid hL
  clear hL h2 hf hw hf1 h1
  go_enter Tryd.func19, Tryd.ntmps19
  go_wp2_with fail
  refine HW.out.mono ?_
  rintro e w1 ⟨rfl, rfl⟩
  go_wp2_with fail
  go_ret2
  refine ⟨rfl, ?_, ?_, ?_⟩
  · exact block_set HK.out (by simp) _
  · exact HI.out.kept (Below.heap_setCell _ _ _ _ (by simp; omega))
  · refine ⟨?_, HG.out.os, HG.out.tape, HG.out.output, fun b hb hS => ?_⟩
    · have := HG.out.size
      simp [World.setCell] at this ⊢
      omega
    · rw [Below.heap_setCell _ _ _ _ (by simp; omega), HG.out.block b (by simp; omega) (by simpa using hS)]
      exact Below.heap_alloc _ _ _ hb
theorem own_apart {w : World} {B K : Nat} {e : TypeId} {v : Value} {n : Nat} {xs : List Value} {o : Obj} (h : w.ownsRow B e 1 v n xs) (hK : w.heap[K]? = some o) (ho : ∀ cs fr, o ≠ .cells cs e fr) : v.ownBlock ≠ some K := by
  rcases h.2 with ⟨rfl, _⟩ | ⟨g, cap, cur, rfl, _, hg, _⟩
  · simp [Value.ownBlock]
  · intro h2
    simp only [Value.ownBlock, Option.some.injEq] at h2
    rw [h2, hK] at hg
    exact ho _ _ (by simpa using hg)
theorem IMap.block {w : World} {b n : Nat} {f : Int → Option Value} (h : IMap w b n f) : ∃ o, w.heap[b]? = some o ∧ ∀ cs t fr, o ≠ .cells cs t fr := by
  obtain ⟨es, clock, hb, _⟩ := h
  exact ⟨_, hb, by simp⟩

set_option maxRecDepth 100000 in
set_option maxHeartbeats 1000000 in
/-- a lock that another one has -/
theorem enter_wait {w : World} {L M1 M2 K n n1 B : Nat} {f1 f2 : Int → Option Value} (hL : LocksAt w L M1 M2) (h1 : IMap w M1 n1 f1) (h2 : IMap w M2 n f2) {who what has times : Int} (a0 : 0 ≤ who) (a1 : who < 50) (b0 : 0 ≤ what) (b1 : what < 50)
    (hf : f2 who = none) (hf1 : f1 what = some (.pointer (some ⟨K, 0, none⟩))) {v : Value} {xs : List Value} (hK : LockAt w K has times v) (hne : has ≠ who) (hown : w.ownsRow B 3 1 v xs.length xs) (hB : B ≤ w.heap.size) (hn : xs.length ≤ 1000) (hnn : n ≤ 1000) :
    Calls Tryd.prog 19 #[.pointer (some ⟨L, 0, none⟩), .int .i64 who, .int .i64 what] w fun e w' => e = .returned (.tuple #[.bool false, .nilIface]) ∧
      ∃ v', LockAt w' K has times v' ∧ w'.ownsRow B 3 1 v' (xs.length + 1) (xs ++ [.int .i64 who]) ∧ (v'.ownBlock = v.ownBlock ∨ ∀ g, v'.ownBlock = some g → w.heap.size ≤ g) ∧
        IMap w' M2 (n + 1) (putf f2 who (.int .i64 what)) ∧ KeptBut (fun b => b = M2 ∨ b = K ∨ v.ownBlock = some b) w w' := by
  have c1 : w.cell? ⟨L, 0, none⟩ = some (.map (some M1)) := by unfold LocksAt at hL; simp [World.cell?, hL]
  have hw := wrong_none hL h2 a0 a1 b0 b1 hf
  have HW := Lib.hid hw
  have hrun := h1.look_some (P := Tryd.prog) (k := 3) (t := 74) (e := 78) Tryd.underlying3 Tryd.underlying74 (wf_small b0 b1) hf1 false
  simp only [Bool.false_eq_true, if_false] at hrun
  have d0 : w.cell? ⟨K, 0, none⟩ = some (.int .i64 has) := by unfold LockAt at hK; simp [World.cell?, hK]
  have d1 : w.cell? ⟨K, 2, none⟩ = some v := by unfold LockAt at hK; simp [World.cell?, hK]
  have hlt : L < w.heap.size := (Array.getElem?_eq_some_iff.1 hL).1
  have hltK : K < w.heap.size := (Array.getElem?_eq_some_iff.1 hK).1
  have hlt2 : M2 < w.heap.size := h2.lt
  have H2 := Lib.hid h2
  have HL := Lib.hid hL
  have HK := Lib.hid hK
  have HO := Lib.hid hown
  have HF := Lib.hid hf
  have HB := Lib.hid hB
  clear hL h2 hf hw hf1 h1 hK hown hB
  obtain ⟨i0, hi, hz0, hz1, hz2⟩ := info_parts info_int
  go_enter Tryd.func19, Tryd.ntmps19
  go_wp2_with fail
  refine HW.out.mono ?_
  rintro e w1 ⟨rfl, rfl⟩
  go_wp2_with (at_builtin; refine wpList_append_lies _ rfl _ _ 38 rfl B 3 i0 (.int .i64 0) 1 8 Tryd.underlying38 hi hz0 hz1 hz2 rfl (by decide) v xs.length xs rfl (HO.out.alloc _) ⟨w1.heap.size, 0, none⟩ 1 1 [.int .i64 who] rfl rfl ?c1 ?c2 (by decide) ?c3 ?c4 ?c5 _ rfl ?_)
  case c1 => exact fun j v hj => new_cells w1 [.int .i64 who] 3 j v hj
  case c2 => intro x hx; simp only [List.mem_cons, List.mem_nil_iff, or_false] at hx; rcases hx with rfl; rfl
  case c3 => unfold maxLen; omega
  case c4 => omega
  case c5 => have := HB.out; simp; omega
  intro g cap w2 hown2 hg hat hltg
  obtain ⟨oM, hoM, hoM2⟩ := H2.out.block
  have nK : v.ownBlock ≠ some K := own_apart HO.out HK.out (by simp)
  have nL : v.ownBlock ≠ some L := own_apart HO.out HL.out (by simp)
  have nM : v.ownBlock ≠ some M2 := own_apart HO.out hoM (fun cs fr => hoM2 cs _ fr)
  have nKM : K ≠ M2 := by intro h; rw [← h, HK.out] at hoM; exact hoM2 _ _ _ (by simpa using hoM.symm)
  have nLM : L ≠ M2 := by intro h; rw [← h, HL.out] at hoM; exact hoM2 _ _ _ (by simpa using hoM.symm)
  have nKL : K ≠ L := by intro h; have h1 := HK.out; have h2 := HL.out; unfold LockAt at h1; unfold LocksAt at h2; rw [h, h2] at h1; simp at h1
  have old : ∀ b, b < w1.heap.size → v.ownBlock ≠ some b → w2.heap[b]? = w1.heap[b]? := fun b hb hn => (hg.block b (by simp; omega) (fun e => hn e.symm)).trans (Below.heap_alloc _ _ _ hb)
  have hK2 : LockAt w2 K has times v := (old K hltK nK).trans HK.out
  have hL2 : LocksAt w2 L M1 M2 := (old L hlt nL).trans HL.out
  have hI2 : IMap w2 M2 n f2 := H2.out.kept (old M2 hlt2 nM)
  have e1 : w2.frozen? ⟨K, 2, none⟩ = false := by unfold LockAt at hK2; simp [World.frozen?, hK2]
  have HK3 : LockAt (w2.setCell ⟨K, 2, none⟩ (.slice (some ⟨g, 0, none⟩) (xs.length + 1) cap)) K has times (.slice (some ⟨g, 0, none⟩) (xs.length + 1) cap) := block_set hK2 (by simp) _
  have hI3 : IMap (w2.setCell ⟨K, 2, none⟩ (.slice (some ⟨g, 0, none⟩) (xs.length + 1) cap)) M2 n f2 := hI2.kept (Below.heap_setCell _ _ _ _ (by simpa using nKM.symm))
  have hL3 : LocksAt (w2.setCell ⟨K, 2, none⟩ (.slice (some ⟨g, 0, none⟩) (xs.length + 1) cap)) L M1 M2 := (Below.heap_setCell _ _ _ _ (by simpa using nKL.symm)).trans hL2
  have c2 : (w2.setCell ⟨K, 2, none⟩ (.slice (some ⟨g, 0, none⟩) (xs.length + 1) cap)).cell? ⟨L, 1, none⟩ = some (.map (some M2)) := by unfold LocksAt at hL3; simp [World.cell?, hL3]
  have d2 : w2.cell? ⟨K, 2, none⟩ = some v := by unfold LockAt at hK2; simp [World.cell?, hK2]
  obtain ⟨w4, hst, hI4, hg4⟩ := hI3.store (P := Tryd.prog) (k := 3) (t := 75) (e := 3) Tryd.underlying3 Tryd.underlying75 (wf_small a0 a1) HF.out (.int .i64 what)
  have nKg : K ≠ g := by intro h; rw [h] at nK; rcases hat with h1 | h1; exact nK h1; omega
  have nMg : M2 ≠ g := by intro h; rw [h] at nM; rcases hat with h1 | h1; exact nM h1; omega
  have hown4 : w4.ownsRow B 3 1 (.slice (some ⟨g, 0, none⟩) (xs.length + 1) cap) (xs.length + 1) (xs ++ [.int .i64 who]) := by
    refine World.ownsRow.kept (w := w2.setCell ⟨K, 2, none⟩ (.slice (some ⟨g, 0, none⟩) (xs.length + 1) cap)) ?_ hg4 (Or.inr (by simpa [Value.ownBlock] using nMg.symm))
    refine hown2.kept (row := some K) ⟨rfl, rfl, rfl, by simp [World.setCell], fun k hk hn => Below.heap_setCell _ _ _ _ (by simpa using hn)⟩ (Or.inr (by simpa [Value.ownBlock] using nKg.symm))
  have HN : Hid (LockAt w4 K has times (.slice (some ⟨g, 0, none⟩) (xs.length + 1) cap) ∧ (Value.ownBlock (.slice (some ⟨g, 0, none⟩) (xs.length + 1) cap) = v.ownBlock ∨ ∀ g', Value.ownBlock (.slice (some ⟨g, 0, none⟩) (xs.length + 1) cap) = some g' → w1.heap.size ≤ g') ∧
      KeptBut (fun b => b = M2 ∨ b = K ∨ v.ownBlock = some b) w1 w4) := by
    have hs2 := hg.size
    have hs4 := hg4.size
    simp [World.setCell] at hs2 hs4
    refine ⟨(hg4.block K (by simp [World.setCell]; omega) (by simpa using nKM)).trans HK3, ?_, ⟨by omega, hg4.os.trans hg.os, hg4.tape.trans hg.tape, hg4.output.trans hg.output, fun b hb hS => ?_⟩⟩
    · rcases hat with h1 | h1
      · exact Or.inl (by rw [h1]; rfl)
      · refine Or.inr (fun g' hg' => ?_)
        simp only [Value.ownBlock, Option.some.injEq] at hg'
        omega
    · have hS' : b ≠ M2 ∧ b ≠ K ∧ v.ownBlock ≠ some b := ⟨fun h => hS (Or.inl h), fun h => hS (Or.inr (Or.inl h)), fun h => hS (Or.inr (Or.inr h))⟩
      rw [hg4.block b (by simp [World.setCell]; omega) (by simpa using hS'.1), Below.heap_setCell _ _ _ _ (by simpa using hS'.2.1)]
      exact old b hb hS'.2.2
  have HO4 := Lib.hid hown4
  have HI4 := Lib.hid hI4
  clear hown4 hI4 hg4 hg hL3 hI3 HK3 hat hown2 old hoM hoM2 hK2 hL2 hI2 nK nL nM nKM nLM nKL nKg nMg
  go_wp2_with fail
  go_ret2
  exact ⟨rfl, _, HN.out.1, HO4.out, HN.out.2.1, HI4.out, HN.out.2.2⟩

set_option maxRecDepth 100000 in
theorem leave_none {w : World} {L M1 M2 n n1 : Nat} {f1 f2 : Int → Option Value} (hL : LocksAt w L M1 M2) (h1 : IMap w M1 n1 f1) (h2 : IMap w M2 n f2) {who what : Int} (a0 : 0 ≤ who) (a1 : who < 50) (b0 : 0 ≤ what) (b1 : what < 50) (hf : f2 who = none) (hf1 : f1 what = none) :
    Calls Tryd.prog 22 #[.pointer (some ⟨L, 0, none⟩), .int .i64 who, .int .i64 what] w fun e w' => e = .returned (errV 3) ∧ w' = w := by
  have c1 : w.cell? ⟨L, 0, none⟩ = some (.map (some M1)) := by unfold LocksAt at hL; simp [World.cell?, hL]
  have hw := wrong_none hL h2 a0 a1 b0 b1 hf
  have HW := Lib.hid hw
  have hrun := h1.look_none (P := Tryd.prog) (k := 3) (t := 74) (e := 78) Tryd.underlying3 Tryd.underlying74 (wf_small b0 b1) hf1 (zero_ptr w) false
  simp only [Bool.false_eq_true, if_false] at hrun
  clear hL h2 hf hw hf1 h1
  go_enter Tryd.func22, Tryd.ntmps22
  go_wp2_with fail
  refine HW.out.mono ?_
  rintro e w1 ⟨rfl, rfl⟩
  go_wp2_with fail
  go_ret
  exact ⟨rfl, rfl⟩

set_option maxRecDepth 100000 in
set_option maxHeartbeats 1000000 in
/-- the last one leaves -/
theorem leave_last {w : World} {L M1 M2 K n n1 : Nat} {f1 f2 : Int → Option Value} (hL : LocksAt w L M1 M2) (h1 : IMap w M1 n1 f1) (h2 : IMap w M2 n f2) {who what : Int} (a0 : 0 ≤ who) (a1 : who < 50) (b0 : 0 ≤ what) (b1 : what < 50)
    (hf : f2 who = none) (hf1 : f1 what = some (.pointer (some ⟨K, 0, none⟩))) {a : Option Addr} {c : Nat} (hK : LockAt w K who 1 (.slice a 0 c)) :
    Calls Tryd.prog 22 #[.pointer (some ⟨L, 0, none⟩), .int .i64 who, .int .i64 what] w fun e w' => e = .returned .nilIface ∧ IMap w' M1 n1 (delf f1 what) ∧ KeptBut (fun b => b = M1 ∨ b = K) w w' := by
  have c1 : w.cell? ⟨L, 0, none⟩ = some (.map (some M1)) := by unfold LocksAt at hL; simp [World.cell?, hL]
  have hw := wrong_none hL h2 a0 a1 b0 b1 hf
  have HW := Lib.hid hw
  have hrun := h1.look_some (P := Tryd.prog) (k := 3) (t := 74) (e := 78) Tryd.underlying3 Tryd.underlying74 (wf_small b0 b1) hf1 false
  simp only [Bool.false_eq_true, if_false] at hrun
  have d0 : w.cell? ⟨K, 0, none⟩ = some (.int .i64 who) := by unfold LockAt at hK; simp [World.cell?, hK]
  have d1 : w.cell? ⟨K, 1, none⟩ = some (.int .i64 1) := by unfold LockAt at hK; simp [World.cell?, hK]
  have d2 : w.cell? ⟨K, 2, none⟩ = some (.slice a 0 c) := by unfold LockAt at hK; simp [World.cell?, hK]
  have e1 : w.frozen? ⟨K, 1, none⟩ = false := by unfold LockAt at hK; simp [World.frozen?, hK]
  obtain ⟨oM, hoM, hoM2⟩ := h1.block
  have nKM : M1 ≠ K := by intro h; rw [h, hK] at hoM; exact hoM2 _ _ _ (by simpa using hoM.symm)
  have nKL : L ≠ K := by intro h; have h2 := hL; have h3 := hK; unfold LockAt at h3; unfold LocksAt at h2; rw [h, h3] at h2; simp at h2
  have hI3 : IMap (w.setCell ⟨K, 1, none⟩ (.int .i64 0)) M1 n1 f1 := h1.kept (Below.heap_setCell _ _ _ _ (by simpa using nKM))
  have hL3 : LocksAt (w.setCell ⟨K, 1, none⟩ (.int .i64 0)) L M1 M2 := (Below.heap_setCell _ _ _ _ (by simpa using nKL)).trans hL
  have hK3 : LockAt (w.setCell ⟨K, 1, none⟩ (.int .i64 0)) K who 0 (.slice a 0 c) := block_set hK (by simp) _
  have k1 : (w.setCell ⟨K, 1, none⟩ (.int .i64 0)).cell? ⟨K, 1, none⟩ = some (.int .i64 0) := by unfold LockAt at hK3; simp [World.cell?, hK3]
  have k2 : (w.setCell ⟨K, 1, none⟩ (.int .i64 0)).cell? ⟨K, 2, none⟩ = some (.slice a 0 c) := by unfold LockAt at hK3; simp [World.cell?, hK3]
  have k3 : (w.setCell ⟨K, 1, none⟩ (.int .i64 0)).cell? ⟨L, 0, none⟩ = some (.map (some M1)) := by unfold LocksAt at hL3; simp [World.cell?, hL3]
  obtain ⟨w4, hst, hI4, hg4⟩ := hI3.drop (P := Tryd.prog) (k := 3) (t := 74) (e := 78) (ty := 0) Tryd.underlying3 Tryd.underlying74 (wf_small b0 b1)
  have HN : Hid (IMap w4 M1 n1 (delf f1 what) ∧ KeptBut (fun b => b = M1 ∨ b = K) w w4) := by
    have hs4 := hg4.size
    simp [World.setCell] at hs4
    refine ⟨hI4, by omega, hg4.os, hg4.tape, hg4.output, fun b hb hS => ?_⟩
    rw [hg4.block b (by simp [World.setCell]; omega) (by simpa using fun h => hS (Or.inl h)), Below.heap_setCell _ _ _ _ (by simpa using fun h => hS (Or.inr h))]
  clear hL h2 hf hw hf1 h1 hK hI3 hL3 hK3 hI4 hg4 hoM hoM2 nKM nKL
  go_enter Tryd.func22, Tryd.ntmps22
  go_wp2_with fail
  refine HW.out.mono ?_
  rintro e w1 ⟨rfl, rfl⟩
  go_wp2_with fail
  go_ret
  exact ⟨rfl, HN.out⟩

set_option maxRecDepth 100000 in
set_option maxHeartbeats 2000000 in
/-- the next one has it -/
theorem leave_next {w : World} {L M1 M2 K n n1 : Nat} {f1 f2 : Int → Option Value} (hL : LocksAt w L M1 M2) (h1 : IMap w M1 n1 f1) (h2 : IMap w M2 n f2) {who what nx : Int} (a0 : 0 ≤ who) (a1 : who < 50) (b0 : 0 ≤ what) (b1 : what < 50) (n0 : 0 ≤ nx) (n1' : nx < 50)
    (hf : f2 who = none) (hf1 : f1 what = some (.pointer (some ⟨K, 0, none⟩))) {g o m c : Nat} (hK : LockAt w K who 1 (.slice (some ⟨g, o, none⟩) (m + 1) (c + 1))) (hmc : m ≤ c) (hx : w.cell? ⟨g, o, none⟩ = some (.int .i64 nx)) (hg : g ≠ K) :
    Calls Tryd.prog 22 #[.pointer (some ⟨L, 0, none⟩), .int .i64 who, .int .i64 what] w fun e w' => e = .returned .nilIface ∧ LockAt w' K nx 1 (.slice (if c = 0 then some ⟨g, o, none⟩ else some ⟨g, o + 1, none⟩) m c) ∧ IMap w' M2 n (delf f2 nx) ∧ KeptBut (fun b => b = M2 ∨ b = K) w w' := by
  have c1 : w.cell? ⟨L, 0, none⟩ = some (.map (some M1)) := by unfold LocksAt at hL; simp [World.cell?, hL]
  have hw := wrong_none hL h2 a0 a1 b0 b1 hf
  have HW := Lib.hid hw
  have hrun := h1.look_some (P := Tryd.prog) (k := 3) (t := 74) (e := 78) Tryd.underlying3 Tryd.underlying74 (wf_small b0 b1) hf1 false
  simp only [Bool.false_eq_true, if_false] at hrun
  have d0 : w.cell? ⟨K, 0, none⟩ = some (.int .i64 who) := by unfold LockAt at hK; simp [World.cell?, hK]
  have d1 : w.cell? ⟨K, 1, none⟩ = some (.int .i64 1) := by unfold LockAt at hK; simp [World.cell?, hK]
  have d2 : w.cell? ⟨K, 2, none⟩ = some (.slice (some ⟨g, o, none⟩) (m + 1) (c + 1)) := by unfold LockAt at hK; simp [World.cell?, hK]
  have e1 : w.frozen? ⟨K, 1, none⟩ = false := by unfold LockAt at hK; simp [World.frozen?, hK]
  obtain ⟨oM, hoM, hoM2⟩ := h2.block
  have nKM : M2 ≠ K := by intro h; rw [h, hK] at hoM; exact hoM2 _ _ _ (by simpa using hoM.symm)
  have nKL : L ≠ K := by intro h; have h2 := hL; have h3 := hK; unfold LockAt at h3; unfold LocksAt at h2; rw [h, h3] at h2; simp at h2
  obtain ⟨w2, hw2⟩ : ∃ w2, w2 = w.setCell ⟨K, 1, none⟩ (.int .i64 0) := ⟨_, rfl⟩
  have hI2 : IMap w2 M2 n f2 := by rw [hw2]; exact h2.kept (Below.heap_setCell _ _ _ _ (by simpa using nKM))
  have hL2 : LocksAt w2 L M1 M2 := by rw [hw2]; exact (Below.heap_setCell _ _ _ _ (by simpa using nKL)).trans hL
  have hK2 : LockAt w2 K who 0 (.slice (some ⟨g, o, none⟩) (m + 1) (c + 1)) := by rw [hw2]; exact block_set hK (by simp) _
  have hx2 : w2.cell? ⟨g, o, none⟩ = some (.int .i64 nx) := by rw [hw2]; exact (World.cell?_of_block (Below.heap_setCell _ _ _ _ (by simpa using hg))).trans hx
  have k0 : w2.cell? ⟨K, 0, none⟩ = some (.int .i64 who) := by unfold LockAt at hK2; simp [World.cell?, hK2]
  have k1 : w2.cell? ⟨K, 1, none⟩ = some (.int .i64 0) := by unfold LockAt at hK2; simp [World.cell?, hK2]
  have k2 : w2.cell? ⟨K, 2, none⟩ = some (.slice (some ⟨g, o, none⟩) (m + 1) (c + 1)) := by unfold LockAt at hK2; simp [World.cell?, hK2]
  have q0 : w2.frozen? ⟨K, 0, none⟩ = false := by unfold LockAt at hK2; simp [World.frozen?, hK2]
  have q1 : w2.frozen? ⟨K, 1, none⟩ = false := by unfold LockAt at hK2; simp [World.frozen?, hK2]
  have q2 : w2.frozen? ⟨K, 2, none⟩ = false := by unfold LockAt at hK2; simp [World.frozen?, hK2]
  have k3 : w2.cell? ⟨L, 1, none⟩ = some (.map (some M2)) := by unfold LocksAt at hL2; simp [World.cell?, hL2]
  obtain ⟨w5, hw5⟩ : ∃ w5, w5 = (((w2.setCell ⟨K, 0, none⟩ (.int .i64 nx)).setCell ⟨K, 1, none⟩ (.int .i64 1)).setCell ⟨K, 2, none⟩ (.slice (if c = 0 then some ⟨g, o, none⟩ else some ⟨g, o + 1, none⟩) m c)).drew := ⟨_, rfl⟩
  have hK5 : LockAt w5 K nx 1 (.slice (if c = 0 then some ⟨g, o, none⟩ else some ⟨g, o + 1, none⟩) m c) := by
    rw [hw5]
    exact block_set (block_set (block_set hK2 (by simp) _) (by simp) _) (by simp) _
  have h5 : ∀ b, b ≠ K → w5.heap[b]? = w.heap[b]? := by
    intro b hb
    rw [hw5, hw2]
    show ((((w.setCell _ _).setCell _ _).setCell _ _).setCell _ _).heap[b]? = _
    rw [Below.heap_setCell _ _ _ _ (by simpa using hb), Below.heap_setCell _ _ _ _ (by simpa using hb), Below.heap_setCell _ _ _ _ (by simpa using hb), Below.heap_setCell _ _ _ _ (by simpa using hb)]
  have hs5 : w5.heap.size = w.heap.size := by rw [hw5, hw2]; simp [World.setCell, World.drew]
  have hr5 : w5.os = w.os ∧ w5.tape = w.tape ∧ w5.output = w.output := by rw [hw5, hw2]; exact ⟨rfl, rfl, rfl⟩
  have hI5 : IMap w5.drew M2 n f2 := h2.kept (h5 M2 nKM)
  have j0 : w5.cell? ⟨K, 0, none⟩ = some (.int .i64 nx) := by unfold LockAt at hK5; simp [World.cell?, hK5]
  have j3 : w5.cell? ⟨L, 1, none⟩ = some (.map (some M2)) := by have h9 := (h5 L nKL).trans hL; simp [World.cell?, h9]
  obtain ⟨w6, hst, hI6, hg6⟩ := hI5.drop (P := Tryd.prog) (k := 3) (t := 75) (e := 3) (ty := 0) Tryd.underlying3 Tryd.underlying75 (wf_small n0 n1')
  have HN : Hid (LockAt w6 K nx 1 (.slice (if c = 0 then some ⟨g, o, none⟩ else some ⟨g, o + 1, none⟩) m c) ∧ IMap w6 M2 n (delf f2 nx) ∧ KeptBut (fun b => b = M2 ∨ b = K) w w6) := by
    have hs6 := hg6.size
    have hKs : K < w5.heap.size := (Array.getElem?_eq_some_iff.1 hK5).1
    simp at hs6
    refine ⟨(hg6.block K (by simpa using hKs) (by simpa using nKM.symm)).trans hK5, hI6, by omega, hg6.os.trans hr5.1, hg6.tape.trans hr5.2.1, hg6.output.trans hr5.2.2, fun b hb hS => ?_⟩
    exact (hg6.block b (by simp; omega) (by simpa using fun h => hS (Or.inl h))).trans (h5 b (fun h => hS (Or.inr h)))
  have HX := Lib.hid hw2
  have HX5 := Lib.hid hw5
  clear hL h2 hf hw hf1 h1 hK hI2 hL2 hK2 hoM hoM2 hw2 hw5 hK5 h5 hs5 hr5 hI5 hI6 hg6
  have hm1 : (1 : Int) ≤ ((m : Nat) : Int) + 1 := by omega
  go_enter Tryd.func22, Tryd.ntmps22
  go_wp2_with fail
  refine HW.out.mono ?_
  rintro e w1 ⟨rfl, rfl⟩
  go_wp2_with fail
  rw [← HX.out]
  go_wp2_with fail
  go_region
  rw [← HX5.out]
  clear hx2 k0 k1 k2 q0 q1 q2 k3 d0 d1 d2 e1 c1 hrun hx HX HX5 HW
  go_wp2_with fail
  all_goals go_region
  all_goals go_wp2_with fail
  all_goals go_ret
  all_goals exact ⟨rfl, by have h9 := HN.out; simpa [h] using h9⟩
end Go.Proofs.YtnamnihdbemkhaaDoor
