/-
  The walk of fold.known: where nothing is made, where a sum is.
-/
import Derived.Test.YtimkingebjhemaaDoorFold1
import Derived.Test.YtimkingebjhemaaDoorCode
import Derived.Test.YtimkingebjhemaaDoorBlkG
import Derived.Deep.RegionHeld3
import Derived.Deep.DeepCutAuto
import Derived.BigQuiet
import Derived.Deep.QuietTactic
namespace Go.Proofs.YtimkingebjhemaaDoor
set_option linter.unusedVariables false
set_option linter.unusedSimpArgs false
open Go.RowKit Go.Shelf Go.Lib

def zeroI : InsR := ⟨0, 0, 0, [], [], []⟩
def KnRes (x : InsR) (n : Int) (w : World) (e : Ending) (w' : World) : Prop := e = .returned (.tuple #[insV x, .int .i64 n]) ∧ Below w.heap.size w w'
def iArr (x : InsR) : Array Value := #[.int .i64 x.op, .int .i64 x.a, .int .i64 x.b, .string ⟨⟨x.ty⟩⟩, .string ⟨⟨x.cl⟩⟩, .string ⟨⟨x.nm⟩⟩]
theorem iArr_one (x : InsR) : (iArr x).all (·.oneCell') = true := by simp [iArr, Value.oneCell']
theorem info_ins : (Tryd.prog.info? 36).map (·.size) = some 6 := by kernel_rfl
theorem iblk_cells {W : World} {g : Nat} {x : InsR} (h : Blk W g 36 (iArr x)) : W.cell? ⟨g, 0, none⟩ = some (.int .i64 x.op) ∧ W.cell? ⟨g, 1, none⟩ = some (.int .i64 x.a) ∧ W.cell? ⟨g, 2, none⟩ = some (.int .i64 x.b) ∧ W.cell? ⟨g, 3, none⟩ = some (.string ⟨⟨x.ty⟩⟩) ∧
    W.cell? ⟨g, 4, none⟩ = some (.string ⟨⟨x.cl⟩⟩) ∧ W.cell? ⟨g, 5, none⟩ = some (.string ⟨⟨x.nm⟩⟩) :=
  ⟨h.cell 0, h.cell 1, h.cell 2, h.cell 3, h.cell 4, h.cell 5⟩

set_option maxRecDepth 100000 in
set_option maxHeartbeats 2000000 in
/-- one instruction alone, or one that is no Push -/
theorem known_not (x : InsR) (r : List InsR) (a : Option Addr) (cap : Nat) (w : World) (hC : CodeAt w a cap (x :: r)) (h : r = [] ∨ x.op ≠ 2) :
    Calls Tryd.prog 32 #[.slice a (x :: r).length cap] w (KnRes zeroI 0 w) := by
  obtain ⟨b, off, rfl, hlt, c0, _⟩ := hC.cells (k := 0) (x := x) rfl
  have HB := Lib.hid (fun o => (Below.refl w.heap.size w).alloc (Nat.le_refl _) o)
  simp only [Nat.zero_mul, Nat.add_zero] at c0
  clear hC
  rw [List.length_cons]
  by_cases hr : r.length + 1 < 2
  · have h1 : ((r.length + 1 : Nat) : Int) < 2 := by omega
    clear h hr
    go_enter Tryd.func32, Tryd.ntmps32
    go_wp2_with fail
    exact bodyPost_ret (v := .tuple #[insV zeroI, .int .i64 0]) (by simp [results, Tryd.results32, go_sem, insV, zeroI]) rfl ⟨rfl, HB.out _⟩
  · have h1 : ¬ ((r.length + 1 : Nat) : Int) < 2 := by omega
    have h2 : (x.op != 2) = true := by
      rw [bne_iff_ne]
      rcases h with rfl | h
      · simp at hr
      · exact h
    have h3 : (0 : Int) < ((r.length + 1 : Nat) : Int) := by omega
    clear h hr
    go_enter Tryd.func32, Tryd.ntmps32
    go_wp2_with fail
    exact bodyPost_ret (v := .tuple #[insV zeroI, .int .i64 0]) (by simp [results, Tryd.results32, go_sem, insV, zeroI]) rfl ⟨rfl, HB.out _⟩

set_option maxRecDepth 100000 in
set_option maxHeartbeats 8000000 in
/-- a Push, and behind it neither a Push nor what is folded with one -/
theorem known_next (v : Int) (y : InsR) (hy : y = nopR ∨ y = addI ∨ y = giveI) (r : List InsR) (a : Option Addr) (cap : Nat) (w : World) (hC : CodeAt w a cap (pushI v :: y :: r)) :
    Calls Tryd.prog 32 #[.slice a (pushI v :: y :: r).length cap] w (KnRes zeroI 0 w) := by
  obtain ⟨b, off, rfl, hlt, c0, c1, c2, c3, c4, c5⟩ := hC.cells (k := 0) (x := pushI v) rfl
  obtain ⟨b', off', hb', _, d0, d1, d2, d3, d4, d5⟩ := hC.cells (k := 1) (x := y) rfl
  simp only [Option.some.injEq, Addr.mk.injEq, and_true] at hb'
  obtain ⟨rfl, rfl⟩ := hb'
  simp only [Nat.zero_mul, Nat.add_zero, Nat.one_mul] at c0 c1 c2 c3 c4 c5 d0 d1 d2 d3 d4 d5
  clear hC
  rw [List.length_cons, List.length_cons]
  obtain ⟨n, hn⟩ : ∃ n, n = r.length + 1 + 1 := ⟨_, rfl⟩
  rw [← hn]
  have q1 : ¬ (n : Int) < 2 := by omega
  have q2 : (0 : Int) < (n : Int) := by omega
  have q3 : (1 : Int) < (n : Int) := by omega
  have q4 : 0 < n := by omega
  have q5 : 1 < n := by omega
  clear hn
  simp only [pushI] at c0 c1 c2 c3 c4 c5
  rcases hy with rfl | rfl | rfl
  all_goals
    simp only [nopR, addI, giveI] at d0 d1 d2 d3 d4 d5
  · have hS : ∀ W', Below w.heap.size w W' → W'.cell? ⟨b, off, none⟩ = some (.int .i64 2) ∧ W'.cell? ⟨b, off + 1, none⟩ = some (.int .i64 v) ∧ W'.cell? ⟨b, off + 2, none⟩ = some (.int .i64 0) ∧ W'.cell? ⟨b, off + 3, none⟩ = some (.string ⟨⟨[73]⟩⟩) ∧ W'.cell? ⟨b, off + 4, none⟩ = some (.string ⟨⟨[]⟩⟩) ∧ W'.cell? ⟨b, off + 5, none⟩ = some (.string ⟨⟨[]⟩⟩) ∧ W'.cell? ⟨b, off + 6, none⟩ = some (.int .i64 1) ∧ W'.cell? ⟨b, off + 6 + 1, none⟩ = some (.int .i64 0) ∧ W'.cell? ⟨b, off + 6 + 2, none⟩ = some (.int .i64 0) ∧ W'.cell? ⟨b, off + 6 + 3, none⟩ = some (.string ⟨⟨[]⟩⟩) ∧ W'.cell? ⟨b, off + 6 + 4, none⟩ = some (.string ⟨⟨[]⟩⟩) ∧ W'.cell? ⟨b, off + 6 + 5, none⟩ = some (.string ⟨⟨[]⟩⟩) := fun W' hW => by
      have hz : ∀ o, W'.cell? ⟨b, o, none⟩ = w.cell? ⟨b, o, none⟩ := fun o => hW.cell (p := ⟨b, o, none⟩) hlt
      exact ⟨(hz _).trans c0, (hz _).trans c1, (hz _).trans c2, (hz _).trans c3, (hz _).trans c4, (hz _).trans c5, (hz _).trans d0, (hz _).trans d1, (hz _).trans d2, (hz _).trans d3, (hz _).trans d4, (hz _).trans d5⟩
    have HS := Lib.hid hS
    clear hS
    go_enter Tryd.func32, Tryd.ntmps32
    go_upto_region 3 with fail
    go_cut [0, 2, 4, 5] (fun s0 s2 s4 s5 wx => ∃ p q, s0 = .slice (some ⟨b, off, none⟩) n cap ∧ s2 = .pointer (some ⟨w.heap.size, 0, none⟩) ∧ s4 = .pointer (some ⟨p, 0, none⟩) ∧ s5 = .pointer (some ⟨q, 0, none⟩) ∧ Blk wx w.heap.size 36 (iArr zeroI) ∧ Blk wx p 36 (iArr (pushI v)) ∧ Blk wx q 36 (iArr (nopR)) ∧ w.heap.size < p ∧ w.heap.size < q ∧ Below w.heap.size w wx)
    case first =>
      have hb0 := (Below.refl w.heap.size w).alloc (Nat.le_refl _) (.cells #[.int .i64 0, .int .i64 0, .int .i64 0, .string ⟨#[]⟩, .string ⟨#[]⟩, .string ⟨#[]⟩] 36)
      go_region_held3 (fun W' => W'.cell? ⟨b, off, none⟩ = some (.int .i64 2) ∧ W'.cell? ⟨b, off + 1, none⟩ = some (.int .i64 v) ∧ W'.cell? ⟨b, off + 2, none⟩ = some (.int .i64 0) ∧ W'.cell? ⟨b, off + 3, none⟩ = some (.string ⟨⟨[73]⟩⟩) ∧ W'.cell? ⟨b, off + 4, none⟩ = some (.string ⟨⟨[]⟩⟩) ∧ W'.cell? ⟨b, off + 5, none⟩ = some (.string ⟨⟨[]⟩⟩) ∧ W'.cell? ⟨b, off + 6, none⟩ = some (.int .i64 1) ∧ W'.cell? ⟨b, off + 6 + 1, none⟩ = some (.int .i64 0) ∧ W'.cell? ⟨b, off + 6 + 2, none⟩ = some (.int .i64 0) ∧ W'.cell? ⟨b, off + 6 + 3, none⟩ = some (.string ⟨⟨[]⟩⟩) ∧ W'.cell? ⟨b, off + 6 + 4, none⟩ = some (.string ⟨⟨[]⟩⟩) ∧ W'.cell? ⟨b, off + 6 + 5, none⟩ = some (.string ⟨⟨[]⟩⟩))
        (exact HS.out _ (by repeat (first | exact hb0 | exact Below.refl _ _ | refine Below.drew ?_ | refine Below.alloc ?_ (by first | omega | (simp; done) | (simp; omega)) _ | refine Below.setCell ?_ (by first | omega | (simp; done) | (simp; omega)) _)))
        (fail)
      all_goals
        go_wp2_with fail
        go_meet
        refine ⟨_, _, rfl, rfl, rfl, rfl, ?_, ?_, ?_, by omega, by omega, ?_⟩
        · repeat (first | exact blk_new _ _ _ _ rfl | refine Blk.drew ?_ | refine Blk.alloc ?_ _)
        · repeat (first | exact blk_new _ _ _ _ (by simp) | refine Blk.drew ?_ | refine Blk.alloc ?_ _)
        · repeat (first | exact blk_new _ _ _ _ (by simp) | refine Blk.drew ?_ | refine Blk.alloc ?_ _)
        · repeat (first | exact hb0 | exact Below.refl _ _ | refine Below.drew ?_ | refine Below.alloc ?_ (by first | omega | (simp; done) | (simp; omega)) _)
    case rest =>
      obtain ⟨p, q, rfl, rfl, rfl, rfl, hz, hp, hq, hpn, hqn, hb⟩ := hcut
      have hpl := hp.lt
      have hql := hq.lt
      have HZ := Lib.hid hz
      have HB := Lib.hid hb
      have HPB := Lib.hid hp
      have HQB := Lib.hid hq
      obtain ⟨e0, e1, e2, e3, e4, e5⟩ := iblk_cells hp
      obtain ⟨f0, f1, f2, f3, f4, f5⟩ := iblk_cells hq
      simp only [pushI, nopR, addI, giveI] at e0 e1 e2 e3 e4 e5 f0 f1 f2 f3 f4 f5
      clear hz hp hq hb
      clear HS HPB HQB c0 c1 c2 c3 c4 c5 d0 d1 d2 d3 d4 d5
      by_cases h3 : n < 3
      all_goals
        have q6 : decide ((n : Int) < 3) = decide (n < 3) := by rw [decide_eq_decide]; omega
        first
          | (have q7 : decide (n < 3) = true := by rw [decide_eq_true_eq]; omega)
          | (have q7 : decide (n < 3) = false := by rw [decide_eq_false_iff_not]; omega)
        rw [q7] at q6
        go_wp2_with fail
        go_quiet (fail)
        go_wp2_with (refine wpList_store_blk (x := .tmp 2) (y := .tmp 112) (ty := 36) (g := w.heap.size) (cells := iArr zeroI) (by rfl) (by rfl) (by rfl) (by rfl) (by repeat (first | exact HZ.out | refine Blk.drew ?_ | refine Blk.drewN ?_ _ | refine Blk.alloc ?_ _)) info_ins rfl (iArr_one zeroI) ?_)
        intro W2 hbk hgr
        obtain ⟨k0, k1, k2, k3, k4, k5⟩ := iblk_cells hbk
        have hbl := below_grown (B := w.heap.size) (w0 := w) (by repeat (first | exact HB.out | refine Below.drew ?_ | refine below_dn ?_ _ | refine Below.alloc ?_ (by first | omega | (simp; done) | (simp; omega) | exact HB.out.size) _)) hgr (Nat.le_refl _) (by have := HB.out.size; simp; omega)
        clear hbk hgr
        go_wp2_with fail
        exact bodyPost_ret (v := .tuple #[insV zeroI, .int .i64 0]) (by simp [results, Tryd.results32, go_sem, k0, k1, k2, k3, k4, k5, insV, zeroI]) rfl ⟨rfl, hbl⟩
  · have hS : ∀ W', Below w.heap.size w W' → W'.cell? ⟨b, off, none⟩ = some (.int .i64 2) ∧ W'.cell? ⟨b, off + 1, none⟩ = some (.int .i64 v) ∧ W'.cell? ⟨b, off + 2, none⟩ = some (.int .i64 0) ∧ W'.cell? ⟨b, off + 3, none⟩ = some (.string ⟨⟨[73]⟩⟩) ∧ W'.cell? ⟨b, off + 4, none⟩ = some (.string ⟨⟨[]⟩⟩) ∧ W'.cell? ⟨b, off + 5, none⟩ = some (.string ⟨⟨[]⟩⟩) ∧ W'.cell? ⟨b, off + 6, none⟩ = some (.int .i64 9) ∧ W'.cell? ⟨b, off + 6 + 1, none⟩ = some (.int .i64 1) ∧ W'.cell? ⟨b, off + 6 + 2, none⟩ = some (.int .i64 0) ∧ W'.cell? ⟨b, off + 6 + 3, none⟩ = some (.string ⟨⟨[73]⟩⟩) ∧ W'.cell? ⟨b, off + 6 + 4, none⟩ = some (.string ⟨⟨[]⟩⟩) ∧ W'.cell? ⟨b, off + 6 + 5, none⟩ = some (.string ⟨⟨[]⟩⟩) := fun W' hW => by
      have hz : ∀ o, W'.cell? ⟨b, o, none⟩ = w.cell? ⟨b, o, none⟩ := fun o => hW.cell (p := ⟨b, o, none⟩) hlt
      exact ⟨(hz _).trans c0, (hz _).trans c1, (hz _).trans c2, (hz _).trans c3, (hz _).trans c4, (hz _).trans c5, (hz _).trans d0, (hz _).trans d1, (hz _).trans d2, (hz _).trans d3, (hz _).trans d4, (hz _).trans d5⟩
    have HS := Lib.hid hS
    clear hS
    go_enter Tryd.func32, Tryd.ntmps32
    go_upto_region 3 with fail
    go_cut [0, 2, 4, 5] (fun s0 s2 s4 s5 wx => ∃ p q, s0 = .slice (some ⟨b, off, none⟩) n cap ∧ s2 = .pointer (some ⟨w.heap.size, 0, none⟩) ∧ s4 = .pointer (some ⟨p, 0, none⟩) ∧ s5 = .pointer (some ⟨q, 0, none⟩) ∧ Blk wx w.heap.size 36 (iArr zeroI) ∧ Blk wx p 36 (iArr (pushI v)) ∧ Blk wx q 36 (iArr (addI)) ∧ w.heap.size < p ∧ w.heap.size < q ∧ Below w.heap.size w wx)
    case first =>
      have hb0 := (Below.refl w.heap.size w).alloc (Nat.le_refl _) (.cells #[.int .i64 0, .int .i64 0, .int .i64 0, .string ⟨#[]⟩, .string ⟨#[]⟩, .string ⟨#[]⟩] 36)
      go_region_held3 (fun W' => W'.cell? ⟨b, off, none⟩ = some (.int .i64 2) ∧ W'.cell? ⟨b, off + 1, none⟩ = some (.int .i64 v) ∧ W'.cell? ⟨b, off + 2, none⟩ = some (.int .i64 0) ∧ W'.cell? ⟨b, off + 3, none⟩ = some (.string ⟨⟨[73]⟩⟩) ∧ W'.cell? ⟨b, off + 4, none⟩ = some (.string ⟨⟨[]⟩⟩) ∧ W'.cell? ⟨b, off + 5, none⟩ = some (.string ⟨⟨[]⟩⟩) ∧ W'.cell? ⟨b, off + 6, none⟩ = some (.int .i64 9) ∧ W'.cell? ⟨b, off + 6 + 1, none⟩ = some (.int .i64 1) ∧ W'.cell? ⟨b, off + 6 + 2, none⟩ = some (.int .i64 0) ∧ W'.cell? ⟨b, off + 6 + 3, none⟩ = some (.string ⟨⟨[73]⟩⟩) ∧ W'.cell? ⟨b, off + 6 + 4, none⟩ = some (.string ⟨⟨[]⟩⟩) ∧ W'.cell? ⟨b, off + 6 + 5, none⟩ = some (.string ⟨⟨[]⟩⟩))
        (exact HS.out _ (by repeat (first | exact hb0 | exact Below.refl _ _ | refine Below.drew ?_ | refine Below.alloc ?_ (by first | omega | (simp; done) | (simp; omega)) _ | refine Below.setCell ?_ (by first | omega | (simp; done) | (simp; omega)) _)))
        (fail)
      all_goals
        go_wp2_with fail
        go_meet
        refine ⟨_, _, rfl, rfl, rfl, rfl, ?_, ?_, ?_, by omega, by omega, ?_⟩
        · repeat (first | exact blk_new _ _ _ _ rfl | refine Blk.drew ?_ | refine Blk.alloc ?_ _)
        · repeat (first | exact blk_new _ _ _ _ (by simp) | refine Blk.drew ?_ | refine Blk.alloc ?_ _)
        · repeat (first | exact blk_new _ _ _ _ (by simp) | refine Blk.drew ?_ | refine Blk.alloc ?_ _)
        · repeat (first | exact hb0 | exact Below.refl _ _ | refine Below.drew ?_ | refine Below.alloc ?_ (by first | omega | (simp; done) | (simp; omega)) _)
    case rest =>
      obtain ⟨p, q, rfl, rfl, rfl, rfl, hz, hp, hq, hpn, hqn, hb⟩ := hcut
      have hpl := hp.lt
      have hql := hq.lt
      have HZ := Lib.hid hz
      have HB := Lib.hid hb
      have HPB := Lib.hid hp
      have HQB := Lib.hid hq
      obtain ⟨e0, e1, e2, e3, e4, e5⟩ := iblk_cells hp
      obtain ⟨f0, f1, f2, f3, f4, f5⟩ := iblk_cells hq
      simp only [pushI, nopR, addI, giveI] at e0 e1 e2 e3 e4 e5 f0 f1 f2 f3 f4 f5
      clear hz hp hq hb
      clear HS HPB HQB c0 c1 c2 c3 c4 c5 d0 d1 d2 d3 d4 d5
      by_cases h3 : n < 3
      all_goals
        have q6 : decide ((n : Int) < 3) = decide (n < 3) := by rw [decide_eq_decide]; omega
        first
          | (have q7 : decide (n < 3) = true := by rw [decide_eq_true_eq]; omega)
          | (have q7 : decide (n < 3) = false := by rw [decide_eq_false_iff_not]; omega)
        rw [q7] at q6
        go_wp2_with fail
        go_quiet (fail)
        go_wp2_with (refine wpList_store_blk (x := .tmp 2) (y := .tmp 112) (ty := 36) (g := w.heap.size) (cells := iArr zeroI) (by rfl) (by rfl) (by rfl) (by rfl) (by repeat (first | exact HZ.out | refine Blk.drew ?_ | refine Blk.drewN ?_ _ | refine Blk.alloc ?_ _)) info_ins rfl (iArr_one zeroI) ?_)
        intro W2 hbk hgr
        obtain ⟨k0, k1, k2, k3, k4, k5⟩ := iblk_cells hbk
        have hbl := below_grown (B := w.heap.size) (w0 := w) (by repeat (first | exact HB.out | refine Below.drew ?_ | refine below_dn ?_ _ | refine Below.alloc ?_ (by first | omega | (simp; done) | (simp; omega) | exact HB.out.size) _)) hgr (Nat.le_refl _) (by have := HB.out.size; simp; omega)
        clear hbk hgr
        go_wp2_with fail
        exact bodyPost_ret (v := .tuple #[insV zeroI, .int .i64 0]) (by simp [results, Tryd.results32, go_sem, k0, k1, k2, k3, k4, k5, insV, zeroI]) rfl ⟨rfl, hbl⟩
  · have hS : ∀ W', Below w.heap.size w W' → W'.cell? ⟨b, off, none⟩ = some (.int .i64 2) ∧ W'.cell? ⟨b, off + 1, none⟩ = some (.int .i64 v) ∧ W'.cell? ⟨b, off + 2, none⟩ = some (.int .i64 0) ∧ W'.cell? ⟨b, off + 3, none⟩ = some (.string ⟨⟨[73]⟩⟩) ∧ W'.cell? ⟨b, off + 4, none⟩ = some (.string ⟨⟨[]⟩⟩) ∧ W'.cell? ⟨b, off + 5, none⟩ = some (.string ⟨⟨[]⟩⟩) ∧ W'.cell? ⟨b, off + 6, none⟩ = some (.int .i64 27) ∧ W'.cell? ⟨b, off + 6 + 1, none⟩ = some (.int .i64 0) ∧ W'.cell? ⟨b, off + 6 + 2, none⟩ = some (.int .i64 0) ∧ W'.cell? ⟨b, off + 6 + 3, none⟩ = some (.string ⟨⟨[]⟩⟩) ∧ W'.cell? ⟨b, off + 6 + 4, none⟩ = some (.string ⟨⟨[]⟩⟩) ∧ W'.cell? ⟨b, off + 6 + 5, none⟩ = some (.string ⟨⟨[]⟩⟩) := fun W' hW => by
      have hz : ∀ o, W'.cell? ⟨b, o, none⟩ = w.cell? ⟨b, o, none⟩ := fun o => hW.cell (p := ⟨b, o, none⟩) hlt
      exact ⟨(hz _).trans c0, (hz _).trans c1, (hz _).trans c2, (hz _).trans c3, (hz _).trans c4, (hz _).trans c5, (hz _).trans d0, (hz _).trans d1, (hz _).trans d2, (hz _).trans d3, (hz _).trans d4, (hz _).trans d5⟩
    have HS := Lib.hid hS
    clear hS
    go_enter Tryd.func32, Tryd.ntmps32
    go_upto_region 3 with fail
    go_cut [0, 2, 4, 5] (fun s0 s2 s4 s5 wx => ∃ p q, s0 = .slice (some ⟨b, off, none⟩) n cap ∧ s2 = .pointer (some ⟨w.heap.size, 0, none⟩) ∧ s4 = .pointer (some ⟨p, 0, none⟩) ∧ s5 = .pointer (some ⟨q, 0, none⟩) ∧ Blk wx w.heap.size 36 (iArr zeroI) ∧ Blk wx p 36 (iArr (pushI v)) ∧ Blk wx q 36 (iArr (giveI)) ∧ w.heap.size < p ∧ w.heap.size < q ∧ Below w.heap.size w wx)
    case first =>
      have hb0 := (Below.refl w.heap.size w).alloc (Nat.le_refl _) (.cells #[.int .i64 0, .int .i64 0, .int .i64 0, .string ⟨#[]⟩, .string ⟨#[]⟩, .string ⟨#[]⟩] 36)
      go_region_held3 (fun W' => W'.cell? ⟨b, off, none⟩ = some (.int .i64 2) ∧ W'.cell? ⟨b, off + 1, none⟩ = some (.int .i64 v) ∧ W'.cell? ⟨b, off + 2, none⟩ = some (.int .i64 0) ∧ W'.cell? ⟨b, off + 3, none⟩ = some (.string ⟨⟨[73]⟩⟩) ∧ W'.cell? ⟨b, off + 4, none⟩ = some (.string ⟨⟨[]⟩⟩) ∧ W'.cell? ⟨b, off + 5, none⟩ = some (.string ⟨⟨[]⟩⟩) ∧ W'.cell? ⟨b, off + 6, none⟩ = some (.int .i64 27) ∧ W'.cell? ⟨b, off + 6 + 1, none⟩ = some (.int .i64 0) ∧ W'.cell? ⟨b, off + 6 + 2, none⟩ = some (.int .i64 0) ∧ W'.cell? ⟨b, off + 6 + 3, none⟩ = some (.string ⟨⟨[]⟩⟩) ∧ W'.cell? ⟨b, off + 6 + 4, none⟩ = some (.string ⟨⟨[]⟩⟩) ∧ W'.cell? ⟨b, off + 6 + 5, none⟩ = some (.string ⟨⟨[]⟩⟩))
        (exact HS.out _ (by repeat (first | exact hb0 | exact Below.refl _ _ | refine Below.drew ?_ | refine Below.alloc ?_ (by first | omega | (simp; done) | (simp; omega)) _ | refine Below.setCell ?_ (by first | omega | (simp; done) | (simp; omega)) _)))
        (fail)
      all_goals
        go_wp2_with fail
        go_meet
        refine ⟨_, _, rfl, rfl, rfl, rfl, ?_, ?_, ?_, by omega, by omega, ?_⟩
        · repeat (first | exact blk_new _ _ _ _ rfl | refine Blk.drew ?_ | refine Blk.alloc ?_ _)
        · repeat (first | exact blk_new _ _ _ _ (by simp) | refine Blk.drew ?_ | refine Blk.alloc ?_ _)
        · repeat (first | exact blk_new _ _ _ _ (by simp) | refine Blk.drew ?_ | refine Blk.alloc ?_ _)
        · repeat (first | exact hb0 | exact Below.refl _ _ | refine Below.drew ?_ | refine Below.alloc ?_ (by first | omega | (simp; done) | (simp; omega)) _)
    case rest =>
      obtain ⟨p, q, rfl, rfl, rfl, rfl, hz, hp, hq, hpn, hqn, hb⟩ := hcut
      have hpl := hp.lt
      have hql := hq.lt
      have HZ := Lib.hid hz
      have HB := Lib.hid hb
      have HPB := Lib.hid hp
      have HQB := Lib.hid hq
      obtain ⟨e0, e1, e2, e3, e4, e5⟩ := iblk_cells hp
      obtain ⟨f0, f1, f2, f3, f4, f5⟩ := iblk_cells hq
      simp only [pushI, nopR, addI, giveI] at e0 e1 e2 e3 e4 e5 f0 f1 f2 f3 f4 f5
      clear hz hp hq hb
      clear HS HPB HQB c0 c1 c2 c3 c4 c5 d0 d1 d2 d3 d4 d5
      by_cases h3 : n < 3
      all_goals
        have q6 : decide ((n : Int) < 3) = decide (n < 3) := by rw [decide_eq_decide]; omega
        first
          | (have q7 : decide (n < 3) = true := by rw [decide_eq_true_eq]; omega)
          | (have q7 : decide (n < 3) = false := by rw [decide_eq_false_iff_not]; omega)
        rw [q7] at q6
        go_wp2_with fail
        go_quiet (fail)
        go_wp2_with (refine wpList_store_blk (x := .tmp 2) (y := .tmp 112) (ty := 36) (g := w.heap.size) (cells := iArr zeroI) (by rfl) (by rfl) (by rfl) (by rfl) (by repeat (first | exact HZ.out | refine Blk.drew ?_ | refine Blk.drewN ?_ _ | refine Blk.alloc ?_ _)) info_ins rfl (iArr_one zeroI) ?_)
        intro W2 hbk hgr
        obtain ⟨k0, k1, k2, k3, k4, k5⟩ := iblk_cells hbk
        have hbl := below_grown (B := w.heap.size) (w0 := w) (by repeat (first | exact HB.out | refine Below.drew ?_ | refine below_dn ?_ _ | refine Below.alloc ?_ (by first | omega | (simp; done) | (simp; omega) | exact HB.out.size) _)) hgr (Nat.le_refl _) (by have := HB.out.size; simp; omega)
        clear hbk hgr
        go_wp2_with fail
        exact bodyPost_ret (v := .tuple #[insV zeroI, .int .i64 0]) (by simp [results, Tryd.results32, go_sem, k0, k1, k2, k3, k4, k5, insV, zeroI]) rfl ⟨rfl, hbl⟩
end Go.Proofs.YtimkingebjhemaaDoor
