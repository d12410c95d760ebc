/-
  The walk of fold.known at a sum.
-/
import Derived.Test.YtimkingebjhemaaDoorFold2
import Derived.Lib.QuietBelow
namespace Go.Proofs.YtimkingebjhemaaDoor
set_option linter.unusedVariables false
set_option linter.unusedSimpArgs false
open Go.RowKit Go.Shelf Go.Lib Go.Sort

set_option maxRecDepth 100000 in
set_option maxHeartbeats 1000000 in
theorem push_yes (v : Int) (w : World) : Calls Tryd.prog 63 #[insV (pushI v), .string ⟨⟨[73]⟩⟩] w fun e w' => e = .returned (.bool true) ∧ Below w.heap.size w w' := push_calls (pushI v) [73] w

set_option maxRecDepth 100000 in
set_option maxHeartbeats 8000000 in
/-- two Pushes and an addition -/
theorem known_sum (v u : Int) (hv : wrap32 v = v) (hu : wrap32 u = u) (r : List InsR) (a : Option Addr) (cap : Nat) (w : World) (hC : CodeAt w a cap (pushI v :: pushI u :: addI :: r)) :
    Calls Tryd.prog 32 #[.slice a (pushI v :: pushI u :: addI :: r).length cap] w (KnRes (pushI (wrap32 (v + u))) 3 w) := by
  obtain ⟨b, off, rfl, hlt, c0, c1, c2, c3, c4, c5⟩ := hC.cells (k := 0) (x := pushI v) rfl
  obtain ⟨b', off', hb', _, d0, d1, d2, d3, d4, d5⟩ := hC.cells (k := 1) (x := pushI u) rfl
  simp only [Option.some.injEq, Addr.mk.injEq, and_true] at hb'
  obtain ⟨rfl, rfl⟩ := hb'
  obtain ⟨b', off', hb', _, m0, m1, m2, m3, m4, m5⟩ := hC.cells (k := 2) (x := addI) rfl
  simp only [Option.some.injEq, Addr.mk.injEq, and_true] at hb'
  obtain ⟨rfl, rfl⟩ := hb'
  simp only [Nat.zero_mul, Nat.add_zero, Nat.one_mul, Nat.reduceMul] at c0 c1 c2 c3 c4 c5 d0 d1 d2 d3 d4 d5 m0 m1 m2 m3 m4 m5
  clear hC
  rw [List.length_cons, List.length_cons, List.length_cons]
  obtain ⟨n, hn⟩ : ∃ n, n = r.length + 1 + 1 + 1 := ⟨_, rfl⟩
  rw [← hn]
  have q1 : ¬ (n : Int) < 2 := by omega
  have q2 : (0 : Int) < (n : Int) := by omega
  have q3 : (1 : Int) < (n : Int) := by omega
  have q4 : 0 < n := by omega
  have q5 : 1 < n := by omega
  have q6 : (2 : Int) < (n : Int) := by omega
  have q7 : 2 < n := by omega
  have q8 : decide ((n : Int) < 3) = false := by rw [decide_eq_false_iff_not]; omega
  have q9 : decide (n < 3) = false := by rw [decide_eq_false_iff_not]; omega
  clear hn
  have hof := fun w => of_add v u hv hu w
  clear hv hu
  generalize wrap32 (v + u) = s at hof ⊢
  have HOF := Lib.hid hof
  clear hof
  simp only [pushI, addI] at c0 c1 c2 c3 c4 c5 d0 d1 d2 d3 d4 d5 m0 m1 m2 m3 m4 m5
  · skip
    have hS : ∀ W', Below w.heap.size w W' → W'.cell? ⟨b, off, none⟩ = some (.int .i64 2) ∧ W'.cell? ⟨b, off + 1, none⟩ = some (.int .i64 v) ∧ W'.cell? ⟨b, off + 2, none⟩ = some (.int .i64 0) ∧ W'.cell? ⟨b, off + 3, none⟩ = some (.string ⟨⟨[73]⟩⟩) ∧ W'.cell? ⟨b, off + 4, none⟩ = some (.string ⟨⟨[]⟩⟩) ∧ W'.cell? ⟨b, off + 5, none⟩ = some (.string ⟨⟨[]⟩⟩) ∧ W'.cell? ⟨b, off + 6, none⟩ = some (.int .i64 2) ∧ W'.cell? ⟨b, off + 6 + 1, none⟩ = some (.int .i64 u) ∧ W'.cell? ⟨b, off + 6 + 2, none⟩ = some (.int .i64 0) ∧ W'.cell? ⟨b, off + 6 + 3, none⟩ = some (.string ⟨⟨[73]⟩⟩) ∧ W'.cell? ⟨b, off + 6 + 4, none⟩ = some (.string ⟨⟨[]⟩⟩) ∧ W'.cell? ⟨b, off + 6 + 5, none⟩ = some (.string ⟨⟨[]⟩⟩) := fun W' hW => by
      have hz : ∀ o, W'.cell? ⟨b, o, none⟩ = w.cell? ⟨b, o, none⟩ := fun o => hW.cell (p := ⟨b, o, none⟩) hlt
      exact ⟨(hz _).trans c0, (hz _).trans c1, (hz _).trans c2, (hz _).trans c3, (hz _).trans c4, (hz _).trans c5, (hz _).trans d0, (hz _).trans d1, (hz _).trans d2, (hz _).trans d3, (hz _).trans d4, (hz _).trans d5⟩
    have HS := Lib.hid hS
    clear hS
    go_enter Tryd.func32, Tryd.ntmps32
    go_upto_region 3 with fail
    go_cut [0, 2, 4, 5] (fun s0 s2 s4 s5 wx => ∃ p q, s0 = .slice (some ⟨b, off, none⟩) n cap ∧ s2 = .pointer (some ⟨w.heap.size, 0, none⟩) ∧ s4 = .pointer (some ⟨p, 0, none⟩) ∧ s5 = .pointer (some ⟨q, 0, none⟩) ∧ Blk wx w.heap.size 36 (iArr zeroI) ∧ Blk wx p 36 (iArr (pushI v)) ∧ Blk wx q 36 (iArr (pushI u)) ∧ w.heap.size < p ∧ w.heap.size < q ∧ Below w.heap.size w wx)
    case first =>
      have hb0 := (Below.refl w.heap.size w).alloc (Nat.le_refl _) (.cells #[.int .i64 0, .int .i64 0, .int .i64 0, .string ⟨#[]⟩, .string ⟨#[]⟩, .string ⟨#[]⟩] 36)
      go_region_held3 (fun W' => W'.cell? ⟨b, off, none⟩ = some (.int .i64 2) ∧ W'.cell? ⟨b, off + 1, none⟩ = some (.int .i64 v) ∧ W'.cell? ⟨b, off + 2, none⟩ = some (.int .i64 0) ∧ W'.cell? ⟨b, off + 3, none⟩ = some (.string ⟨⟨[73]⟩⟩) ∧ W'.cell? ⟨b, off + 4, none⟩ = some (.string ⟨⟨[]⟩⟩) ∧ W'.cell? ⟨b, off + 5, none⟩ = some (.string ⟨⟨[]⟩⟩) ∧ W'.cell? ⟨b, off + 6, none⟩ = some (.int .i64 2) ∧ W'.cell? ⟨b, off + 6 + 1, none⟩ = some (.int .i64 u) ∧ W'.cell? ⟨b, off + 6 + 2, none⟩ = some (.int .i64 0) ∧ W'.cell? ⟨b, off + 6 + 3, none⟩ = some (.string ⟨⟨[73]⟩⟩) ∧ W'.cell? ⟨b, off + 6 + 4, none⟩ = some (.string ⟨⟨[]⟩⟩) ∧ W'.cell? ⟨b, off + 6 + 5, none⟩ = some (.string ⟨⟨[]⟩⟩))
        (exact HS.out _ (by repeat (first | exact hb0 | exact Below.refl _ _ | refine Below.drew ?_ | refine Below.alloc ?_ (by first | omega | (simp; done) | (simp; omega)) _ | refine Below.setCell ?_ (by first | omega | (simp; done) | (simp; omega)) _)))
        (fail)
      all_goals
        go_wp2_with fail
        go_meet
        refine ⟨_, _, rfl, rfl, rfl, rfl, ?_, ?_, ?_, by omega, by omega, ?_⟩
        · repeat (first | exact blk_new _ _ _ _ rfl | refine Blk.drew ?_ | refine Blk.alloc ?_ _)
        · repeat (first | exact blk_new _ _ _ _ (by simp) | refine Blk.drew ?_ | refine Blk.alloc ?_ _)
        · repeat (first | exact blk_new _ _ _ _ (by simp) | refine Blk.drew ?_ | refine Blk.alloc ?_ _)
        · repeat (first | exact hb0 | exact Below.refl _ _ | refine Below.drew ?_ | refine Below.alloc ?_ (by first | omega | (simp; done) | (simp; omega)) _)
    case rest =>
      obtain ⟨p, q, rfl, rfl, rfl, rfl, hz, hp, hq, hpn, hqn, hb⟩ := hcut
      have hpl := hp.lt
      have hql := hq.lt
      have HZ := Lib.hid hz
      have HB := Lib.hid hb
      have HPB := Lib.hid hp
      have HQB := Lib.hid hq
      obtain ⟨e0, e1, e2, e3, e4, e5⟩ := iblk_cells hp
      obtain ⟨f0, f1, f2, f3, f4, f5⟩ := iblk_cells hq
      simp only [pushI, nopR, addI, giveI] at e0 e1 e2 e3 e4 e5 f0 f1 f2 f3 f4 f5
      clear hz hp hq hb
      have HM := Lib.hid (show ∀ W', Below w.heap.size w W' → W'.cell? ⟨b, off + 12, none⟩ = some (.int .i64 9) ∧ W'.cell? ⟨b, off + 12 + 1, none⟩ = some (.int .i64 1) ∧ W'.cell? ⟨b, off + 12 + 2, none⟩ = some (.int .i64 0) ∧ W'.cell? ⟨b, off + 12 + 3, none⟩ = some (.string ⟨⟨[73]⟩⟩) ∧ W'.cell? ⟨b, off + 12 + 4, none⟩ = some (.string ⟨⟨[]⟩⟩) ∧ W'.cell? ⟨b, off + 12 + 5, none⟩ = some (.string ⟨⟨[]⟩⟩) from fun W' hW => by
        have hz : ∀ o, W'.cell? ⟨b, o, none⟩ = w.cell? ⟨b, o, none⟩ := fun o => hW.cell (p := ⟨b, o, none⟩) hlt
        exact ⟨(hz _).trans m0, (hz _).trans m1, (hz _).trans m2, (hz _).trans m3, (hz _).trans m4, (hz _).trans m5⟩)
      clear HS c0 c1 c2 c3 c4 c5 d0 d1 d2 d3 d4 d5 m0 m1 m2 m3 m4 m5
      have HG := Lib.hid (fun (o : Obj) (d : Nat) (os : Array Obj) => (show Below wc.heap.size wc (grow (redrawn (wc.alloc o) d) os) from (bl_alloc (Below.refl _ _) o).trans ((below_regrown _ d os).mono (by simp))))
      have GP : ∀ (o : Obj) (d : Nat) (os : Array Obj) (j : Nat), (grow (redrawn (wc.alloc o) d) os).cell? ⟨p, j, none⟩ = (iArr (pushI v))[j]? := fun o d os j => (HPB.out.below (HG.out o d os)).cell j
      have GQ : ∀ (o : Obj) (d : Nat) (os : Array Obj) (j : Nat), (grow (redrawn (wc.alloc o) d) os).cell? ⟨q, j, none⟩ = (iArr (pushI u))[j]? := fun o d os j => (HQB.out.below (HG.out o d os)).cell j
      have g0 := fun o d os => GP o d os 0
      have g1 := fun o d os => GP o d os 1
      have g2 := fun o d os => GP o d os 2
      have g3 := fun o d os => GP o d os 3
      have g4 := fun o d os => GP o d os 4
      have g5 := fun o d os => GP o d os 5
      have gq := fun o d os => GQ o d os 0
      have gm0 := fun o d os => (HM.out _ (bl_trans HB.out (HG.out o d os))).1
      have gm1 := fun o d os => (HM.out _ (bl_trans HB.out (HG.out o d os))).2.1
      have gm3 := fun o d os => (HM.out _ (bl_trans HB.out (HG.out o d os))).2.2.2.1
      simp only [iArr, pushI] at g0 g1 g2 g3 g4 g5 gq
      clear GP GQ
      go_upto_region 13 with fail
      refine wp_region_quiet_below (by kernel_rfl) (by kernel_rfl) ?_
      repeat (first | go_big_quiet_step (exact Calls.regrown_of (push_yes v _)) | quiet_step (exact Calls.regrown_of (push_yes v _)))
      refine wpQuiet_nil ?_
      intro _ hw'
      obtain ⟨⟨dq, osq⟩, hw''⟩ := hw'
      have hbw := HG.out (Obj.cells #[.int .i64 2, .int .i64 0, .int .i64 0, .string ⟨⟨[73]⟩⟩, .string ⟨#[]⟩, .string ⟨#[]⟩] 36) dq osq
      clear g0 g1 g2 g3 g4 g5 gq gm0 gm1 gm3 HG e0 e1 e2 e3 e4 e5 f0 f1 f2 f3 f4 f5
      rename_i w4
      have hb4 : Below wc.heap.size wc w4 := by rw [hw'']; exact hbw
      clear hw'' hbw
      obtain ⟨e0, e1, e2, e3, e4, e5⟩ := iblk_cells (HPB.out.below hb4)
      obtain ⟨f0, f1, f2, f3, f4, f5⟩ := iblk_cells (HQB.out.below hb4)
      have HB4 := Lib.hid (bl_trans HB.out hb4)
      obtain ⟨m0, m1, m2, m3, m4, m5⟩ := HM.out _ HB4.out
      have HZ4 := Lib.hid (HZ.out.below hb4)
      have hs4 := hb4.size
      have hp4 := Nat.lt_of_lt_of_le hpl hs4
      have hq4 := Nat.lt_of_lt_of_le hql hs4
      have hb5 := Nat.lt_of_lt_of_le hlt HB4.out.size
      simp only [pushI] at e0 e1 e2 e3 e4 e5 f0 f1 f2 f3 f4 f5
      clear hb4
      go_wp2_with fail
      refine (HOF.out _).mono ?_
      rintro e w5 ⟨rfl, rfl⟩
      go_wp2_with fail
      refine (push_yes u _).mono ?_
      rintro e w6 ⟨rfl, hb6⟩
      have hmb := (blk_new w4 w4.heap.size 36 #[.int .i64 9, .int .i64 1, .int .i64 0, .string ⟨⟨[73]⟩⟩, .string ⟨⟨[]⟩⟩, .string ⟨⟨[]⟩⟩] rfl).below hb6
      have k3 : w6.cell? ⟨w4.heap.size, 3, none⟩ = some (.string ⟨⟨[73]⟩⟩) := hmb.cell 3
      have hml := hmb.lt
      have HZ6 := Lib.hid ((HZ4.out.alloc (.cells #[.int .i64 9, .int .i64 1, .int .i64 0, .string ⟨⟨[73]⟩⟩, .string ⟨⟨[]⟩⟩, .string ⟨⟨[]⟩⟩] 36)).below hb6)
      have HB6 := Lib.hid (bl_trans (bl_alloc HB4.out _) hb6)
      clear hmb hb6 m0 m1 m2 m3 m4 m5 e0 e1 e2 e3 e4 e5 f0 f1 f2 f3 f4 f5
      go_wp2_with (refine wpList_store_blk (x := .tmp 2) (y := .tmp 150) (ty := 36) (g := w.heap.size) (cells := iArr (pushI s)) (by rfl) (by rfl) (by rfl) (by rfl) HZ6.out info_ins rfl (iArr_one _) ?_)
      intro W2 hbk hgr
      obtain ⟨k0, k1, k2, k3, k4, k5⟩ := iblk_cells hbk
      have hbl := below_grown (B := w.heap.size) (w0 := w) HB6.out hgr (Nat.le_refl _) HB6.out.size
      clear hbk hgr
      go_wp2_with fail
      exact bodyPost_ret (v := .tuple #[insV (pushI s), .int .i64 3]) (by simp [results, Tryd.results32, go_sem, k0, k1, k2, k3, k4, k5, insV, pushI]) rfl ⟨rfl, hbl⟩
end Go.Proofs.YtimkingebjhemaaDoor
