/-
  The walks of mtype.Put, Change, Drop and their functions: exact.
-/
import Derived.Test.YtkobgmacoakelaaDoorHand3
import Derived.Test.YtkobgmacoakelaaDoorMtype
namespace Go.Proofs.YtkobgmacoakelaaDoor
set_option linter.unusedVariables false
set_option linter.unusedSimpArgs false
open Go.RowKit Go.Shelf Go.Lib

theorem putR_ty (i : Int) (t : List UInt8) (A : List (List UInt8)) (hA : ∀ x ∈ A, TypeOk x) (h : (putR i t A).1 = 0) : ∀ x ∈ (putR i t A).2, TypeOk x := by
  unfold putR at h ⊢
  split at h
  · exact absurd h (by decide)
  split at h
  · exact absurd h (by decide)
  rename_i h1 h2
  rw [if_neg h1, if_neg h2]
  intro x hx
  rcases List.mem_append.1 hx with hx | hx
  · exact hA x (List.mem_of_mem_take hx)
  rcases List.mem_cons.1 hx with rfl | hx
  · exact Classical.not_not.1 h2
  · exact hA x (List.mem_of_mem_drop hx)
theorem changeR_ty (i : Int) (t : List UInt8) (A : List (List UInt8)) (hA : ∀ x ∈ A, TypeOk x) (h : (changeR i t A).1 = 0) : ∀ x ∈ (changeR i t A).2, TypeOk x := by
  unfold changeR at h ⊢
  split at h
  · exact absurd h (by decide)
  split at h
  · exact absurd h (by decide)
  rename_i h1 h2
  rw [if_neg h1, if_neg h2]
  intro x hx
  rcases List.mem_or_eq_of_mem_set hx with hx | rfl
  · exact hA x hx
  · exact Classical.not_not.1 h2
theorem dropR_ty (i : Int) (A : List (List UInt8)) (hA : ∀ x ∈ A, TypeOk x) (h : (dropR i A).1 = 0) : ∀ x ∈ (dropR i A).2, TypeOk x := by
  unfold dropR at h ⊢
  split at h
  · exact absurd h (by decide)
  rename_i h1
  rw [if_neg h1]
  exact fun x hx => hA x (List.mem_of_mem_eraseIdx hx)

set_option maxRecDepth 100000 in
set_option maxHeartbeats 1000000 in
theorem put1_calls (i : Int) (t : List UInt8) (ht : t.length ≤ 8388608) (c d : Nat) (w : World) (hc : c < w.heap.size) (hd : d < w.heap.size) (h0 : w.cell? ⟨c, 0, none⟩ = some (.int .i64 i)) (h1 : w.cell? ⟨d, 0, none⟩ = some (.string ⟨⟨t⟩⟩))
    (A : List (List UInt8)) (v : Value) (W : World) (hl : A.length ≤ 5) (hb : Below w.heap.size w W) (hown : W.ownsRow w.heap.size 9 1 v A.length (A.map strV)) :
    Calls Tryd.prog 31 #[v, .pointer (some ⟨c, 0, none⟩), .pointer (some ⟨d, 0, none⟩)] W (FRes w (putR i t A)) := by
  obtain ⟨a, cap, rfl, _⟩ := slice_of_own hown
  have c0 : W.cell? ⟨c, 0, none⟩ = some (.int .i64 i) := by rw [hb.cell (p := ⟨c, 0, none⟩) hc]; exact h0
  have c1 : W.cell? ⟨d, 0, none⟩ = some (.string ⟨⟨t⟩⟩) := by rw [hb.cell (p := ⟨d, 0, none⟩) hd]; exact h1
  have hcl := Nat.lt_of_lt_of_le hc hb.size
  have hdl := Nat.lt_of_lt_of_le hd hb.size
  have HB := Lib.hid hb
  have HO := Lib.hid hown
  clear hb hown h0 h1
  by_cases hi : i < 0 ∨ (A.length : Int) < i
  · have HR := Lib.hid (show putR i t A = (2, []) by unfold putR; rw [if_pos hi])
    rcases hi with hi | hi
    · go_enter Tryd.func31, Tryd.ntmps31
      go_wp2_with fail
      go_ret2
      exact ⟨HB.out, Or.inl ⟨by rw [HR.out]; decide, by rw [HR.out]; exact ⟨_, rfl⟩⟩⟩
    · by_cases h0 : i < 0
      · exfalso; omega
      go_enter Tryd.func31, Tryd.ntmps31
      go_wp2_with fail
      go_ret2
      exact ⟨HB.out, Or.inl ⟨by rw [HR.out]; decide, by rw [HR.out]; exact ⟨_, rfl⟩⟩⟩
  · obtain ⟨k, rfl⟩ : ∃ k : Nat, i = k := ⟨i.toNat, by omega⟩
    have hk : k ≤ A.length := by omega
    have hk1 : ¬ (k : Int) < 0 := by omega
    have hk2 : ¬ (A.length : Int) < (k : Int) := by omega
    have HI := Lib.hid hi
    clear hi
    by_cases hT : TypeOk t
    · have HCK := Lib.hid (fun w => check_ok t hT w)
      have HR := Lib.hid (show putR k t A = (0, putL A k t) by unfold putR; rw [if_neg HI.out, if_neg (not_not_intro hT)]; rfl)
      clear hT
      go_enter Tryd.func31, Tryd.ntmps31
      go_wp2_with fail
      refine (HCK.out _).mono ?_
      rintro e w1 ⟨rfl, hb1⟩
      have HO1 := Lib.hid (own_below HO.out hb1)
      have d0 : w1.cell? ⟨c, 0, none⟩ = some (.int .i64 k) := by rw [hb1.cell (p := ⟨c, 0, none⟩) hcl]; exact c0
      have d1 : w1.cell? ⟨d, 0, none⟩ = some (.string ⟨⟨t⟩⟩) := by rw [hb1.cell (p := ⟨d, 0, none⟩) hdl]; exact c1
      have hcl1 := Nat.lt_of_lt_of_le hcl hb1.size
      have hdl1 := Nat.lt_of_lt_of_le hdl hb1.size
      have HB1 := Lib.hid (bl_trans HB.out hb1)
      have HIN := Lib.hid (insert_own A (.slice a A.length cap) k t w1.heap.size (w1.alloc (.cells #[strV t] 9)) w.heap.size hk (by omega) (HO1.out.alloc _) (blk_new _ _ _ _ rfl) (fun e => by have := (HO1.out.lt _ e).2; omega) (by have := HB1.out.size; simp; omega))
      clear hb1 c0 c1
      go_wp2_with fail
      refine HIN.out.mono ?_
      rintro e w2 ⟨a2, cap2, rfl, hr2, hb2⟩
      go_wp2_with fail
      go_ret2
      refine ⟨(bl_alloc HB1.out _).trans hb2, Or.inr ⟨by rw [HR.out], a2, cap2, ?_, by rw [HR.out]; exact hr2⟩⟩
      rw [HR.out]
      simp only [putL_len]
      rfl
    · have HCK := Lib.hid (fun w => check_bad t hT (by omega) w)
      have HR := Lib.hid (show putR k t A = (1, []) by unfold putR; rw [if_neg HI.out, if_pos hT])
      clear hT
      go_enter Tryd.func31, Tryd.ntmps31
      go_wp2_with fail
      refine (HCK.out _).mono ?_
      rintro e w1 ⟨rfl, hb1⟩
      go_wp2_with fail
      go_ret2
      exact ⟨bl_trans HB.out hb1, Or.inl ⟨by rw [HR.out]; decide, by rw [HR.out]; exact ⟨_, rfl⟩⟩⟩

set_option maxRecDepth 100000 in
set_option maxHeartbeats 1000000 in
theorem put_calls (m : List UInt8) (hm : m.length ≤ 8388608) (i : Int) (t : List UInt8) (ht : t.length ≤ 8388608) (w : World) :
    Calls Tryd.prog 14 #[.string ⟨⟨m⟩⟩, .int .i64 i, .string ⟨⟨t⟩⟩] w (Exact w (putF m i t)) := by
  obtain ⟨w1, hw1⟩ : ∃ w1, w1 = (w.alloc (.cells #[.int .i64 i] 3)).alloc (.cells #[.string ⟨⟨t⟩⟩] 9) := ⟨_, rfl⟩
  have hb1 : Below w.heap.size w w1 := by rw [hw1]; exact bl_alloc (bl_alloc (Below.refl _ _) _) _
  have hs1 : w1.heap.size = w.heap.size + 1 + 1 := by rw [hw1]; simp
  have c0 : w1.cell? ⟨w.heap.size, 0, none⟩ = some (.int .i64 i) := by rw [hw1]; simp
  have c1 : w1.cell? ⟨w.heap.size + 1, 0, none⟩ = some (.string ⟨⟨t⟩⟩) := by rw [hw1]; simp
  have hch := ch_put m hm #[.pointer (some ⟨w.heap.size, 0, none⟩), .pointer (some ⟨w.heap.size + 1, 0, none⟩)] w1 (putR i t) (putR_ty i t) (fun A v W hA hl hb ho => put1_calls i t ht w.heap.size (w.heap.size + 1) w1 (by omega) (by omega) c0 c1 A v W hl hb ho)
  have HC := Lib.hid hch
  have HB1 := Lib.hid hb1
  have hmf : ∀ (fn : Fn) (first cap : Array Value) (w : World), (Instr.makeFunc fn first cap).run Tryd.prog w = .ok (.func fn first cap) w := fun _ _ _ _ => rfl
  clear hch hb1 hs1 c0 c1
  go_enter Tryd.func14, Tryd.ntmps14
  go_wp2_with fail
  rw [← hw1]
  refine HC.out.mono ?_
  rintro e w2 ⟨rfl, hb2⟩
  have HB2 := Lib.hid (bl_trans HB1.out hb2)
  clear hb2
  go_wp2_with fail
  go_ret2
  exact ⟨rfl, HB2.out⟩

set_option maxRecDepth 100000 in
set_option maxHeartbeats 1000000 in
theorem change1_calls (i : Int) (t : List UInt8) (ht : t.length ≤ 8388608) (c d : Nat) (w : World) (hc : c < w.heap.size) (hd : d < w.heap.size) (h0 : w.cell? ⟨c, 0, none⟩ = some (.int .i64 i)) (h1 : w.cell? ⟨d, 0, none⟩ = some (.string ⟨⟨t⟩⟩))
    (A : List (List UInt8)) (v : Value) (W : World) (hl : A.length ≤ 5) (hb : Below w.heap.size w W) (hown : W.ownsRow w.heap.size 9 1 v A.length (A.map strV)) :
    Calls Tryd.prog 38 #[v, .pointer (some ⟨c, 0, none⟩), .pointer (some ⟨d, 0, none⟩)] W (FRes w (changeR i t A)) := by
  have c0 : W.cell? ⟨c, 0, none⟩ = some (.int .i64 i) := by rw [hb.cell (p := ⟨c, 0, none⟩) hc]; exact h0
  have c1 : W.cell? ⟨d, 0, none⟩ = some (.string ⟨⟨t⟩⟩) := by rw [hb.cell (p := ⟨d, 0, none⟩) hd]; exact h1
  have hcl := Nat.lt_of_lt_of_le hc hb.size
  have hdl := Nat.lt_of_lt_of_le hd hb.size
  have HB := Lib.hid hb
  clear h0 h1
  by_cases hi : i < 0 ∨ (A.length : Int) ≤ i
  · obtain ⟨a, cap, rfl, _⟩ := slice_of_own hown
    clear hb hown
    have HR := Lib.hid (show changeR i t A = (2, []) by unfold changeR; rw [if_pos hi])
    rcases hi with hi | hi
    · go_enter Tryd.func38, Tryd.ntmps38
      go_wp2_with fail
      go_ret2
      exact ⟨HB.out, Or.inl ⟨by rw [HR.out]; decide, by rw [HR.out]; exact ⟨_, rfl⟩⟩⟩
    · by_cases h0 : i < 0
      · exfalso; omega
      go_enter Tryd.func38, Tryd.ntmps38
      go_wp2_with fail
      go_ret2
      exact ⟨HB.out, Or.inl ⟨by rw [HR.out]; decide, by rw [HR.out]; exact ⟨_, rfl⟩⟩⟩
  · obtain ⟨k, rfl⟩ : ∃ k : Nat, i = k := ⟨i.toNat, by omega⟩
    have hk : k < A.length := by omega
    have hk1 : ¬ (k : Int) < 0 := by omega
    have hk2 : ¬ (A.length : Int) ≤ (k : Int) := by omega
    have hk3 : (k : Int) < (A.length : Int) := by omega
    have HI := Lib.hid hi
    clear hi
    obtain ⟨g, cap, rfl⟩ : ∃ g cap, v = .slice (some ⟨g, 0, none⟩) A.length cap := by
      rcases hown.2 with ⟨rfl, h0⟩ | ⟨g, cap, cur, h, _⟩
      · omega
      · exact ⟨g, cap, h⟩
    obtain ⟨hgB, hgl⟩ := hown.lt g rfl
    have hcg := hown.cellAt k (by omega)
    have hcg' : W.cell? ⟨g, k, none⟩ = some (strV A[k]) := by rw [hcg, List.getElem?_map, List.getElem?_eq_getElem hk]; rfl
    have hfg := hown.frozenAt k
    have hst := (hown.stored k (strV t)).1
    have hset : (A.map strV).set k (strV t) = (A.set k t).map strV := by rw [List.map_set]
    rw [hset] at hst
    have hst2 : (W.setCell ⟨g, k, none⟩ (strV t)).ownsRow w.heap.size 9 1 (.slice (some ⟨g, 0, none⟩) A.length cap) (A.set k t).length ((A.set k t).map strV) := by rw [List.length_set]; exact hst
    have HST := Lib.hid hst2
    have HBS := Lib.hid (hb.setCell (p := ⟨g, k, none⟩) hgB (strV t))
    have hne1 : c ≠ g := by omega
    have hne2 : d ≠ g := by omega
    clear hown hb hcg hst hst2 hset
    by_cases hT : TypeOk t
    · have HCK := Lib.hid (fun w => check_ok t hT w)
      have HR := Lib.hid (show changeR k t A = (0, A.set k t) by unfold changeR; rw [if_neg HI.out, if_neg (not_not_intro hT)]; rfl)
      clear hT
      go_enter Tryd.func38, Tryd.ntmps38
      go_wp2_with fail
      refine (HCK.out _).mono ?_
      rintro e w1 ⟨rfl, hb1⟩
      obtain ⟨a1, cap1, h1, hr1⟩ := srow_of_own (own_below HST.out hb1)
      have HB1 := Lib.hid (bl_trans HBS.out hb1)
      clear hb1
      go_wp2_with fail
      go_ret2
      refine ⟨HB1.out, Or.inr ⟨by rw [HR.out], a1, cap1, ?_, by rw [HR.out]; exact hr1⟩⟩
      rw [HR.out]
      show _ = Ending.returned (.tuple #[.slice a1 (A.set k t).length cap1, .nilIface])
      rw [List.length_set]
      rfl
    · have HCK := Lib.hid (fun w => check_bad t hT (by omega) w)
      have HR := Lib.hid (show changeR k t A = (1, []) by unfold changeR; rw [if_neg HI.out, if_pos hT])
      clear hT
      go_enter Tryd.func38, Tryd.ntmps38
      go_wp2_with fail
      refine (HCK.out _).mono ?_
      rintro e w1 ⟨rfl, hb1⟩
      go_wp2_with fail
      go_ret2
      exact ⟨bl_trans HBS.out hb1, Or.inl ⟨by rw [HR.out]; decide, by rw [HR.out]; exact ⟨_, rfl⟩⟩⟩

set_option maxRecDepth 100000 in
set_option maxHeartbeats 1000000 in
theorem change_calls (m : List UInt8) (hm : m.length ≤ 8388608) (i : Int) (t : List UInt8) (ht : t.length ≤ 8388608) (w : World) :
    Calls Tryd.prog 18 #[.string ⟨⟨m⟩⟩, .int .i64 i, .string ⟨⟨t⟩⟩] w (Exact w (changeF m i t)) := by
  obtain ⟨w1, hw1⟩ : ∃ w1, w1 = (w.alloc (.cells #[.int .i64 i] 3)).alloc (.cells #[.string ⟨⟨t⟩⟩] 9) := ⟨_, rfl⟩
  have hb1 : Below w.heap.size w w1 := by rw [hw1]; exact bl_alloc (bl_alloc (Below.refl _ _) _) _
  have hs1 : w1.heap.size = w.heap.size + 1 + 1 := by rw [hw1]; simp
  have c0 : w1.cell? ⟨w.heap.size, 0, none⟩ = some (.int .i64 i) := by rw [hw1]; simp
  have c1 : w1.cell? ⟨w.heap.size + 1, 0, none⟩ = some (.string ⟨⟨t⟩⟩) := by rw [hw1]; simp
  have hch := ch_change m hm #[.pointer (some ⟨w.heap.size, 0, none⟩), .pointer (some ⟨w.heap.size + 1, 0, none⟩)] w1 (changeR i t) (changeR_ty i t) (fun A v W hA hl hb ho => change1_calls i t ht w.heap.size (w.heap.size + 1) w1 (by omega) (by omega) c0 c1 A v W hl hb ho)
  have HC := Lib.hid hch
  have HB1 := Lib.hid hb1
  have hmf : ∀ (fn : Fn) (first cap : Array Value) (w : World), (Instr.makeFunc fn first cap).run Tryd.prog w = .ok (.func fn first cap) w := fun _ _ _ _ => rfl
  clear hch hb1 hs1 c0 c1
  go_enter Tryd.func18, Tryd.ntmps18
  go_wp2_with fail
  rw [← hw1]
  refine HC.out.mono ?_
  rintro e w2 ⟨rfl, hb2⟩
  have HB2 := Lib.hid (bl_trans HB1.out hb2)
  clear hb2
  go_wp2_with fail
  go_ret2
  exact ⟨rfl, HB2.out⟩

theorem drop1_calls (i : Int) (c : Nat) (w : World) (hc : c < w.heap.size) (h0 : w.cell? ⟨c, 0, none⟩ = some (.int .i64 i))
    (A : List (List UInt8)) (v : Value) (W : World) (hl : A.length ≤ 5) (hb : Below w.heap.size w W) (hown : W.ownsRow w.heap.size 9 1 v A.length (A.map strV)) :
    Calls Tryd.prog 36 #[v, .pointer (some ⟨c, 0, none⟩)] W (FRes w (dropR i A)) := by
  have c0 : W.cell? ⟨c, 0, none⟩ = some (.int .i64 i) := by rw [hb.cell (p := ⟨c, 0, none⟩) hc]; exact h0
  by_cases hi : i < 0 ∨ (A.length : Int) ≤ i
  · obtain ⟨a, cap, rfl, _⟩ := slice_of_own hown
    have hR : dropR i A = (2, []) := by unfold dropR; rw [if_pos hi]
    refine (drop_bad A.length cap a i W c c0 hi).mono ?_
    rintro e w' ⟨rfl, rfl⟩
    exact ⟨hb, Or.inl ⟨by rw [hR]; decide, by rw [hR]; exact ⟨_, rfl⟩⟩⟩
  · obtain ⟨k, rfl⟩ : ∃ k : Nat, i = k := ⟨i.toNat, by omega⟩
    have hk : k < A.length := by omega
    have hR : dropR k A = (0, A.eraseIdx k) := by unfold dropR; rw [if_neg hi]; rfl
    refine (drop_good A v k W w.heap.size c hk hl c0 hown).mono ?_
    rintro e w' ⟨a, cap, rfl, hb2, hr⟩
    refine ⟨hb.trans hb2, Or.inr ⟨by rw [hR], a, cap, ?_, by rw [hR]; exact hr⟩⟩
    rw [hR]
    simp only [List.length_eraseIdx]
    rw [if_pos hk]

set_option maxRecDepth 100000 in
set_option maxHeartbeats 1000000 in
theorem drop_exact (m : List UInt8) (hm : m.length ≤ 8388608) (i : Int) (w : World) :
    Calls Tryd.prog 17 #[.string ⟨⟨m⟩⟩, .int .i64 i] w (Exact w (dropF m i)) := by
  obtain ⟨w1, hw1⟩ : ∃ w1, w1 = w.alloc (.cells #[.int .i64 i] 3) := ⟨_, rfl⟩
  have hb1 : Below w.heap.size w w1 := by rw [hw1]; exact bl_alloc (Below.refl _ _) _
  have hs1 : w1.heap.size = w.heap.size + 1 := by rw [hw1]; simp
  have c0 : w1.cell? ⟨w.heap.size, 0, none⟩ = some (.int .i64 i) := by rw [hw1]; simp
  have hch := ch_drop m hm #[.pointer (some ⟨w.heap.size, 0, none⟩)] w1 (dropR i) (dropR_ty i) (fun A v W hA hl hb ho => drop1_calls i w.heap.size w1 (by omega) c0 A v W hl hb ho)
  have HC := Lib.hid hch
  have HB1 := Lib.hid hb1
  have hmf : ∀ (fn : Fn) (first cap : Array Value) (w : World), (Instr.makeFunc fn first cap).run Tryd.prog w = .ok (.func fn first cap) w := fun _ _ _ _ => rfl
  clear hch hb1 hs1 c0
  go_enter Tryd.func17, Tryd.ntmps17
  go_wp2_with fail
  rw [← hw1]
  refine HC.out.mono ?_
  rintro e w2 ⟨rfl, hb2⟩
  have HB2 := Lib.hid (bl_trans HB1.out hb2)
  clear hb2
  go_wp2_with fail
  go_ret2
  exact ⟨rfl, HB2.out⟩
end Go.Proofs.YtkobgmacoakelaaDoor
