/-
  The walk of heap.More at an array.
-/
import Derived.Test.YtanjggdmgeedlaaGreatDoorHeap7
namespace Go.Proofs.YtanjggdmgeedlaaGreatDoor
set_option linter.unusedVariables false
set_option linter.unusedSimpArgs false
open Go.RowKit Go.Shelf Go.Lib

theorem valsL_get : ∀ {l : List ValR} {i : Nat} {v : ValR}, l[i]? = some v → (valsL l)[i * 2]? = some (.int .i64 v.kind) ∧ (valsL l)[i * 2 + 1]? = some (.int .i64 v.n)
  | [], i, v, h => by simp at h
  | x :: l, 0, v, h => by
    simp only [List.getElem?_cons_zero, Option.some.injEq] at h
    subst h
    exact ⟨rfl, rfl⟩
  | x :: l, i + 1, v, h => by
    have ih := valsL_get (l := l) (i := i) (v := v) (by simpa using h)
    have e1 : (i + 1) * 2 = i * 2 + 1 + 1 := by omega
    unfold valsL at ih ⊢
    rw [e1]
    simp only [List.map_cons, List.flatten_cons, vCells, List.cons_append, List.nil_append, List.getElem?_cons_succ]
    exact ih
theorem valsL_set : ∀ (l : List ValR) (i : Nat) (v : ValR), i < l.length → (((valsL l).set (i * 2) (.int .i64 v.kind)).set (i * 2 + 1) (.int .i64 v.n)) = valsL (l.set i v)
  | [], i, v, h => by simp at h
  | x :: l, 0, v, _ => rfl
  | x :: l, i + 1, v, h => by
    have ih := valsL_set l i v (by simpa using h)
    have e1 : (i + 1) * 2 = i * 2 + 1 + 1 := by omega
    unfold valsL at ih ⊢
    rw [e1]
    simp only [List.map_cons, List.flatten_cons, vCells, List.cons_append, List.nil_append, List.set_cons_succ]
    rw [ih]
def fillV (z : ValR) (n j : Nat) : List ValR := List.replicate j z ++ List.replicate (n - j) ⟨0, 0⟩
theorem fill_len {z : ValR} {n j : Nat} (h : j ≤ n) : (fillV z n j).length = n := by unfold fillV; simp; omega
theorem fill_at {z : ValR} {n j : Nat} (h : j < n) : (fillV z n j)[j]? = some ⟨0, 0⟩ := by
  unfold fillV
  rw [List.getElem?_append_right (by simp), List.length_replicate, Nat.sub_self, List.getElem?_replicate_of_lt (by omega)]
theorem fill_set {z : ValR} {n j : Nat} (h : j < n) : (fillV z n j).set j z = fillV z n (j + 1) := by
  unfold fillV
  obtain ⟨m, hm⟩ : ∃ m, n - j = m + 1 := ⟨n - j - 1, by omega⟩
  rw [hm, show n - (j + 1) = m by omega, List.set_append_right _ _ (by simp), List.length_replicate, Nat.sub_self, List.replicate_succ, List.set_cons_zero, List.replicate_succ']
  simp
theorem fill_all (z : ValR) (n : Nat) : fillV z n n = List.replicate n z := by unfold fillV; simp

theorem valsL_int {l : List ValR} {u : Value} (h : u ∈ valsL l) : ∃ i, u = .int .i64 i := by
  unfold valsL at h
  obtain ⟨c, hc, hu⟩ := List.mem_flatten.1 h
  obtain ⟨v, _, rfl⟩ := List.mem_map.1 hc
  simp only [vCells, List.mem_cons, List.mem_nil_iff, or_false] at hu
  rcases hu with rfl | rfl <;> exact ⟨_, rfl⟩
theorem own_noblk {w : World} {B : Nat} {e : TypeId} {size : Nat} {v : Value} {n : Nat} {xs : List Value} (h : w.ownsRow B e size v n xs) {g : Nat} {T : TypeId} {cs : Array Value} (hb : Blk w g T cs) (hne : T ≠ e) : v.ownBlock ≠ some g := by
  intro hg
  rcases h.2 with ⟨rfl, _⟩ | ⟨k, _, _, rfl, _, hk, _⟩
  · cases hg
  · simp only [Value.ownBlock, Option.some.injEq] at hg
    subst hg
    unfold Blk at hb
    rw [hk] at hb
    simp only [Option.some.injEq, Obj.cells.injEq] at hb
    exact hne hb.2.1.symm
theorem OwnT.put {w : World} {B : Nat} {v : Value} {X : List ThingR} {qs : List HA} (h : OwnT w B v X qs) {g j : Nat} {T : TypeId} {cs : Array Value} (hb : Blk w g T cs) (h1 : T ≠ 33) (h2 : T ≠ 37) (u : Value) : OwnT (w.setCell ⟨g, j, none⟩ u) B v X qs :=
  ⟨h.len, own_set h.row (own_noblk h.row hb h1) u, fun k x q hx hp => own_set (h.has k x q hx hp) (own_noblk (h.has k x q hx hp) hb h2) u⟩
def MoreRes (X : List ThingR) (y : ThingR) (qs : List HA) (B : Nat) (w0 : World) (e : Ending) (w' : World) : Prop :=
  Below B w0 w' ∧ ((50 ≤ X.length ∧ e = .returned (.tuple #[.agg #[.slice none 0 0], .int .i64 0, errV 4])) ∨
    (X.length < 50 ∧ ∃ v q, e = .returned (.tuple #[.agg #[v], .int .i64 ((X.length : Int) + 1), .nilIface]) ∧ OwnT w' B v (X ++ [y]) (qs ++ [q])))

set_option maxRecDepth 100000 in
set_option maxHeartbeats 8000000 in
theorem more_full (X : List ThingR) (qs : List HA) (A : Option Addr) (C : Nat) (b : Nat) (tv : Value) (sv : Value) (B : Nat) (w0 w : World) (hb : Below B w0 w) (hB : B ≤ w.heap.size) (h50 : 50 ≤ X.length) (y : ThingR) :
    Calls Tryz.prog 29 #[.map (some b), .agg #[.slice A X.length C], .agg #[tv, sv]] w (MoreRes X y qs B w0) := by
  have HB := Lib.hid (fun o1 o2 o3 => ((hb.alloc hB o1).alloc (by simp; omega) o2).alloc (by simp; omega) o3)
  have q1 : (50 : Int) ≤ (X.length : Int) := by omega
  have H50 := Lib.hid h50
  clear hb h50
  go_enter Tryz.func29, Tryz.ntmps29
  go_wp2_with fail
  exact bodyPost_ret (v := .tuple #[.agg #[.slice none 0 0], .int .i64 0, errV 4]) (by simp [results, Tryz.results29, go_sem]) rfl ⟨HB.out _ _ _, Or.inl ⟨H50.out, rfl⟩⟩

set_option maxRecDepth 100000 in
set_option maxHeartbeats 8000000 in
theorem more_arr (L : List ClassR) (X : List ThingR) (qs : List HA) (A : Option Addr) (C : Nat) (b : Nat) (r : Nm) (g n : Nat) (B : Nat) (w0 w : World) (hb : Below B w0 w) (hB : B ≤ w.heap.size) (h50 : X.length < 50) (hT : OwnT w B (.slice A X.length C) X qs) (hn : n ≤ 10) (hr : DT r)
    (hg : Blk w g 37 (valsL (List.replicate n ⟨0, 0⟩)).toArray) (hBg : B ≤ g) (hv : (Value.slice A X.length C).ownBlock ≠ some g) (hq : ∀ (k : Nat) (x : ThingR) (q : HA), X[k]? = some x → qs[k]? = some q → (Value.slice q.1 x.has.length q.2).ownBlock ≠ some g) :
    Calls Tryz.prog 29 #[.map (some b), .agg #[.slice A X.length C], .agg #[.string ⟨⟨91 :: r⟩⟩, .slice (some ⟨g, 0, none⟩) n n]] w (MoreRes X ⟨91 :: r, List.replicate n (zeroV r)⟩ qs B w0) := by
  obtain ⟨W0, hW0⟩ : ∃ W0 : World, W0 = ((w.alloc (.cells #[.slice A X.length C] 25)).alloc (.cells #[.string ⟨⟨91 :: r⟩⟩, .slice (some ⟨g, 0, none⟩) n n] 33)).alloc (.cells #[.slice none 0 0] 25) := ⟨_, rfl⟩
  have hbw : Below w.heap.size w W0 := by subst hW0; exact bl_alloc (bl_alloc (bl_alloc (Below.refl _ _) _) _) _
  have HBW := Lib.hid hbw
  have hd1 : Blk W0 w.heap.size 25 #[.slice A X.length C] := by
    subst hW0
    exact ((blk_new _ _ _ _ (by simp)).alloc _).alloc _
  have hd2 : Blk W0 (w.heap.size + 1) 33 #[.string ⟨⟨91 :: r⟩⟩, .slice (some ⟨g, 0, none⟩) n n] := by
    subst hW0
    exact (blk_new _ _ _ _ (by simp)).alloc _
  have hd3 : Blk W0 (w.heap.size + 1 + 1) 25 #[.slice none 0 0] := by
    subst hW0
    exact blk_new _ _ _ _ (by simp)
  have hs0 : W0.heap.size = w.heap.size + 1 + 1 + 1 := by subst hW0; simp
  have HB0 := Lib.hid hb
  have HT0 := Lib.hid (hT.below hbw)
  have HG0 := Lib.hid (hg.below hbw)
  have HD1 := Lib.hid hd1
  have HD2 := Lib.hid hd2
  have HD3 := Lib.hid hd3
  have hgl : g < w.heap.size := hg.lt
  have HVL := Lib.hid (fun k (e : (Value.slice A X.length C).ownBlock = some k) => (hT.row.lt k e).2)
  have HVG := Lib.hid hv
  have HQG := Lib.hid hq
  have HTY := Lib.hid (fun W => show Calls Tryz.prog 57 #[.map (some b), .agg #[.string ⟨⟨91 :: r⟩⟩, .slice (some ⟨g, 0, none⟩) n n]] W (TysRes (List.replicate n r) W) from by
    have h1 := htypes_A L b ⟨91 :: r, List.replicate n ⟨0, 0⟩⟩ (some ⟨g, 0, none⟩, n) r W ⟨rfl, by simpa using hn, hr⟩
    rw [typesH_A (L := L) (x := ⟨91 :: r, List.replicate n ⟨0, 0⟩⟩) (r := r) ⟨rfl, by simpa using hn, hr⟩] at h1
    simpa using h1)
  have HZ := Lib.hid (fun W => zero_calls r W)
  have q1 : ¬ (50 : Int) ≤ (X.length : Int) := by omega
  clear hb hT hg hv hq hd1 hd2 hd3 hbw hr
  go_enter Tryz.func29, Tryz.ntmps29
  go_wp2_with fail
  rw [← hW0]
  clear hW0
  have e0 := HD1.out.cell 0
  have e1 := HD2.out.cell 0
  have e2 := HD2.out.cell 1
  have e3 := HD1.out.lt
  have e4 := HD2.out.lt
  go_wp2_with fail
  refine (HTY.out _).mono ?_
  rintro e wa ⟨hba, a4, c4, rfl, hr4⟩
  have HR4 := Lib.hid hr4
  have HBA := Lib.hid hba
  have HG1 := Lib.hid (HG0.out.below hba)
  have HD1a := Lib.hid (HD1.out.below hba)
  have HD2a := Lib.hid (HD2.out.below hba)
  have HD3a := Lib.hid (HD3.out.below hba)
  have HTa := Lib.hid (HT0.out.below hba)
  have hsa : W0.heap.size ≤ wa.heap.size := hba.size
  obtain ⟨z, hz⟩ : ∃ z, z = zeroV r := ⟨_, rfl⟩
  rw [← hz] at HZ
  have HZE := Lib.hid hz
  have hrl : (List.replicate n r).length = n := List.length_replicate
  rw [hrl]
  clear hba hr4 e0 e1 e2 e3 e4 hz
  go_wp2_with fail
  go_loopw [21] (fun i wr => ∃ j : Nat, j ≤ n ∧ i = .int .i64 j ∧ wa.grownBy wr (some g) ∧ Hid (Blk wr g 37 (valsL (fillV z n j)).toArray)) (fun i _ => n - (RowKit.intOf i).toNat)
  case atStart => exact ⟨0, by omega, rfl, gb_refl _ _, Lib.hid (by unfold fillV; simpa using HG1.out)⟩
  case round =>
    obtain ⟨j, hj, rfl, hgr, HBG⟩ := hrel
    by_cases hlj : j < n
    · obtain ⟨b5, off5, ha5, hl5, t0⟩ : ∃ b off, a4 = some ⟨b, off, none⟩ ∧ b < wr.heap.size ∧ wr.cell? ⟨b, off + j, none⟩ = some (.string ⟨⟨r⟩⟩) := by
        rcases HR4.out.2 with h | ⟨b5, off5, h5, hlt, hc⟩
        · have : (List.replicate n r).length = 0 := by rw [h]; rfl
          rw [List.length_replicate] at this
          omega
        · have hcj := hc j r (List.getElem?_replicate_of_lt hlj)
          have hne : b5 ≠ g := by
            intro e
            rw [e, HG1.out.cell, List.getElem?_toArray] at hcj
            obtain ⟨i, hi⟩ := valsL_int (List.mem_of_getElem? hcj)
            cases hi
          exact ⟨b5, off5, h5, Nat.lt_of_lt_of_le hlt hgr.size, (gb_cell hgr (a := ⟨b5, off5 + j, none⟩) hlt hne).trans hcj⟩
      rw [ha5]
      have hg2 := gb_blk hgr HD2a.out (by omega)
      have HK := Lib.hid hg2
      have HGR := Lib.hid hgr
      have HS := Lib.hid (fun W' (hW' : Blk W' (w.heap.size + 1) 33 #[.string ⟨⟨91 :: r⟩⟩, .slice (some ⟨g, 0, none⟩) n n]) => (show W'.cell? ⟨w.heap.size + 1, 1, none⟩ = some (.slice (some ⟨g, 0, none⟩) n n) from hW'.cell 1))
      have hj0 : (0 : Int) ≤ (j : Int) := Int.natCast_nonneg _
      have hji : (j : Int) < (n : Int) := by omega
      have hKg : w.heap.size + 1 ≠ g := by omega
      obtain ⟨v0, v1⟩ := valsL_get (fill_at (z := z) hlj)
      have HV0 := Lib.hid v0
      have HV1 := Lib.hid v1
      clear hgr hg2 ha5 v0 v1
      go_upto_region 6 with fail
      go_region_held3 (fun W' => W'.cell? ⟨w.heap.size + 1, 1, none⟩ = some (.slice (some ⟨g, 0, none⟩) n n))
        (first | (exact HS.out _ (by first | exact HK.out | exact HK.out.drew | exact hk5 | exact blk_ne (blk_ne hk5 hKg _) hKg _ | exact blk_ne hk5 hKg _)))
        ((go_at_call 58
          refine (HZ.out _).mono ?_
          rintro e w5 ⟨rfl, hb5⟩
          have hb45 := bl_trans (Below.refl wr.heap.size wr).drew hb5
          have hg5 := gb_below HGR.out hb45
          have hk5 := HK.out.below hb45
          have hbg5 := HBG.out.below hb45
          have x0 : w5.cell? ⟨g, j * 2, none⟩ = some (.int .i64 0) := by rw [hbg5.cell, List.getElem?_toArray]; exact HV0.out
          have x1 : w5.cell? ⟨g, j * 2 + 1, none⟩ = some (.int .i64 0) := by rw [hbg5.cell, List.getElem?_toArray]; exact HV1.out
          have x2 := hbg5.frozen (j * 2)
          have x3 := hbg5.frozen (j * 2 + 1)
          have x4 := hbg5.lt))
      all_goals
        have hg7 := gb_set (gb_set hg5 (j * 2) (.int .i64 z.kind)) (j * 2 + 1) (.int .i64 z.n)
        have hb7 := blk_set (blk_set hbg5 (j * 2) (.int .i64 z.kind)) (j * 2 + 1) (.int .i64 z.n)
        rw [List.setIfInBounds_toArray, List.setIfInBounds_toArray, valsL_set _ _ _ (by rw [fill_len (by omega)]; omega), fill_set hlj] at hb7
        have HG7 := Lib.hid hg7
        have HB7 := Lib.hid hb7
        clear hg7 hb7 hg5 hk5 hbg5 x0 x1 x2 x3 x4 hb45
        generalize (w5.setCell ⟨g, j * 2, none⟩ (.int .i64 z.kind)).setCell ⟨g, j * 2 + 1, none⟩ (.int .i64 z.n) = w7 at *
        go_wp2_with fail
        go_roundw
        case rel => exact ⟨j + 1, by omega, by go_num, HG7.out, HB7⟩
        case measure => simp [RowKit.intOf]; omega
    · obtain rfl : j = n := by omega
      have hbg := HBG.out
      rw [fill_all] at hbg
      have hd1 := gb_blk hgr HD1a.out (by omega)
      have hd2 := gb_blk hgr HD2a.out (by omega)
      have hd3 := gb_blk hgr HD3a.out (by omega)
      have hot : OwnT wr B (.slice A X.length C) X qs := ⟨HTa.out.len, HTa.out.row.kept (row := some g) hgr (Or.inr HVG.out), fun k x q hx hp => (HTa.out.has k x q hx hp).kept (row := some g) hgr (Or.inr (HQG.out k x q hx hp))⟩
      have hnew : OwnV wr B (List.replicate j z) (some ⟨g, 0, none⟩, j) := by
        refine ⟨valsL_len _, Or.inr ⟨g, j, _, by rw [List.length_replicate], hBg, hbg, by rw [List.length_replicate]; exact Nat.le_refl _, by unfold maxLen; omega, ?_, ?_⟩⟩
        · rw [List.size_toArray, valsL_len, List.length_replicate]
        · rw [List.toList_toArray]
          exact List.take_of_length_le (by rw [valsL_len]; exact Nat.le_refl _)
      have HD1r := Lib.hid hd1
      have HD2r := Lib.hid hd2
      have HD3r := Lib.hid hd3
      have HOT := Lib.hid hot
      have HNW := Lib.hid hnew
      have hBW : Below B w0 wr := by
        have h1 : Below B w0 wa := (HB0.out.trans (HBW.out.mono hB)).trans (HBA.out.mono (by omega))
        exact h1.trans ⟨hgr.os, hgr.tape, hgr.output, hgr.size, fun k hk => hgr.block k (by omega) (fun e => by simp at e; omega)⟩
      have HBWR := Lib.hid hBW
      have hswr : w.heap.size + 3 ≤ wr.heap.size := by have := hgr.size; omega
      have HS := Lib.hid (fun W' (hW1 : Blk W' w.heap.size 25 #[.slice A X.length C]) (hW2 : Blk W' (w.heap.size + 1) 33 #[.string ⟨⟨91 :: r⟩⟩, .slice (some ⟨g, 0, none⟩) j j]) => (show W'.cell? ⟨w.heap.size, 0, none⟩ = some (.slice A X.length C) ∧ W'.cell? ⟨w.heap.size + 1, 0, none⟩ = some (.string ⟨⟨91 :: r⟩⟩) ∧ W'.cell? ⟨w.heap.size + 1, 1, none⟩ = some (.slice (some ⟨g, 0, none⟩) j j) from ⟨hW1.cell 0, hW2.cell 0, hW2.cell 1⟩))
      have n4 : (Value.slice A X.length C).ownBlock ≠ some w.heap.size := fun e => by have := HVL.out _ e; omega
      have n5 : (Value.slice A X.length C).ownBlock ≠ some (w.heap.size + 1) := fun e => by have := HVL.out _ e; omega
      have n6 : (Value.slice A X.length C).ownBlock ≠ some (w.heap.size + 1 + 1) := fun e => by have := HVL.out _ e; omega
      have k46 : w.heap.size ≠ w.heap.size + 1 + 1 := by omega
      have k56 : w.heap.size + 1 ≠ w.heap.size + 1 + 1 := by omega
      have HTH := Lib.hid (th_one ⟨91 :: r, List.replicate j z⟩ (some ⟨g, 0, none⟩, j))
      have hthc : thCells ⟨91 :: r, List.replicate j z⟩ (some ⟨g, 0, none⟩, j) = [.string ⟨⟨91 :: r⟩⟩, .slice (some ⟨g, 0, none⟩) j j] := by unfold thCells; simp
      rw [hthc] at HTH
      have HTC := Lib.hid hthc
      clear hgr hbg hd1 hd2 hd3 hot hnew hBW hthc
      go_upto_region 8 with fail
      go_region_held3 (fun W' => W'.cell? ⟨w.heap.size, 0, none⟩ = some (.slice A X.length C) ∧ W'.cell? ⟨w.heap.size + 1, 0, none⟩ = some (.string ⟨⟨91 :: r⟩⟩) ∧ W'.cell? ⟨w.heap.size + 1, 1, none⟩ = some (.slice (some ⟨g, 0, none⟩) j j))
        (first | (exact HS.out _ HD1r.out HD2r.out) | (exact HS.out _ HD1r.out.drew HD2r.out.drew) | (exact HS.out _ (HD1r.out.drew.alloc _) (HD2r.out.drew.alloc _)) | (exact HS.out _ (HD1r.out.alloc _) (HD2r.out.alloc _)) | (exact HS.out _ h4 h5) | (exact HS.out _ (blk_ne h4 k46 _) (blk_ne h5 k56 _)))
        ((first
        | (refine step_app rowThing rfl (.tmp 34) (.tmp 36) rfl B _ X.length (thsL X qs) rfl ?_ _ 1 [.string ⟨⟨91 :: r⟩⟩, .slice (some ⟨g, 0, none⟩) j j] rfl (Or.inr ?_) ?_ ?_ ?_ ?_
           · first | exact HOT.out.row.alloc _ | exact (HOT.out.row.alloc _).drew
           · first | exact one_src _ [.string ⟨⟨91 :: r⟩⟩, .slice (some ⟨g, 0, none⟩) j j] _ 2 _ (by rfl) rfl HTH.out | exact one_drew (one_src _ [.string ⟨⟨91 :: r⟩⟩, .slice (some ⟨g, 0, none⟩) j j] _ 2 _ (by rfl) rfl HTH.out) | exact one_src _ [.string ⟨⟨91 :: r⟩⟩, .slice (some ⟨g, 0, none⟩) j j] _ 2 _ (by simp) rfl HTH.out
           · omega
           · omega
           · first | (simp; omega) | omega
           intro v6 w6 ho6 hgr6 hv6
           have h4 : Blk w6 w.heap.size 25 #[.slice A X.length C] := by first | exact blk_grown (HD1r.out.drew.alloc _) hgr6 n4 | exact blk_grown (HD1r.out.alloc _).drew hgr6 n4
           have h5 : Blk w6 (w.heap.size + 1) 33 #[.string ⟨⟨91 :: r⟩⟩, .slice (some ⟨g, 0, none⟩) j j] := by first | exact blk_grown (HD2r.out.drew.alloc _) hgr6 n5 | exact blk_grown (HD2r.out.alloc _).drew hgr6 n5
           have h6 : Blk w6 (w.heap.size + 1 + 1) 25 #[.slice none 0 0] := by first | exact blk_grown (HD3r.out.drew.alloc _) hgr6 n6 | exact blk_grown (HD3r.out.alloc _).drew hgr6 n6
           have z0 := h6.cell 0
           have z1 := h6.frozen 0
           have z2 := h6.lt
           obtain ⟨A6, C6, rfl, _⟩ := slice_of_own ho6)))
      all_goals
        have hwr : IntKind.i64.wrap ((X.length : Int) + 1) = (X.length : Int) + 1 := by rw [IntKind.wrap_i64]; omega
        rw [hwr]
        have hot6 : OwnT w6 B (.slice A6 (X.length + 1) C6) (X ++ [⟨91 :: r, List.replicate j z⟩]) (qs ++ [(some ⟨g, 0, none⟩, j)]) := by
          first
            | exact OwnT.more (show OwnT (wr.drew.alloc _) B (.slice A X.length C) X qs from HOT.out.below ((Below.refl _ _).drew.alloc (Nat.le_refl _) _)) (own_below HNW.out ((Below.refl _ _).drew.alloc (Nat.le_refl _) _)) hgr6 (by rw [HTC.out]; exact ho6)
            | exact OwnT.more (show OwnT (wr.alloc _).drew B (.slice A X.length C) X qs from HOT.out.below ((Below.refl _ _).alloc (Nat.le_refl _) _).drew) (own_below HNW.out ((Below.refl _ _).alloc (Nat.le_refl _) _).drew) hgr6 (by rw [HTC.out]; exact ho6)
        have hb6 : Below B w0 w6 := by
          first
            | exact ((HBWR.out.drew).alloc (by show B ≤ wr.heap.size; omega) _).trans ⟨hgr6.os, hgr6.tape, hgr6.output, hgr6.size, fun k hk => hgr6.block k (by simp; omega) (fun e => by have := hv6 k e.symm; omega)⟩
            | exact ((HBWR.out).alloc (by show B ≤ wr.heap.size; omega) _).drew.trans ⟨hgr6.os, hgr6.tape, hgr6.output, hgr6.size, fun k hk => hgr6.block k (by simp; omega) (fun e => by have := hv6 k e.symm; omega)⟩
        have HO9 := Lib.hid (hot6.put (j := 0) h6 (by decide) (by decide) (.slice A6 (X.length + 1) C6))
        have y0 := (blk_set h6 0 (.slice A6 (X.length + 1) C6)).cell 0
        have HB9 := Lib.hid (hb6.setCell (p := ⟨w.heap.size + 1 + 1, 0, none⟩) (by show B ≤ w.heap.size + 1 + 1; omega) (.slice A6 (X.length + 1) C6))
        have H50 := Lib.hid h50
        clear hot6 hb6 ho6 hgr6 hv6 h4 h5 h6 z0 z1 z2 HS n4 n5 n6
        generalize w6.setCell ⟨w.heap.size + 1 + 1, 0, none⟩ (.slice A6 (X.length + 1) C6) = w9 at *
        go_wp2_with fail
        exact bodyPost_ret (v := .tuple #[.agg #[.slice A6 (X.length + 1) C6], .int .i64 ((X.length : Int) + 1), .nilIface]) (by simp [results, Tryz.results29, go_sem, y0]) rfl ⟨HB9.out, Or.inr ⟨H50.out, _, _, rfl, by rw [← HZE.out]; exact HO9.out⟩⟩
end Go.Proofs.YtanjggdmgeedlaaGreatDoor
