import Derived.Test.YtfimajijegohmaaGreatDoorRf
import Derived.Test.YtfimajijegohmaaGreatDoorWx
namespace Go.Proofs.YtfimajijegohmaaGreatDoor
set_option maxRecDepth 100000
set_option maxHeartbeats 8000000
set_option linter.unusedVariables false
set_option linter.unusedSimpArgs false
open Go.RowKit Go.Shelf Go.Lib
def zeroV (t : Nm) : ValR := if t = [73] then ⟨1, 0⟩ else if t = [74] then ⟨2, 0⟩ else ⟨3, 0⟩
theorem zero_calls (t : Nm) (w : World) : Calls Tryz.prog 282 #[.string ⟨⟨t⟩⟩] w fun e w' => e = .returned (.agg #[.int .i64 (zeroV t).kind, .int .i64 (zeroV t).n]) ∧ Below w.heap.size w w' := by
 have HB := Hd (fun o => bl_alloc (Below.refl w.heap.size w) o)
 by_cases h1 : t = [73]
 · have HR := Hd (show zeroV t = ⟨1, 0⟩ by unfold zeroV; rw [if_pos h1])
   subst h1
   go_enter Tryz.func282, Tryz.ntmps282
   go_wp2_with fail
   exact bodyPost_ret (v := .agg #[.int .i64 1, .int .i64 0]) (by simp [results, Tryz.results282, go_sem]) rfl ⟨by rw [HR.out], HB.out _⟩
 · have q1 : (t == [73]) = false := by rw [beq_eq_false_iff_ne]; exact h1
   by_cases h2 : t = [74]
   · have HR := Hd (show zeroV t = ⟨2, 0⟩ by unfold zeroV; rw [if_neg h1, if_pos h2])
     subst h2
     clear h1
     go_enter Tryz.func282, Tryz.ntmps282
     go_wp2_with fail
     exact bodyPost_ret (v := .agg #[.int .i64 2, .int .i64 0]) (by simp [results, Tryz.results282, go_sem]) rfl ⟨by rw [HR.out], HB.out _⟩
   · have HR := Hd (show zeroV t = ⟨3, 0⟩ by unfold zeroV; rw [if_neg h1, if_neg h2])
     have q2 : (t == [74]) = false := by rw [beq_eq_false_iff_ne]; exact h2
     clear h1 h2
     go_enter Tryz.func282, Tryz.ntmps282
     go_wp2_with fail
     exact bodyPost_ret (v := .agg #[.int .i64 3, .int .i64 0]) (by simp [results, Tryz.results282, go_sem]) rfl ⟨by rw [HR.out], HB.out _⟩
def thsL (X : List ThingR) (qs : List HA) : List Value := (List.zipWith thCells X qs).flatten
structure OwnT (w : World) (B : Nat) (v : Value) (X : List ThingR) (qs : List HA) : Prop where
 len : qs.length = X.length
 row : w.ownsRow B 149 2 v X.length (thsL X qs)
 has : ∀ (k : Nat) (x : ThingR) (q : HA), X[k]? = some x → qs[k]? = some q → OwnV w B x.has q
theorem OwnT.below {w w' : World} {B : Nat} {v : Value} {X : List ThingR} {qs : List HA} (h : OwnT w B v X qs) (hb : Below w.heap.size w w') : OwnT w' B v X qs :=
 ⟨h.len, own_below h.row hb, fun k x q h1 h2 => own_below (h.has k x q h1 h2) hb⟩
theorem thsL_snoc {X : List ThingR} {qs : List HA} (h : qs.length = X.length) (x : ThingR) (q : HA) : thsL (X ++ [x]) (qs ++ [q]) = thsL X qs ++ thCells x q := by
 unfold thsL
 rw [List.zipWith_append h.symm]
 simp
theorem th_one (x : ThingR) (q : HA) : ∀ u ∈ thCells x q, u.oneCell' = true := by
 intro u hu
 simp only [thCells, List.mem_cons, List.mem_nil_iff, or_false] at hu
 rcases hu with rfl | rfl <;> rfl
theorem OwnT.at {w : World} {B : Nat} {v : Value} {X : List ThingR} {qs : List HA} (h : OwnT w B v X qs) : ∃ a cap, v = .slice a X.length cap ∧ ThingsAt w a cap X qs := by
 have hz : (List.zipWith thCells X qs).length = X.length := by rw [List.length_zipWith, h.len, Nat.min_self]
 have h' : w.ownsRow B 149 2 v (List.zipWith thCells X qs).length (List.zipWith thCells X qs).flatten := by rw [hz]; exact h.row
 obtain ⟨a, cap, h1, h2⟩ := rows_of_own h' (by
   intro c hc
   obtain ⟨j, hj⟩ := List.getElem?_of_mem hc
   rw [List.getElem?_zipWith] at hj
   split at hj
   · simp at hj; rw [← hj]; rfl
   · cases hj)
 exact ⟨a, cap, by rw [h1, hz], h.len, h2, fun k x q hx hq => (h.has k x q hx hq).at⟩
theorem OwnT.more {w w' : World} {B : Nat} {v v' : Value} {X : List ThingR} {qs : List HA} (h : OwnT w B v X qs) {x : ThingR} {q : HA} (hx : OwnV w B x.has q) (hg : w.grownBy w' v.ownBlock) (hr : w'.ownsRow B 149 2 v' (X.length + 1) (thsL X qs ++ thCells x q)) : OwnT w' B v' (X ++ [x]) (qs ++ [q]) := by
 have keep : ∀ {l : List ValR} {p : HA}, OwnV w B l p → OwnV w' B l p := fun {l p} hp => own_keep hp (fun g hgb => by
   have hne := own_apart hp h.row (by decide) hgb
   rcases hp.2 with ⟨hv, _⟩ | ⟨k, _, _, hv, _, hk, _⟩
   · rw [hv] at hgb; cases hgb
   · rw [hv] at hgb
     simp only [Value.ownBlock, Option.some.injEq] at hgb
     subst hgb
     exact hg.block k (Array.getElem?_eq_some_iff.1 hk).1 (fun e => hne e.symm))
 refine ⟨by simp [h.len], by rw [thsL_snoc h.len]; simpa using hr, fun k y p hy hp => ?_⟩
 by_cases hk : k < X.length
 · rw [List.getElem?_append_left hk] at hy
   rw [List.getElem?_append_left (by rw [h.len]; exact hk)] at hp
   exact keep (h.has k y p hy hp)
 · rw [List.getElem?_append_right (by omega)] at hy
   rw [List.getElem?_append_right (by rw [h.len]; omega), h.len] at hp
   obtain ⟨hk2, _⟩ := List.getElem?_eq_some_iff.1 hy
   have : k - X.length = 0 := by simp at hk2; omega
   rw [this] at hy hp
   simp at hy hp
   subst hy hp
   exact keep hx
theorem OwnT.set {w : World} {B : Nat} {v : Value} {X : List ThingR} {qs : List HA} (h : OwnT w B v X qs) {g j : Nat} (u : Value) (hg : g < B) : OwnT (w.setCell ⟨g, j, none⟩ u) B v X qs :=
 ⟨h.len, own_set h.row (fun e => by have := (h.row.lt _ e).1; omega) u, fun k x q hx hp => own_set (h.has k x q hx hp) (fun e => by have := ((h.has k x q hx hp).lt _ e).1; omega) u⟩
theorem OwnT.down {w : World} {B B' : Nat} {v : Value} {X : List ThingR} {qs : List HA} (h : OwnT w B v X qs) (hB : B' ≤ B) : OwnT w B' v X qs := ⟨h.len, own_down h.row hB, fun k x q hx hp => own_down (h.has k x q hx hp) hB⟩
theorem blk_ne {w : World} {K g j : Nat} {T : TypeId} {cs : Array Value} (h : Blk w K T cs) (hne : K ≠ g) (u : Value) : Blk (w.setCell ⟨g, j, none⟩ u) K T cs := gb_blk (gb_set (gb_refl w g) j u) h hne
theorem valsL_get : ∀ {l : List ValR} {i : Nat} {v : ValR}, l[i]? = some v → (valsL l)[i * 2]? = some (.int .i64 v.kind) ∧ (valsL l)[i * 2 + 1]? = some (.int .i64 v.n)
 | [], i, v, h => by simp at h
 | x :: l, 0, v, h => by
   simp only [List.getElem?_cons_zero, Option.some.injEq] at h
   subst h
   exact ⟨rfl, rfl⟩
 | x :: l, i + 1, v, h => by
   have ih := valsL_get (l := l) (i := i) (v := v) (by simpa using h)
   have e1 : (i + 1) * 2 = i * 2 + 1 + 1 := by omega
   unfold valsL at ih ⊢
   rw [e1]
   simp only [List.map_cons, List.flatten_cons, vCells, List.cons_append, List.nil_append, List.getElem?_cons_succ]
   exact ih
theorem valsL_set : ∀ (l : List ValR) (i : Nat) (v : ValR), i < l.length → (((valsL l).set (i * 2) (.int .i64 v.kind)).set (i * 2 + 1) (.int .i64 v.n)) = valsL (l.set i v)
 | [], i, v, h => by simp at h
 | x :: l, 0, v, _ => rfl
 | x :: l, i + 1, v, h => by
   have ih := valsL_set l i v (by simpa using h)
   have e1 : (i + 1) * 2 = i * 2 + 1 + 1 := by omega
   unfold valsL at ih ⊢
   rw [e1]
   simp only [List.map_cons, List.flatten_cons, vCells, List.cons_append, List.nil_append, List.set_cons_succ]
   rw [ih]
theorem valsL_int {l : List ValR} {u : Value} (h : u ∈ valsL l) : ∃ i, u = .int .i64 i := by
 unfold valsL at h
 obtain ⟨c, hc, hu⟩ := List.mem_flatten.1 h
 obtain ⟨v, _, rfl⟩ := List.mem_map.1 hc
 simp only [vCells, List.mem_cons, List.mem_nil_iff, or_false] at hu
 rcases hu with rfl | rfl <;> exact ⟨_, rfl⟩
theorem own_noblk {w : World} {B : Nat} {e : TypeId} {size : Nat} {v : Value} {n : Nat} {xs : List Value} (h : w.ownsRow B e size v n xs) {g : Nat} {T : TypeId} {cs : Array Value} (hb : Blk w g T cs) (hne : T ≠ e) : v.ownBlock ≠ some g := by
 intro hg
 rcases h.2 with ⟨rfl, _⟩ | ⟨k, _, _, rfl, _, hk, _⟩
 · cases hg
 · simp only [Value.ownBlock, Option.some.injEq] at hg
   subst hg
   unfold Blk at hb
   rw [hk] at hb
   simp only [Option.some.injEq, Obj.cells.injEq] at hb
   exact hne hb.2.1.symm
theorem OwnT.put {w : World} {B : Nat} {v : Value} {X : List ThingR} {qs : List HA} (h : OwnT w B v X qs) {g j : Nat} {T : TypeId} {cs : Array Value} (hb : Blk w g T cs) (h1 : T ≠ 149) (h2 : T ≠ 42) (u : Value) : OwnT (w.setCell ⟨g, j, none⟩ u) B v X qs :=
 ⟨h.len, own_set h.row (own_noblk h.row hb h1) u, fun k x q hx hp => own_set (h.has k x q hx hp) (own_noblk (h.has k x q hx hp) hb h2) u⟩
def MoreRes (X : List ThingR) (y : ThingR) (qs : List HA) (B : Nat) (w0 : World) (e : Ending) (w' : World) : Prop :=
 Below B w0 w' ∧ ((50 ≤ X.length ∧ e = .returned (.tuple #[.agg #[.slice none 0 0], .int .i64 0, errV 4])) ∨
   (X.length < 50 ∧ ∃ v q, e = .returned (.tuple #[.agg #[v], .int .i64 ((X.length : Int) + 1), .nilIface]) ∧ OwnT w' B v (X ++ [y]) (qs ++ [q])))
def fillT (Ts : List Nm) (j : Nat) : List ValR := (Ts.take j).map zeroV ++ List.replicate (Ts.length - j) ⟨0, 0⟩
theorem fillT_len {Ts : List Nm} {j : Nat} (h : j ≤ Ts.length) : (fillT Ts j).length = Ts.length := by unfold fillT; simp; omega
theorem fillT_at {Ts : List Nm} {j : Nat} (h : j < Ts.length) : (fillT Ts j)[j]? = some ⟨0, 0⟩ := by
 unfold fillT
 have hl : ((Ts.take j).map zeroV).length = j := by simp; omega
 rw [List.getElem?_append_right (by omega), hl, Nat.sub_self, List.getElem?_replicate_of_lt (by omega)]
theorem fillT_set {Ts : List Nm} {j : Nat} {t : Nm} (h : Ts[j]? = some t) : (fillT Ts j).set j (zeroV t) = fillT Ts (j + 1) := by
 have hj := (List.getElem?_eq_some_iff.1 h).1
 unfold fillT
 have hl : ((Ts.take j).map zeroV).length = j := by simp; omega
 obtain ⟨m, hm⟩ : ∃ m, Ts.length - j = m + 1 := ⟨Ts.length - j - 1, by omega⟩
 rw [hm, show Ts.length - (j + 1) = m by omega, List.set_append_right _ _ (by omega), hl, Nat.sub_self, List.replicate_succ, List.set_cons_zero, List.take_add_one, h]
 simp
theorem fillT_all (Ts : List Nm) : fillT Ts Ts.length = Ts.map zeroV := by unfold fillT; simp
theorem more_L (b : Nat) (T : Nm) (Ts : List Nm) (g n : Nat) (B : Nat) (w : World) (hB : B ≤ w.heap.size) (hn : Ts.length = n) (hnl : n ≤ 1000) (hty : ∀ W, Below w.heap.size w W → Calls Tryz.prog 281 #[.map (some b), .agg #[.string ⟨⟨T⟩⟩, .slice (some ⟨g, 0, none⟩) n n]] W (TysRes Ts W))
   (hg : Blk w g 42 (valsL (List.replicate n ⟨0, 0⟩)).toArray) (hBg : B ≤ g) :
   Calls Tryz.prog 228 #[.map (some b), .agg #[.slice none 0 0], .agg #[.string ⟨⟨T⟩⟩, .slice (some ⟨g, 0, none⟩) n n]] w fun e w' => w.grownBy w' (some g) ∧ ∃ v, e = .returned (.tuple #[.agg #[v], .int .i64 1, .nilIface]) ∧ OwnT w' B v [⟨T, Ts.map zeroV⟩] [(some ⟨g, 0, none⟩, n)] := by
 obtain ⟨W0, hW0⟩ : ∃ W0 : World, W0 = ((w.alloc (.cells #[.slice none 0 0] 100)).alloc (.cells #[.string ⟨⟨T⟩⟩, .slice (some ⟨g, 0, none⟩) n n] 149)).alloc (.cells #[.slice none 0 0] 100) := ⟨_, rfl⟩
 have hbw : Below w.heap.size w W0 := by subst hW0; exact bl_alloc (bl_alloc (bl_alloc (Below.refl _ _) _) _) _
 have HBW := Hd hbw
 have hd1 : Blk W0 w.heap.size 100 #[.slice none 0 0] := by
   subst hW0
   exact ((blk_new _ _ _ _ (by simp)).alloc _).alloc _
 have hd2 : Blk W0 (w.heap.size + 1) 149 #[.string ⟨⟨T⟩⟩, .slice (some ⟨g, 0, none⟩) n n] := by
   subst hW0
   exact (blk_new _ _ _ _ (by simp)).alloc _
 have hd3 : Blk W0 (w.heap.size + 1 + 1) 100 #[.slice none 0 0] := by
   subst hW0
   exact blk_new _ _ _ _ (by simp)
 have hs0 : W0.heap.size = w.heap.size + 1 + 1 + 1 := by subst hW0; simp
 have HT0 := Hd (show OwnT W0 B (.slice none 0 0) [] [] from ⟨rfl, World.ownsRow_nil _ _ _ _, fun k x q h => by simp at h⟩)
 have HG0 := Hd (hg.below hbw)
 have HD1 := Hd hd1
 have HD2 := Hd hd2
 have HD3 := Hd hd3
 have hgl : g < w.heap.size := hg.lt
 have HTY := Hd (fun W (hw : Below w.heap.size w W) => hty W hw)
 have HN := Hd hn
 have HZ := Hd (fun t W => zero_calls t W)
 clear hg hd1 hd2 hd3 hbw hn hty
 go_enter Tryz.func228, Tryz.ntmps228
 go_wp2_with fail
 rw [← hW0]
 clear hW0
 have e0 := HD1.out.cell 0
 have e1 := HD2.out.cell 0
 have e2 := HD2.out.cell 1
 have e3 := HD1.out.lt
 have e4 := HD2.out.lt
 go_wp2_with fail
 refine (HTY.out _ HBW.out).mono ?_
 rintro e wa ⟨hba, a4, c4, rfl, hr4⟩
 have HR4 := Hd hr4
 have HBA := Hd hba
 have HG1 := Hd (HG0.out.below hba)
 have HD1a := Hd (HD1.out.below hba)
 have HD2a := Hd (HD2.out.below hba)
 have HD3a := Hd (HD3.out.below hba)
 have HTa := Hd (HT0.out.below hba)
 have hsa : W0.heap.size ≤ wa.heap.size := hba.size
 rw [HN.out]
 clear hba hr4 e0 e1 e2 e3 e4
 go_wp2_with fail
 go_loopw [21] (fun i wr => ∃ j : Nat, j ≤ n ∧ i = .int .i64 j ∧ wa.grownBy wr (some g) ∧ Hid (Blk wr g 42 (valsL (fillT Ts j)).toArray)) (fun i _ => n - (RowKit.intOf i).toNat)
 case atStart => exact ⟨0, by omega, rfl, gb_refl _ _, Hd (by unfold fillT; rw [HN.out]; simpa using HG1.out)⟩
 case round =>
   obtain ⟨j, hj, rfl, hgr, HBG⟩ := hrel
   by_cases hlj : j < n
   · obtain ⟨t, ht⟩ : ∃ t, Ts[j]? = some t := ⟨_, List.getElem?_eq_getElem (by have := HN.out; omega)⟩
     obtain ⟨b5, off5, ha5, hl5, t0⟩ : ∃ b off, a4 = some ⟨b, off, none⟩ ∧ b < wr.heap.size ∧ wr.cell? ⟨b, off + j, none⟩ = some (.string ⟨⟨t⟩⟩) := by
       rcases HR4.out.2 with h | ⟨b5, off5, h5, hlt, hc⟩
       · rw [h] at ht; simp at ht
       · have hcj := hc j t ht
         have hne : b5 ≠ g := by
           intro e
           rw [e, HG1.out.cell, List.getElem?_toArray] at hcj
           obtain ⟨i, hi⟩ := valsL_int (List.mem_of_getElem? hcj)
           cases hi
         exact ⟨b5, off5, h5, Nat.lt_of_lt_of_le hlt hgr.size, (gb_cell hgr (a := ⟨b5, off5 + j, none⟩) hlt hne).trans hcj⟩
     rw [ha5]
     have hg2 := gb_blk hgr HD2a.out (by omega)
     have HK := Hd hg2
     have HGR := Hd hgr
     have HS := Hd (fun W' (hW' : Blk W' (w.heap.size + 1) 149 #[.string ⟨⟨T⟩⟩, .slice (some ⟨g, 0, none⟩) n n]) => (show W'.cell? ⟨w.heap.size + 1, 1, none⟩ = some (.slice (some ⟨g, 0, none⟩) n n) from hW'.cell 1))
     have hj0 : (0 : Int) ≤ (j : Int) := Int.natCast_nonneg _
     have hji : (j : Int) < (n : Int) := by omega
     have hKg : w.heap.size + 1 ≠ g := by omega
     obtain ⟨v0, v1⟩ := valsL_get (fillT_at (Ts := Ts) (j := j) (by have := HN.out; omega))
     have HTJ := Hd ht
     have HV0 := Hd v0
     have HV1 := Hd v1
     clear hgr hg2 ha5 v0 v1 ht
     obtain ⟨z, hz⟩ : ∃ z, z = zeroV t := ⟨_, rfl⟩
     have HZE := Hd hz
     have HZ2 := Hd (fun W => show Calls Tryz.prog 282 #[.string ⟨⟨t⟩⟩] W (fun e w' => e = .returned (.agg #[.int .i64 z.kind, .int .i64 z.n]) ∧ Below W.heap.size W w') from by rw [hz]; exact HZ.out t W)
     clear hz
     go_upto_region 6 with fail
     go_region_held3 (fun W' => W'.cell? ⟨w.heap.size + 1, 1, none⟩ = some (.slice (some ⟨g, 0, none⟩) n n))
       (first | (exact HS.out _ (by first | exact HK.out | exact HK.out.drew | exact hk5 | exact blk_ne (blk_ne hk5 hKg _) hKg _ | exact blk_ne hk5 hKg _)))
       ((go_at_call 282
         refine (HZ2.out _).mono ?_
         rintro e w5 ⟨rfl, hb5⟩
         have hb45 := bl_trans (Below.refl wr.heap.size wr).drew hb5
         have hg5 := gb_below HGR.out hb45
         have hk5 := HK.out.below hb45
         have hbg5 := HBG.out.below hb45
         have x0 : w5.cell? ⟨g, j * 2, none⟩ = some (.int .i64 0) := by rw [hbg5.cell, List.getElem?_toArray]; exact HV0.out
         have x1 : w5.cell? ⟨g, j * 2 + 1, none⟩ = some (.int .i64 0) := by rw [hbg5.cell, List.getElem?_toArray]; exact HV1.out
         have x2 := hbg5.frozen (j * 2)
         have x3 := hbg5.frozen (j * 2 + 1)
         have x4 := hbg5.lt))
     all_goals
       have hg7 := gb_set (gb_set hg5 (j * 2) (.int .i64 z.kind)) (j * 2 + 1) (.int .i64 z.n)
       have hb7 := blk_set (blk_set hbg5 (j * 2) (.int .i64 z.kind)) (j * 2 + 1) (.int .i64 z.n)
       rw [List.setIfInBounds_toArray, List.setIfInBounds_toArray, valsL_set _ _ _ (by rw [fillT_len (by have := HN.out; omega)]; have := HN.out; omega), show (fillT Ts j).set j z = fillT Ts (j + 1) from by rw [HZE.out]; exact fillT_set HTJ.out] at hb7
       have HG7 := Hd hg7
       have HB7 := Hd hb7
       clear hg7 hb7 hg5 hk5 hbg5 x0 x1 x2 x3 x4 hb45
       generalize (w5.setCell ⟨g, j * 2, none⟩ (.int .i64 z.kind)).setCell ⟨g, j * 2 + 1, none⟩ (.int .i64 z.n) = w7 at *
       go_wp2_with fail
       go_roundw
       case rel => exact ⟨j + 1, by omega, by go_num, HG7.out, HB7⟩
       case measure => simp [RowKit.intOf]; omega
   · obtain rfl : j = n := by omega
     have hbg := HBG.out
     rw [show fillT Ts j = Ts.map zeroV from by rw [← HN.out]; exact fillT_all Ts] at hbg
     have hd1 := gb_blk hgr HD1a.out (by omega)
     have hd2 := gb_blk hgr HD2a.out (by omega)
     have hd3 := gb_blk hgr HD3a.out (by omega)
     have hot : OwnT wr B (.slice none 0 0) [] [] := ⟨rfl, World.ownsRow_nil _ _ _ _, fun k x q h => by simp at h⟩
     have hnew : OwnV wr B (Ts.map zeroV) (some ⟨g, 0, none⟩, j) := by
       refine ⟨valsL_len _, Or.inr ⟨g, j, _, by rw [List.length_map, HN.out], hBg, hbg, by rw [List.length_map, HN.out]; exact Nat.le_refl _, by unfold maxLen; omega, ?_, ?_⟩⟩
       · rw [List.size_toArray, valsL_len, List.length_map, HN.out]
       · rw [List.toList_toArray]
         exact List.take_of_length_le (by rw [valsL_len]; exact Nat.le_refl _)
     have HD1r := Hd hd1
     have HD2r := Hd hd2
     have HD3r := Hd hd3
     have HOT := Hd hot
     have HNW := Hd hnew
     have HGW := Hd (show w.grownBy wr (some g) from gb_trans (gb_below (gb_refl w g) (bl_trans HBW.out HBA.out)) hgr)
     have hswr : w.heap.size + 3 ≤ wr.heap.size := by have := hgr.size; omega
     have HS := Hd (fun W' (hW1 : Blk W' w.heap.size 100 #[.slice none 0 0]) (hW2 : Blk W' (w.heap.size + 1) 149 #[.string ⟨⟨T⟩⟩, .slice (some ⟨g, 0, none⟩) j j]) => (show W'.cell? ⟨w.heap.size, 0, none⟩ = some (.slice none 0 0) ∧ W'.cell? ⟨w.heap.size + 1, 0, none⟩ = some (.string ⟨⟨T⟩⟩) ∧ W'.cell? ⟨w.heap.size + 1, 1, none⟩ = some (.slice (some ⟨g, 0, none⟩) j j) from ⟨hW1.cell 0, hW2.cell 0, hW2.cell 1⟩))
     have k46 : w.heap.size ≠ w.heap.size + 1 + 1 := by omega
     have k56 : w.heap.size + 1 ≠ w.heap.size + 1 + 1 := by omega
     have HTH := Hd (th_one ⟨T, Ts.map zeroV⟩ (some ⟨g, 0, none⟩, j))
     have hthc : thCells ⟨T, Ts.map zeroV⟩ (some ⟨g, 0, none⟩, j) = [.string ⟨⟨T⟩⟩, .slice (some ⟨g, 0, none⟩) j j] := by unfold thCells; simp [HN.out]
     rw [hthc] at HTH
     have HTC := Hd hthc
     clear hgr hbg hd1 hd2 hd3 hot hnew hthc
     go_upto_region 8 with fail
     go_region_held3 (fun W' => W'.cell? ⟨w.heap.size, 0, none⟩ = some (.slice none 0 0) ∧ W'.cell? ⟨w.heap.size + 1, 0, none⟩ = some (.string ⟨⟨T⟩⟩) ∧ W'.cell? ⟨w.heap.size + 1, 1, none⟩ = some (.slice (some ⟨g, 0, none⟩) j j))
       (first | (exact HS.out _ HD1r.out HD2r.out) | (exact HS.out _ HD1r.out.drew HD2r.out.drew) | (exact HS.out _ (HD1r.out.drew.alloc _) (HD2r.out.drew.alloc _)) | (exact HS.out _ (HD1r.out.alloc _) (HD2r.out.alloc _)) | (exact HS.out _ h4 h5) | (exact HS.out _ (blk_ne h4 k46 _) (blk_ne h5 k56 _)))
       ((first
       | (refine step_app rowThing rfl (.tmp 34) (.tmp 36) rfl B (.slice none 0 0) 0 [] rfl ?_ _ 1 [.string ⟨⟨T⟩⟩, .slice (some ⟨g, 0, none⟩) j j] rfl (Or.inr ?_) ?_ ?_ ?_ ?_
          · exact World.ownsRow_nil _ _ _ _
          · first | exact one_src _ [.string ⟨⟨T⟩⟩, .slice (some ⟨g, 0, none⟩) j j] _ 2 _ (by rfl) rfl HTH.out | exact one_drew (one_src _ [.string ⟨⟨T⟩⟩, .slice (some ⟨g, 0, none⟩) j j] _ 2 _ (by rfl) rfl HTH.out) | exact one_src _ [.string ⟨⟨T⟩⟩, .slice (some ⟨g, 0, none⟩) j j] _ 2 _ (by simp) rfl HTH.out
          · omega
          · omega
          · first | (simp; omega) | omega
          intro v6 w6 ho6 hgr6 hv6
          have h4 : Blk w6 w.heap.size 100 #[.slice none 0 0] := by first | exact blk_grown (HD1r.out.drew.alloc _) hgr6 (by simp [Value.ownBlock]) | exact blk_grown (HD1r.out.alloc _).drew hgr6 (by simp [Value.ownBlock])
          have h5 : Blk w6 (w.heap.size + 1) 149 #[.string ⟨⟨T⟩⟩, .slice (some ⟨g, 0, none⟩) j j] := by first | exact blk_grown (HD2r.out.drew.alloc _) hgr6 (by simp [Value.ownBlock]) | exact blk_grown (HD2r.out.alloc _).drew hgr6 (by simp [Value.ownBlock])
          have h6 : Blk w6 (w.heap.size + 1 + 1) 100 #[.slice none 0 0] := by first | exact blk_grown (HD3r.out.drew.alloc _) hgr6 (by simp [Value.ownBlock]) | exact blk_grown (HD3r.out.alloc _).drew hgr6 (by simp [Value.ownBlock])
          have z0 := h6.cell 0
          have z1 := h6.frozen 0
          have z2 := h6.lt
          obtain ⟨A6, C6, rfl, _⟩ := slice_of_own ho6)))
     all_goals
       have hot6 : OwnT w6 B (.slice A6 1 C6) [⟨T, Ts.map zeroV⟩] [(some ⟨g, 0, none⟩, j)] := by
         first
           | exact OwnT.more (X := []) (qs := []) (show OwnT (wr.drew.alloc _) B (.slice none 0 0) [] [] from HOT.out.below ((Below.refl _ _).drew.alloc (Nat.le_refl _) _)) (own_below HNW.out ((Below.refl _ _).drew.alloc (Nat.le_refl _) _)) hgr6 (by rw [HTC.out]; exact ho6)
           | exact OwnT.more (X := []) (qs := []) (show OwnT (wr.alloc _).drew B (.slice none 0 0) [] [] from HOT.out.below ((Below.refl _ _).alloc (Nat.le_refl _) _).drew) (own_below HNW.out ((Below.refl _ _).alloc (Nat.le_refl _) _).drew) hgr6 (by rw [HTC.out]; exact ho6)
       have hb6 : w.grownBy w6 (some g) := by
         first
           | exact gb_grown (gb_alloc (gb_drew HGW.out) _) hgr6 (fun k e => by simp [Value.ownBlock] at e)
           | exact gb_grown (gb_drew (gb_alloc HGW.out _)) hgr6 (fun k e => by simp [Value.ownBlock] at e)
       have HO9 := Hd (hot6.put (j := 0) h6 (by decide) (by decide) (.slice A6 1 C6))
       have y0 := (blk_set h6 0 (.slice A6 1 C6)).cell 0
       have HB9 := Hd (show w.grownBy (w6.setCell ⟨w.heap.size + 1 + 1, 0, none⟩ (.slice A6 1 C6)) (some g) from ⟨hb6.os, hb6.tape, hb6.output, by have := hb6.size; simpa [World.setCell] using this, fun k hk hne => (Below.heap_setCell w6 ⟨w.heap.size + 1 + 1, 0, none⟩ _ k (fun e => by simp at e; omega)).trans (hb6.block k hk hne)⟩)
       clear hot6 hb6 ho6 hgr6 hv6 h4 h5 h6 z0 z1 z2 HS
       generalize w6.setCell ⟨w.heap.size + 1 + 1, 0, none⟩ (.slice A6 1 C6) = w9 at *
       go_wp2_with fail
       exact bodyPost_ret (v := .tuple #[.agg #[.slice A6 1 C6], .int .i64 1, .nilIface]) (by simp [results, Tryz.results228, go_sem, y0]; rfl) rfl ⟨HB9.out, _, rfl, HO9.out⟩
def IdxRes {α : Type} (l : List α) (q : α → Bool) (w : World) (e : Ending) (w' : World) : Prop := ((∃ i, l.findIdx? q = some i ∧ i < l.length ∧ e = .returned (.int .i64 (i : Int))) ∨ (l.findIdx? q = none ∧ e = .returned (.int .i64 (-1)))) ∧ Below w.heap.size w w'
theorem idx_at {α : Type} {l : List α} {k : Nat} {x : α} {q : α → Bool} (h0 : ∀ y ∈ l.take k, q y = false) (hx : l[k]? = some x) (hq : q x = true) : l.findIdx? q = some k := by
 obtain ⟨hk, he⟩ := List.getElem?_eq_some_iff.1 hx
 rw [List.findIdx?_eq_some_iff_getElem]
 refine ⟨hk, by rw [he]; exact hq, fun j hj => ?_⟩
 have := h0 l[j] (List.mem_of_getElem? (by rw [List.getElem?_take, if_pos hj]; exact List.getElem?_eq_getElem (by omega)))
 simp [this]
theorem idx_none {α : Type} {l : List α} {q : α → Bool} (h0 : ∀ y ∈ l, q y = false) : l.findIdx? q = none := List.findIdx?_eq_none_iff.2 h0
theorem indexLs (S : List FS) (y : FS) (a : Option Addr) (cap : Nat) (w : World) (h : LsAt w a cap S) (hl : S.length ≤ 1000000) :
   Calls Tryz.prog 80 #[.slice a S.length cap, lsV y] w (IdxRes S (pHit y.1 y.2) w) := by
 have HS := Hd h
 clear h
 obtain ⟨yc, ⟨yn, yt⟩⟩ := y
 unfold lsV
 dsimp only
 have HB0 := Hd (fun o => (Below.refl w.heap.size w).alloc (Nat.le_refl _) o)
 have HD0 := Hd (blk_new w w.heap.size 163 #[.string ⟨⟨yc⟩⟩, .string ⟨⟨yn⟩⟩, .string ⟨⟨yt⟩⟩] rfl)
 go_enter Tryz.func80, Tryz.ntmps80
 go_wp2_with fail
 go_loopw [8] (fun i wr => ∃ k : Nat, k ≤ S.length ∧ i = .int .i64 k ∧ Below w.heap.size w wr ∧ Blk wr w.heap.size 163 #[.string ⟨⟨yc⟩⟩, .string ⟨⟨yn⟩⟩, .string ⟨⟨yt⟩⟩] ∧ Hid (∀ x ∈ S.take k, pHit yc ⟨yn, yt⟩ x = false)) (fun i _ => S.length - (RowKit.intOf i).toNat)
 case atStart => exact ⟨0, by omega, rfl, HB0.out _, HD0.out, Hd (by simp)⟩
 case round =>
   obtain ⟨k, hk, rfl, hb, hd, HZ⟩ := hrel
   have HB := Hd hb
   have HD := Hd hd
   by_cases hlk : k < S.length
   · obtain ⟨x, hx⟩ : ∃ x, S[k]? = some x := ⟨_, List.getElem?_eq_getElem hlk⟩
     obtain ⟨b, off, rfl, hlt, c0, c1, c2⟩ := (HS.out.below hb).cells hx
     have e0 : wr.cell? ⟨w.heap.size, 0, none⟩ = some (.string ⟨⟨yc⟩⟩) := hd.cell 0
     have e1 : wr.cell? ⟨w.heap.size, 1, none⟩ = some (.string ⟨⟨yn⟩⟩) := hd.cell 1
     have e2 : wr.cell? ⟨w.heap.size, 2, none⟩ = some (.string ⟨⟨yt⟩⟩) := hd.cell 2
     have hdl := hd.lt
     have HX := Hd hx
     have i0 : (0 : Int) ≤ (k : Int) := by omega
     have i1 : (k : Int) < (S.length : Int) := by omega
     clear hx hb hd
     obtain ⟨xc, ⟨xn, xt⟩⟩ := x
     dsimp only at *
     by_cases hh : xc = yc ∧ xn = yn ∧ xt = yt
     · obtain ⟨rfl, rfl, rfl⟩ := hh
       have HA := Hd (idx_at HZ.out HX.out (show pHit xc ⟨xn, xt⟩ (xc, ⟨xn, xt⟩) = true by simp [pHit]))
       go_wp2_with fail
       go_quiet (fail)
       go_wp2_with fail
       go_ret
       exact ⟨Or.inl ⟨k, HA.out, hlk, rfl⟩, below_dn HB.out _⟩
     · have HZ2 := Hd (take_all_succ HZ.out HX.out (show pHit yc ⟨yn, yt⟩ (xc, ⟨xn, xt⟩) = false by
         cases hc : pHit yc ⟨yn, yt⟩ (xc, ⟨xn, xt⟩) with
         | false => rfl
         | true =>
           simp only [pHit, Bool.and_eq_true, beq_iff_eq] at hc
           exact absurd hc hh))
       by_cases h1 : xc = yc
       · subst h1
         by_cases h2 : xn = yn
         · subst h2
           have h3 : (yt == xt) = false := by
             cases hq : yt == xt with
             | false => rfl
             | true => exact absurd ⟨rfl, rfl, (eq_of_beq hq).symm⟩ hh
           clear hh
           go_wp2_with fail
           go_quiet (fail)
           go_wp2_with fail
           go_roundw
           case rel => exact ⟨k + 1, by omega, by go_num, below_dn HB.out _, HD.out, HZ2⟩
           case measure => simp [RowKit.intOf]; omega
         · have h3 : (yn == xn) = false := by
             cases hq : yn == xn with
             | false => rfl
             | true => exact absurd (eq_of_beq hq).symm h2
           clear hh h2
           go_wp2_with fail
           go_quiet (fail)
           go_wp2_with fail
           go_roundw
           case rel => exact ⟨k + 1, by omega, by go_num, below_dn HB.out _, HD.out, HZ2⟩
           case measure => simp [RowKit.intOf]; omega
       · have h3 : (yc == xc) = false := by
           cases hq : yc == xc with
           | false => rfl
           | true => exact absurd (eq_of_beq hq).symm h1
         clear hh h1
         go_wp2_with fail
         go_quiet (fail)
         go_wp2_with fail
         go_roundw
         case rel => exact ⟨k + 1, by omega, by go_num, below_dn HB.out _, HD.out, HZ2⟩
         case measure => simp [RowKit.intOf]; omega
   · obtain rfl : k = S.length := by omega
     have HA := Hd (idx_none (by have := HZ.out; rwa [List.take_length] at this))
     clear hb hd
     go_wp2_with fail
     go_ret
     exact ⟨Or.inr ⟨HA.out, rfl⟩, HB.out⟩
def IdxIs {α : Type} (l : List α) (q : α → Bool) (r : Int) : Prop := (∃ i : Nat, l.findIdx? q = some i ∧ i < l.length ∧ r = i) ∨ (l.findIdx? q = none ∧ r = -1)
theorem idx_open {α : Type} {l : List α} {q : α → Bool} {w w' : World} {e : Ending} (h : IdxRes l q w e w') : Below w.heap.size w w' ∧ ∃ r, e = .returned (.int .i64 r) ∧ IdxIs l q r := by
 obtain ⟨⟨i, h1, h2, rfl⟩ | ⟨h1, rfl⟩, hb⟩ := h
 · exact ⟨hb, _, rfl, Or.inl ⟨i, h1, h2, rfl⟩⟩
 · exact ⟨hb, _, rfl, Or.inr ⟨h1, rfl⟩⟩
def PlcIs (L : List ClassR) (c n : Nm) (r : Int) : Prop := (∃ i : Nat, placeF L c n = some i ∧ i < (slotsF L c).length ∧ r = i) ∨ (placeF L c n = none ∧ r = -1)
theorem plc_of {L : List ClassR} {c n : Nm} {x : FS} {r : Int} (h : fieldOf L c n = some x) (hi : IdxIs (slotsF L c) (pHit x.1 x.2) r) : PlcIs L c n r := by
 have e : placeF L c n = (slotsF L c).findIdx? (pHit x.1 x.2) := by unfold placeF; rw [h]; rfl
 unfold PlcIs
 rw [e]
 exact hi
theorem at_calls (l : List ClassR) (L : List CP) (b : Nat) (c n : Nm) (w : World) (hW : WOk w b l L) (hc : c.length ≤ 1048576) :
   Calls Tryz.prog 40 #[.map (some b), .string ⟨⟨c⟩⟩, .string ⟨⟨n⟩⟩] w fun e w' => (∃ r, e = .returned (.int .i64 r) ∧ PlcIs (wl l) c n r) ∧ Below w.heap.size w w' := by
 have HFO := Hd (fof_calls l L b c n w hW hc)
 have HLS := Hd (fun W (hb : Below w.heap.size w W) => lslots_calls l L b c W (hW.below hb) hc)
 have hlen := slotsF_len hW.good c
 have HPO := Hd (fun x r h hi => @plc_of (wl l) c n x r h hi)
 have HPN := Hd (fun h => @placeF_none (wl l) c n h)
 clear hW
 go_enter Tryz.func40, Tryz.ntmps40
 go_wp2_with fail
 refine HFO.out.mono ?_
 rintro e w2 ⟨hb2, ⟨hn, rfl⟩ | ⟨x, f, hm, rfl⟩⟩
 · have HB2 := Hd hb2
   have HP := Hd (HPN.out hn)
   have hs2 := hb2.size
   clear hb2 hn
   unfold fieldV
   go_wp2_with fail
   go_ret
   exact ⟨⟨-1, rfl, Or.inr ⟨HP.out, rfl⟩⟩, HB2.out.alloc hs2 _⟩
 · have HB2 := Hd hb2
   have HM := Hd hm
   have hs2 := hb2.size
   have HB3 := Hd (hb2.alloc hs2 (.cells #[.string ⟨⟨f.nm⟩⟩, .string ⟨⟨f.ty⟩⟩] 157)).drew
   have HD3 := Hd (blk_new w2 w2.heap.size 157 #[.string ⟨⟨f.nm⟩⟩, .string ⟨⟨f.ty⟩⟩] rfl).drew
   clear hb2 hm
   unfold fieldV
   go_wp2_with fail
   go_region_with (first
     | (go_at_call 81; refine (HLS.out _ (by exact HB3.out)).mono ?_; rintro e w5 ⟨⟨v, rfl, ho⟩, hb5⟩; obtain ⟨a5, c5, rfl, hr5⟩ := ls_of_own ho; have hd5 := HD3.out.below hb5; have d0 := hd5.cell 0; have d1 := hd5.cell 1; have hdl := hd5.lt; have HR5 := Hd hr5; have HB5 := Hd (HB3.out.trans (hb5.mono HB3.out.size)); clear hd5 hr5 ho hb5)
     | (go_at_call 80; refine (indexLs (slotsF (wl l) c) (x, f) a5 c5 _ HR5.out (by omega)).mono ?_; intro e w6 hr; obtain ⟨hb6, r, rfl, hri⟩ := idx_open hr; have HB6 := Hd (HB5.out.trans (hb6.mono HB5.out.size)); have HRI := Hd hri; clear hr hb6 hri))
   all_goals
     go_wp2_with fail
     go_ret
     exact ⟨⟨r, rfl, HPO.out (x, f) r HM.out HRI.out⟩, HB6.out⟩
def PlcV (l : List ClassR) (c n : Nm) (v ev : Value) : Prop := (∃ z : Int, (z ≠ 0 ∧ (withErr l c ≠ 0 ∨ placeF (wl l) c n = none)) ∧ v = .int .i64 0 ∧ ev = errV z) ∨ (withErr l c = 0 ∧ ev = .nilIface ∧ ∃ i : Nat, placeF (wl l) c n = some i ∧ i < (slotsF (wl l) c).length ∧ v = .int .i64 i)
def PlcRes (l : List ClassR) (c n : Nm) (w : World) (e : Ending) (w' : World) : Prop := Below w.heap.size w w' ∧ ∃ v ev, e = .returned (.tuple #[v, ev]) ∧ PlcV l c n v ev
theorem place_calls (l : List ClassR) (ps : List CAddr) (a : Option Addr) (cap : Nat) (c n : Nm) (w : World) (hC : ClassesAt w a cap l ps) (hF : FormsAt w) (hB : ClsOk l) (hc : c.length ≤ 1048576) :
   Calls Tryz.prog 13 #[.slice a l.length cap, .string ⟨⟨c⟩⟩, .string ⟨⟨n⟩⟩] w (PlcRes l c n w) := by
 have HR := Hd (with_w l ps a cap c w hC hF hB hc)
 clear hC hF hB
 go_enter Tryz.func13, Tryz.ntmps13
 go_wp2_with fail
 refine HR.out.mono ?_
 rintro e w2 ⟨hb2, ⟨hne, rfl⟩ | ⟨h0, _, b, rfl, hw⟩⟩
 · have HB2 := Hd hb2
   have HNE := Hd hne
   have HPV := Hd (show PlcV l c n (.int .i64 0) (errV (withErr l c)) from Or.inl ⟨_, ⟨hne, Or.inl hne⟩, rfl, rfl⟩)
   clear hb2
   generalize withErr l c = m at *
   clear hne
   go_wp2_with fail
   go_ret2
   exact ⟨HB2.out, _, _, rfl, HPV.out⟩
 · have HB2 := Hd hb2
   have H0 := Hd h0
   have HT := Hd (at_calls l (wcp l ps) b c n w2 hw hc)
   clear hb2 h0 hw
   go_wp2_with fail
   refine HT.out.mono ?_
   rintro e w3 ⟨⟨r, rfl, ⟨i, hi, hil, rfl⟩ | ⟨hi, rfl⟩⟩, hb3⟩
   · have HB3 := Hd (bl_trans HB2.out hb3)
     have HPV := Hd (show PlcV l c n (.int .i64 i) .nilIface from Or.inr ⟨H0.out, rfl, i, hi, hil, rfl⟩)
     have hi0 : (0 : Int) ≤ (i : Int) := Int.natCast_nonneg _
     clear hb3 hi
     go_wp2_with fail
     go_ret2
     exact ⟨HB3.out, _, _, rfl, HPV.out⟩
   · have HB3 := Hd (bl_trans HB2.out hb3)
     have HPV := Hd (show PlcV l c n (.int .i64 0) (errV 3) from Or.inl ⟨3, ⟨by omega, Or.inr hi⟩, rfl, rfl⟩)
     clear hb3 hi
     go_wp2_with fail
     go_ret2
     exact ⟨HB3.out, _, _, rfl, HPV.out⟩
end Go.Proofs.YtfimajijegohmaaGreatDoor
