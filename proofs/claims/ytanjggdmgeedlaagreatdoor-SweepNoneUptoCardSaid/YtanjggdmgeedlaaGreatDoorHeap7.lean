/-
  The walk of heap.Copy.
-/
import Derived.Test.YtanjggdmgeedlaaGreatDoorHeap6
namespace Go.Proofs.YtanjggdmgeedlaaGreatDoor
set_option linter.unusedVariables false
set_option linter.unusedSimpArgs false
open Go.RowKit Go.Shelf Go.Lib

/-- things in a row of the call's own, what they have in rows of their own -/
def thsL (X : List ThingR) (qs : List HA) : List Value := (List.zipWith thCells X qs).flatten
structure OwnT (w : World) (B : Nat) (v : Value) (X : List ThingR) (qs : List HA) : Prop where
  len : qs.length = X.length
  row : w.ownsRow B 33 2 v X.length (thsL X qs)
  has : ∀ (k : Nat) (x : ThingR) (q : HA), X[k]? = some x → qs[k]? = some q → OwnV w B x.has q
theorem OwnT.below {w w' : World} {B : Nat} {v : Value} {X : List ThingR} {qs : List HA} (h : OwnT w B v X qs) (hb : Below w.heap.size w w') : OwnT w' B v X qs :=
  ⟨h.len, own_below h.row hb, fun k x q h1 h2 => own_below (h.has k x q h1 h2) hb⟩
theorem thsL_snoc {X : List ThingR} {qs : List HA} (h : qs.length = X.length) (x : ThingR) (q : HA) : thsL (X ++ [x]) (qs ++ [q]) = thsL X qs ++ thCells x q := by
  unfold thsL
  rw [List.zipWith_append h.symm]
  simp
theorem th_one (x : ThingR) (q : HA) : ∀ u ∈ thCells x q, u.oneCell' = true := by
  intro u hu
  simp only [thCells, List.mem_cons, List.mem_nil_iff, or_false] at hu
  rcases hu with rfl | rfl <;> rfl
theorem OwnT.at {w : World} {B : Nat} {v : Value} {X : List ThingR} {qs : List HA} (h : OwnT w B v X qs) : ∃ a cap, v = .slice a X.length cap ∧ ThingsAt w a cap X qs := by
  have hz : (List.zipWith thCells X qs).length = X.length := by rw [List.length_zipWith, h.len, Nat.min_self]
  have h' : w.ownsRow B 33 2 v (List.zipWith thCells X qs).length (List.zipWith thCells X qs).flatten := by rw [hz]; exact h.row
  obtain ⟨a, cap, h1, h2⟩ := rows_of_own h' (by
    intro c hc
    obtain ⟨j, hj⟩ := List.getElem?_of_mem hc
    rw [List.getElem?_zipWith] at hj
    split at hj
    · simp at hj; rw [← hj]; rfl
    · cases hj)
  exact ⟨a, cap, by rw [h1, hz], h.len, h2, fun k x q hx hq => (h.has k x q hx hq).at⟩
/-- one more thing behind them: the append's world -/
theorem OwnT.more {w w' : World} {B : Nat} {v v' : Value} {X : List ThingR} {qs : List HA} (h : OwnT w B v X qs) {x : ThingR} {q : HA} (hx : OwnV w B x.has q) (hg : w.grownBy w' v.ownBlock) (hr : w'.ownsRow B 33 2 v' (X.length + 1) (thsL X qs ++ thCells x q)) : OwnT w' B v' (X ++ [x]) (qs ++ [q]) := by
  have keep : ∀ {l : List ValR} {p : HA}, OwnV w B l p → OwnV w' B l p := fun {l p} hp => own_keep hp (fun g hgb => by
    have hne := own_apart hp h.row (by decide) hgb
    rcases hp.2 with ⟨hv, _⟩ | ⟨k, _, _, hv, _, hk, _⟩
    · rw [hv] at hgb; cases hgb
    · rw [hv] at hgb
      simp only [Value.ownBlock, Option.some.injEq] at hgb
      subst hgb
      exact hg.block k (Array.getElem?_eq_some_iff.1 hk).1 (fun e => hne e.symm))
  refine ⟨by simp [h.len], by rw [thsL_snoc h.len]; simpa using hr, fun k y p hy hp => ?_⟩
  by_cases hk : k < X.length
  · rw [List.getElem?_append_left hk] at hy
    rw [List.getElem?_append_left (by rw [h.len]; exact hk)] at hp
    exact keep (h.has k y p hy hp)
  · rw [List.getElem?_append_right (by omega)] at hy
    rw [List.getElem?_append_right (by rw [h.len]; omega), h.len] at hp
    obtain ⟨hk2, _⟩ := List.getElem?_eq_some_iff.1 hy
    have : k - X.length = 0 := by simp at hk2; omega
    rw [this] at hy hp
    simp at hy hp
    subst hy hp
    exact keep hx
theorem OwnT.set {w : World} {B : Nat} {v : Value} {X : List ThingR} {qs : List HA} (h : OwnT w B v X qs) {g j : Nat} (u : Value) (hg : g < B) : OwnT (w.setCell ⟨g, j, none⟩ u) B v X qs :=
  ⟨h.len, own_set h.row (fun e => by have := (h.row.lt _ e).1; omega) u, fun k x q hx hp => own_set (h.has k x q hx hp) (fun e => by have := ((h.has k x q hx hp).lt _ e).1; omega) u⟩
theorem OwnT.down {w : World} {B B' : Nat} {v : Value} {X : List ThingR} {qs : List HA} (h : OwnT w B v X qs) (hB : B' ≤ B) : OwnT w B' v X qs := ⟨h.len, own_down h.row hB, fun k x q hx hp => own_down (h.has k x q hx hp) hB⟩
theorem blk_ne {w : World} {K g j : Nat} {T : TypeId} {cs : Array Value} (h : Blk w K T cs) (hne : K ≠ g) (u : Value) : Blk (w.setCell ⟨g, j, none⟩ u) K T cs := gb_blk (gb_set (gb_refl w g) j u) h hne

/-- the load of the row so far, by name -/
def ldTh : Oper := { dst := some 14, op := Op.load 23 (Operand.tmp 13), type := 23, pos := "heap.go:107", after := #[{ on := 0, ground := Ground.data }], guard := none }
theorem ldTh_op : ldTh.op = Op.load 23 (Operand.tmp 13) := rfl
theorem ldTh_dst : ldTh.dst = some 14 := rfl
theorem ldTh_guard : ldTh.guard = none := rfl

set_option maxRecDepth 100000 in
set_option maxHeartbeats 8000000 in
theorem copy_calls (X : List ThingR) (ps : List HA) (a : Option Addr) (cap : Nat) (w : World) (hT : ThingsAt w a cap X ps) (h50 : X.length ≤ 50) (hB : HpB X) (h10 : ∀ x ∈ X, x.has.length ≤ 1000) :
    Calls Tryz.prog 30 #[.agg #[.slice a X.length cap]] w fun e w' => ∃ v qs, e = .returned (.agg #[v]) ∧ OwnT w' w.heap.size v X qs ∧ Below w.heap.size w w' := by
  obtain ⟨W0, hW0⟩ : ∃ W0 : World, W0 = ((w.alloc (.cells #[.slice a X.length cap] 25)).alloc (.cells #[.slice none 0 0] 25)).alloc (.cells #[.slice none 0 0] 25) := ⟨_, rfl⟩
  have HBW := Lib.hid (show Below w.heap.size w W0 by subst hW0; exact bl_alloc (bl_alloc (bl_alloc (Below.refl _ _) _) _) _)
  have HD2 := Lib.hid (show Blk W0 (w.heap.size + 1) 25 #[.slice none 0 0] by
    subst hW0
    exact (blk_new _ _ _ _ (by simp)).alloc _)
  have HD3 := Lib.hid (show Blk W0 (w.heap.size + 1 + 1) 25 #[.slice none 0 0] by
    subst hW0
    exact blk_new _ _ _ _ (by simp))
  have hs0 : W0.heap.size = w.heap.size + 1 + 1 + 1 := by subst hW0; simp
  have HT := Lib.hid hT
  have H10 := Lib.hid h10
  clear hT hB h10
  go_enter Tryz.func30, Tryz.ntmps30
  go_wp2_with fail
  rw [← hW0]
  clear hW0
  go_loopw [9] (fun i wr => ∃ k : Nat, k ≤ X.length ∧ i = .int .i64 k ∧ W0.grownBy wr (some (w.heap.size + 1 + 1)) ∧ ∃ v qs, Blk wr (w.heap.size + 1 + 1) 25 #[v] ∧ OwnT wr W0.heap.size v (X.take k) qs) (fun i _ => X.length - (RowKit.intOf i).toNat)
  case atStart => exact ⟨0, by omega, rfl, gb_refl _ _, _, [], HD3.out, ⟨rfl, ⟨rfl, Or.inl ⟨rfl, rfl⟩⟩, fun k x q hx => by simp at hx⟩⟩
  case round =>
    obtain ⟨k, hk, rfl, hg, v, qs, hv, ho⟩ := hrel
    have hbw := gb_to_below HBW.out hg (by omega)
    by_cases hlk : k < X.length
    · obtain ⟨x, hx⟩ : ∃ x, X[k]? = some x := ⟨_, List.getElem?_eq_getElem hlk⟩
      obtain ⟨b2, off, p, hae, hlt, _, hhas, c0, c1⟩ := (HT.out.below hbw).cells hx
      have HTK := Lib.hid (show X.take (k + 1) = X.take k ++ [x] by rw [List.take_add_one, hx]; rfl)
      have htl : (X.take k).length = k := by rw [List.length_take]; omega
      have HCL := Lib.hid (fun W (hw : Below wr.heap.size wr W) => vclone_calls x.has p W (hhas.below hw) (by have := H10.out x (List.mem_of_getElem? hx); omega))
      have HG := Lib.hid hg
      have HV := Lib.hid hv
      have HOW := Lib.hid ho
      have HBB := Lib.hid hbw
      rw [hae]
      clear hx hae hhas hg hv ho hbw
      have hal : Below wr.heap.size wr (wr.alloc (.cells #[.string ⟨⟨x.ty⟩⟩, .slice p.1 x.has.length p.2] 33)) := bl_alloc (Below.refl _ _) _
      have hK : Blk (wr.alloc (.cells #[.string ⟨⟨x.ty⟩⟩, .slice p.1 x.has.length p.2] 33)) wr.heap.size 33 #[.string ⟨⟨x.ty⟩⟩, .slice p.1 x.has.length p.2] := blk_new _ _ _ _ rfl
      have hg4' := gb_below HG.out hal
      have hv4' := HV.out.below hal
      have ho4' := HOW.out.below hal
      have hvK : v.ownBlock ≠ some wr.heap.size := fun e => by have := (HOW.out.row.lt _ e).2; omega
      have hKne : wr.heap.size ≠ w.heap.size + 1 + 1 := by have := HG.out.size; omega
      go_upto_region 5 with fail
      obtain ⟨w4, hw4⟩ : ∃ w4, w4 = wr.alloc (.cells #[.string ⟨⟨x.ty⟩⟩, .slice p.1 x.has.length p.2] 33) := ⟨_, rfl⟩
      rw [← hw4] at hal hK hg4' hv4' ho4' ⊢
      obtain ⟨K, hKe⟩ : ∃ K, K = wr.heap.size := ⟨_, rfl⟩
      rw [← hKe] at hK hvK hKne ⊢
      have HAL := Lib.hid hal
      have HK := Lib.hid hK
      have HG4 := Lib.hid hg4'
      have HV4 := Lib.hid hv4'
      have HO4 := Lib.hid ho4'
      have HKE := Lib.hid hKe
      have HS := Lib.hid (fun W' (hW' : Blk W' K 33 #[.string ⟨⟨x.ty⟩⟩, .slice p.1 x.has.length p.2]) => (show W'.cell? ⟨K, 0, none⟩ = some (.string ⟨⟨x.ty⟩⟩) ∧ W'.cell? ⟨K, 1, none⟩ = some (.slice p.1 x.has.length p.2) from ⟨hW'.cell 0, hW'.cell 1⟩))
      have HONE := Lib.hid (fun q => th_one x q)
      have g0 := hv4'.cell 0
      have gl := hv4'.lt
      clear hw4 hal hK hg4' hv4' ho4' hKe c0 c1 hlt
      rw [show ({ dst := some 14, op := Op.load 23 (Operand.tmp 13), type := 23, pos := "heap.go:107", after := #[{ on := 0, ground := Ground.data }], guard := none } : Oper) = ldTh from rfl]
      have q1 := ldTh_op
      have q2 := ldTh_dst
      have q3 := ldTh_guard
      go_region_held3 (fun W' => W'.cell? ⟨K, 0, none⟩ = some (.string ⟨⟨x.ty⟩⟩) ∧ W'.cell? ⟨K, 1, none⟩ = some (.slice p.1 x.has.length p.2))
        (first | (exact HS.out _ (by first | exact HK.out | exact HK.out.drew | exact hk5 | exact hk5.alloc _ | exact hk6 | exact blk_ne hk6 hKne _)))
        ((first
        | (go_at_call 59
           refine (HCL.out _ (Below.drew HAL.out)).mono ?_
           rintro e w5 ⟨q, rfl, hq5, hb5⟩
           have hb45 := bl_trans (Below.refl w4.heap.size w4).drew hb5
           have hg5 := gb_below HG4.out hb45
           have hv5 := HV4.out.below hb45
           have ho5 := HO4.out.below hb45
           have hk5 := HK.out.below hb45
           have hq5' := own_down hq5 (show W0.heap.size ≤ w4.drew.heap.size from HG4.out.size)
           have g5 := hv5.cell 0
           have gl5 := hv5.lt
           have gs5 := hg5.size
           have ho5r := ho5.row
           rw [htl] at ho5r)
        | (refine step_app rowThing rfl (.tmp 14) (.tmp 21) rfl W0.heap.size _ k (thsL (X.take k) qs) rfl ?_ _ 1 (thCells x q) rfl (Or.inr ?_) ?_ ?_ ?_ ?_
           · first | exact ho5r.alloc _ | exact (ho5r.alloc _).drew
           · first | exact one_src _ (thCells x q) _ 2 _ (by rfl) rfl (HONE.out q) | exact one_drew (one_src _ (thCells x q) _ 2 _ (by rfl) rfl (HONE.out q)) | exact one_src _ (thCells x q) _ 2 _ (by simp) rfl (HONE.out q)
           · omega
           · omega
           · first | (simp; omega) | omega
           intro v6 w6 ho6 hgr6 hv6
           have hg6 : W0.grownBy w6 (some (w.heap.size + 1 + 1)) := gb_grown (gb_alloc hg5 _) hgr6 hv6
           have hne6 : v.ownBlock ≠ some (w.heap.size + 1 + 1) := fun e => by have := hv6 _ e; omega
           have hbk6 := blk_grown (hv5.below ((Below.refl _ _).alloc (Nat.le_refl _) _)) hgr6 hne6
           have hk6 := blk_grown (hk5.below ((Below.refl _ _).alloc (Nat.le_refl _) _)) hgr6 hvK
           have g6 := hbk6.cell 0
           have gz6 := hbk6.frozen 0
           have gl6 := hbk6.lt
           have hot6 := OwnT.more (ho5.below ((Below.refl _ _).alloc (Nat.le_refl _) _)) (own_below hq5' ((Below.refl _ _).alloc (Nat.le_refl _) _)) hgr6 (by rw [htl]; exact ho6)
           obtain ⟨A6, C6, rfl, _⟩ := slice_of_own ho6)))
      all_goals
        have hg7 := Lib.hid (gb_set hg6 0 (.slice A6 (k + 1) C6))
        have hbk7 := Lib.hid (show Blk (w6.setCell ⟨w.heap.size + 1 + 1, 0, none⟩ (.slice A6 (k + 1) C6)) (w.heap.size + 1 + 1) 25 #[.slice A6 (k + 1) C6] from blk_set hbk6 0 (.slice A6 (k + 1) C6))
        have ho7 := Lib.hid (hot6.set (g := w.heap.size + 1 + 1) (j := 0) (.slice A6 (k + 1) C6) (by omega))
        generalize w6.setCell ⟨w.heap.size + 1 + 1, 0, none⟩ (.slice A6 (k + 1) C6) = w7 at *
        clear q1 q2 q3 hg5 hv5 ho5 hk5 hq5' hb45 g5 gl5 gs5 ho5r ho6 hgr6 hv6 hg6 hne6 hbk6 hk6 g6 gz6 gl6 hot6 HS g0 gl
        go_wp2_with fail
        go_roundw
        case rel => exact ⟨k + 1, by omega, by go_num, hg7.out, _, qs ++ [q], hbk7.out, by rw [HTK.out]; exact ho7.out⟩
        case measure => simp [RowKit.intOf]; omega
    · obtain rfl : k = X.length := by omega
      rw [List.take_length] at ho
      obtain ⟨A, C, rfl, _⟩ := slice_of_own ho.row
      have HE2 := Lib.hid (gb_blk hg HD2.out (by omega))
      have hss := hg.size
      have HOT := Lib.hid ho
      have HBB := Lib.hid hbw
      have e0 := hv.cell 0
      have e1 := hv.lt
      have e2 := HE2.out.cell 0
      have e3 := HE2.out.frozen 0
      have e4 := HE2.out.lt
      have HO9 := Lib.hid ((ho.set (g := w.heap.size + 1) (j := 0) (.slice A X.length C) (by omega)).down (show w.heap.size ≤ W0.heap.size by omega))
      have y0 := (blk_set HE2.out 0 (.slice A X.length C)).cell 0
      have HB9 := Lib.hid (hbw.setCell (p := ⟨w.heap.size + 1, 0, none⟩) (by show w.heap.size ≤ w.heap.size + 1; omega) (.slice A X.length C))
      clear ho hg hv hbw
      go_wp2_with fail
      exact bodyPost_ret (v := .agg #[.slice A X.length C]) (by simp [results, Tryz.results30, go_sem, y0]) rfl ⟨_, qs, rfl, HO9.out, HB9.out⟩
end Go.Proofs.YtanjggdmgeedlaaGreatDoor
