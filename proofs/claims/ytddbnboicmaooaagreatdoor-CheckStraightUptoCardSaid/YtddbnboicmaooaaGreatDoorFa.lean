import Derived.Test.YtddbnboicmaooaaGreatDoorSa
import Derived.Lib.AppendZerosOnto
namespace Go.Proofs.YtddbnboicmaooaaGreatDoor
set_option maxRecDepth 100000
set_option maxHeartbeats 16000000
set_option linter.unusedVariables false
set_option linter.unusedSimpArgs false
open Go.RowKit Go.Shelf Go.Lib
theorem grow_row {w : World} {n cap : Nat} (hn : n ≤ cap) (hc : cap ≤ maxLen) :
   (w.drew.alloc (.cells ((([] : List Value).toArray ++ Builtin.zeroCells #[.string ⟨#[]⟩] n) ++ Builtin.zeroCells #[.string ⟨#[]⟩] (cap - n)) 9)).ownsRow w.heap.size 9 1 (.slice (some ⟨w.heap.size, 0, none⟩) 0 cap) 0 [] := by
 refine ⟨by simp, Or.inr ⟨w.heap.size, cap, _, rfl, Nat.le_refl _, (MapKept.heap_alloc w.drew _).1, Nat.zero_le _, hc, ?_, by simp⟩⟩
 have hz : ∀ k, (Builtin.zeroCells #[.string ⟨#[]⟩] k).size = k := fun k => by simp [Builtin.zeroCells]
 simp only [Array.size_append, hz, List.size_toArray, List.length_nil]
 omega
def GrowRes (w : World) (e : Ending) (w' : World) : Prop := ∃ v, e = .returned v ∧ w'.ownsRow w.heap.size 9 1 v 0 [] ∧ Below w.heap.size w w'
theorem grow_calls (n : Nat) (w : World) (hn : n ≤ 1000000) : Calls Tryz.prog 151 #[.slice none 0 0, .int .i64 n] w (GrowRes w) := by
 have h1 : ¬ ((n : Int) < 0) := by omega
 have h3 : wrap64 ((n : Int) - 0) = (n : Int) := by unfold wrap64; omega
 rcases Nat.eq_zero_or_pos n with rfl | hp
 · go_enter Tryz.func151, Tryz.ntmps151
   go_wp2_with fail
   go_ret
   exact ⟨_, rfl, ⟨rfl, Or.inl ⟨rfl, rfl⟩⟩, Below.refl _ _⟩
 · have h4 : (n : Int) > 0 := by omega
   obtain ⟨i0, z, hi0, hz0, hsz, hby, _⟩ := rowStr.info
   have hzc : z = .string ⟨#[]⟩ := by
     have : (Tryz.prog.info? 9).map (·.zero) = some (some (.string ⟨#[]⟩)) := by kernel_rfl
     rw [hi0, Option.map_some, hz0] at this
     simpa using this
   subst hzc
   have hold : (Builtin.firstCells i0.size 0 (.slice none 0 0)).run Tryz.prog w.drew = .ok ([] : List Value).toArray w.drew := run_firstCells_none w.drew i0.size 0 0 0
   have hrz : ∀ ty, (Builtin.append_ #[35, 3] ty #[.slice none 0 0, .int .i64 (n : Int)]).run Tryz.prog w =
       .ok (.slice (some ⟨w.heap.size, 0, none⟩) n (grownCap w n 0 9)) (w.drew.alloc (.cells ((([] : List Value).toArray ++ Builtin.zeroCells #[.string ⟨#[]⟩] n) ++ Builtin.zeroCells #[.string ⟨#[]⟩] (grownCap w n 0 9 - n)) 9)) := fun ty => by
     have hg : Builtin.nextslicecap (0 + n) 0 * i0.bytes ≤ 281474976710656 := growslice_fits (by omega) (by rw [hby]; omega)
     have h := Lib.run_append_grow_zeros w 35 3 ty 9 i0 (.string ⟨#[]⟩) .i64 .i64 (by kernel_rfl) (by kernel_rfl) hi0 hz0 none 0 0 [] hold n hp (by rw [hsz]; decide) (by omega) (by omega)
       (by rw [hby]; omega) hg
     rw [Nat.zero_add] at h
     exact h
   have hGn : n ≤ grownCap w n 0 9 := grownCap_ge w _ _ _
   have hGm : grownCap w n 0 9 ≤ maxLen := grownCap_le_maxLen w n 0 _ (by unfold maxLen; omega)
   generalize grownCap w n 0 9 = G at *
   have HR := Hd (grow_row (w := w) hGn hGm)
   have HB := Hd (((Below.refl w.heap.size w).drew).alloc (Nat.le_refl _) (.cells ((([] : List Value).toArray ++ Builtin.zeroCells #[.string ⟨#[]⟩] n) ++ Builtin.zeroCells #[.string ⟨#[]⟩] (G - n)) 9))
   have hG63 : G ≤ 9223372036854775807 := by unfold maxLen at hGm; omega
   clear hold hGm
   generalize hww : (w.drew.alloc (.cells ((([] : List Value).toArray ++ Builtin.zeroCells #[.string ⟨#[]⟩] n) ++ Builtin.zeroCells #[.string ⟨#[]⟩] (G - n)) 9)) = ww at *
   go_enter Tryz.func151, Tryz.ntmps151
   go_wp2_with (at_builtin; refine Lib.wpList_append_run _ rfl _ _ _ _ rfl _ _ rfl rfl _ _ (hrz _) ?_)
   go_ret
   exact ⟨_, rfl, HR.out, HB.out⟩
def ConRes (A B : List Nm) (w : World) (e : Ending) (w' : World) : Prop := ∃ v, e = .returned v ∧ w'.ownsRow w.heap.size 9 1 v (A.length + B.length) ((A ++ B).map strV) ∧ Below w.heap.size w w'
theorem own_grown_below {W w w' : World} {e : TypeId} {v : Value} {n : Nat} {xs : List Value} (hb : Below w.heap.size w W) (hown : W.ownsRow w.heap.size e 1 v n xs) (hg : W.grownBy w' v.ownBlock) : Below w.heap.size w w' := hb.grown hg hb.size (fun k hk => (hown.lt k hk).1)
theorem concat_calls (A B : List Nm) (a b : Option Addr) (ca cb g : Nat) (w : World) (hA : SRow w a ca A) (hB : SRow w b cb B) (hg : g < w.heap.size) (h0 : w.cell? ⟨g, 0, none⟩ = some (.slice a A.length ca)) (h1 : w.cell? ⟨g, 1, none⟩ = some (.slice b B.length cb)) (ha : A.length ≤ 100000) (hb : B.length ≤ 100000) :
   Calls Tryz.prog 85 #[.slice (some ⟨g, 0, none⟩) 2 2] w (ConRes A B w) := by
 have HA := Hd (fun W (hW : Below w.heap.size w W) => src_of_strs (hA.below hW))
 have HB := Hd (fun W (hW : Below w.heap.size w W) => src_of_strs (hB.below hW))
 have HC := Hd (fun W (hW : Below w.heap.size w W) => (show g < W.heap.size ∧ W.cell? ⟨g, 0, none⟩ = some (.slice a A.length ca) ∧ W.cell? ⟨g, 1, none⟩ = some (.slice b B.length cb) from ⟨Nat.lt_of_lt_of_le hg hW.size, (hW.cell (p := ⟨g, 0, none⟩) hg).trans h0, (hW.cell (p := ⟨g, 1, none⟩) hg).trans h1⟩))
 have HG := Hd (grow_calls (A.length + B.length) w (by omega))
 clear hA hB
 have w1 : wrap64 ((0 : Int) + (A.length : Int)) = (A.length : Int) := by unfold wrap64; omega
 have w2 : wrap64 ((A.length : Int) + (B.length : Int)) = ((A.length + B.length : Nat) : Int) := by unfold wrap64; omega
 have n1 : ¬ ((A.length : Int) < 0) := by omega
 have n2 : ¬ (((A.length + B.length : Nat) : Int) < 0) := by omega
 go_enter Tryz.func85, Tryz.ntmps85
 go_wp2_with fail
 go_loopw [3, 11] (fun s i wr => w = wr ∧ ((i = .int .i64 0 ∧ s = .int .i64 0) ∨ (i = .int .i64 1 ∧ s = .int .i64 (A.length : Int)) ∨ (i = .int .i64 2 ∧ s = .int .i64 ((A.length + B.length : Nat) : Int)))) (fun _ i _ => 2 - (RowKit.intOf i).toNat)
 case atStart => exact ⟨rfl, Or.inl ⟨rfl, rfl⟩⟩
 case round =>
   obtain ⟨rfl, ⟨rfl, rfl⟩ | ⟨rfl, rfl⟩ | ⟨rfl, rfl⟩⟩ := hrel
   · go_wp2_with fail
     go_roundw
     case rel => exact ⟨trivial, Or.inr (Or.inl ⟨by go_num, by go_num⟩)⟩
     case measure => simp [RowKit.intOf]
   · go_wp2_with fail
     go_roundw
     case rel => exact ⟨trivial, Or.inr (Or.inr ⟨by go_num, by go_num⟩)⟩
     case measure => simp [RowKit.intOf]
   · go_wp2_with fail
     refine HG.out.mono ?_
     rintro e w3 ⟨v3, rfl, ho3, hb3⟩
     have HB3 := Hd hb3
     clear HG hb3 h0 h1
     have HO3 := Hd ho3
     clear ho3
     go_wp2_with fail
     go_loopw [6, 27] (fun v i wr => Below w.heap.size w wr ∧ ((i = .int .i64 0 ∧ wr.ownsRow w.heap.size 9 1 v 0 []) ∨ (i = .int .i64 1 ∧ wr.ownsRow w.heap.size 9 1 v A.length (A.map strV)) ∨ (i = .int .i64 2 ∧ wr.ownsRow w.heap.size 9 1 v (A.length + B.length) ((A ++ B).map strV)))) (fun _ i _ => 2 - (RowKit.intOf i).toNat)
     case atStart => exact ⟨HB3.out, Or.inl ⟨rfl, HO3.out⟩⟩
     case round =>
       obtain ⟨hb4, ⟨rfl, ho4⟩ | ⟨rfl, ho4⟩ | ⟨rfl, ho4⟩⟩ := hrel
       · have HB4 := Hd hb4
         obtain ⟨hlt, c0, c1⟩ := HC.out _ hb4
         have HO4 := Hd ho4
         clear ho4 hb4
         go_wp2_with (at_builtin; refine wpList_append_src0 rowStr rfl _ _ rfl w.heap.size _ 0 [] rfl HO4.out _ A.length (A.map strV) rfl (HA.out _ HB4.out) (by omega) (by omega) HB4.out.size ?_)
         intro v5 w5 ho5 hg5
         have HB5 := Hd (own_grown_below HB4.out HO4.out hg5)
         have HO5 := Hd ho5
         clear hg5 ho5
         go_wp2_with fail
         go_roundw
         case rel => exact ⟨HB5.out, Or.inr (Or.inl ⟨by go_num, HO5.out⟩)⟩
         case measure => simp [RowKit.intOf]
       · have HB4 := Hd hb4
         obtain ⟨hlt, c0, c1⟩ := HC.out _ hb4
         have HO4 := Hd ho4
         clear ho4 hb4
         go_wp2_with (at_builtin; refine wpList_append_src0 rowStr rfl _ _ rfl w.heap.size _ A.length (A.map strV) rfl HO4.out _ B.length (B.map strV) rfl (HB.out _ HB4.out) (by omega) (by omega) HB4.out.size ?_)
         intro v5 w5 ho5 hg5
         have HB5 := Hd (own_grown_below HB4.out HO4.out hg5)
         have HO5 := Hd ho5
         clear hg5 ho5
         go_wp2_with fail
         go_roundw
         case rel => exact ⟨HB5.out, Or.inr (Or.inr ⟨by go_num, by have := HO5.out; rw [List.map_append]; exact this⟩)⟩
         case measure => simp [RowKit.intOf]
       · have HB4 := Hd hb4
         have HO4 := Hd ho4
         clear ho4 hb4
         go_wp2_with fail
         go_ret
         exact ⟨_, rfl, HO4.out, HB4.out⟩
structure FAddr where
 la : Option Addr
 lc : Nat
 sa : Option Addr
 sc : Nat
def frV (f : FrR) (p : FAddr) : Value := .agg #[.slice p.la f.loc.length p.lc, .slice p.sa f.st.length p.sc]
def FrAt (W : World) (f : FrR) (p : FAddr) : Prop := SRow W p.la p.lc f.loc ∧ SRow W p.sa p.sc f.st
theorem FrAt.below {w w' : World} {f : FrR} {p : FAddr} (h : FrAt w f p) (hb : Below w.heap.size w w') : FrAt w' f p := ⟨h.1.below hb, h.2.below hb⟩
def FrB (f : FrR) : Prop := ∀ x ∈ f.loc ++ f.st, x.length ≤ 8388608
def ChkRes (err : Int) (w : World) (e : Ending) (w' : World) : Prop := e = .returned (errOf err) ∧ Below w.heap.size w w'
theorem fcheck_calls (l : List ClassR) (L : List CP) (b : Nat) (f : FrR) (p : FAddr) (w : World) (hW : WOk w b l L) (hf : FrAt w f p) (hB : FrB f) :
   Calls Tryz.prog 42 #[.map (some b), frV f p] w (ChkRes (chkErr (wl l) f) w) := by
 have HW := Hd hW
 have HFB := Hd hB
 obtain ⟨hf1, hf2⟩ := hf
 have HF1 := Hd hf1
 have HF2 := Hd hf2
 obtain ⟨A, B⟩ := f
 obtain ⟨la, lc, sa, sc⟩ := p
 dsimp only at *
 clear hW hB hf1 hf2
 unfold frV
 dsimp only
 by_cases h1 : 8 < A.length
 · have HE := Hd (show chkErr (wl l) ⟨A, B⟩ = 4 from by unfold chkErr; rw [if_pos (Or.inl h1)])
   rw [HE.out]
   have h1' : (A.length : Int) > 8 := by omega
   go_enter Tryz.func42, Tryz.ntmps42
   go_wp2_with fail
   go_ret
   exact ⟨rfl, (Below.refl _ _).alloc (Nat.le_refl _) _⟩
 have h1' : ¬ ((A.length : Int) > 8) := by omega
 by_cases h2 : 8 < B.length
 · have HE := Hd (show chkErr (wl l) ⟨A, B⟩ = 4 from by unfold chkErr; rw [if_pos (Or.inr h2)])
   rw [HE.out]
   have h2' : (B.length : Int) > 8 := by omega
   go_enter Tryz.func42, Tryz.ntmps42
   go_wp2_with fail
   go_ret
   exact ⟨rfl, (Below.refl _ _).alloc (Nat.le_refl _) _⟩
 have h2' : ¬ ((B.length : Int) > 8) := by omega
 have HE := Hd (show chkErr (wl l) ⟨A, B⟩ = kindsErr (wl l) (A ++ B) from by unfold chkErr; rw [if_neg (by simp only; omega)])
 rw [HE.out]
 have hla : A.length ≤ 8 := by omega
 have hlb : B.length ≤ 8 := by omega
 clear h1 h2
 go_enter Tryz.func42, Tryz.ntmps42
 go_wp2_with fail
 have hbA : Below w.heap.size w (w.alloc (Obj.cells #[Value.slice la A.length lc, Value.slice sa B.length sc] 67)) := (Below.refl _ _).alloc (Nat.le_refl _) _
 have hbB := bl_alloc hbA (Obj.cells #[Value.slice la A.length lc, Value.slice sa B.length sc] 35)
 have hd := blk_new (w.alloc (Obj.cells #[Value.slice la A.length lc, Value.slice sa B.length sc] 67)) (w.heap.size + 1) 35 #[Value.slice la A.length lc, Value.slice sa B.length sc] (by simp)
 refine (concat_calls A B la sa lc sc _ _ (HF1.out.below hbB) (HF2.out.below hbB) hd.lt (hd.cell 0) (hd.cell 1) (by omega) (by omega)).mono ?_
 rintro e w2 ⟨v2, rfl, ho2, hb2⟩
 have HB2 := Hd (bl_trans hbB hb2)
 rw [← List.length_append] at ho2
 obtain ⟨ra, rc, rfl, hr⟩ := srow_of_own ho2
 have HR := Hd hr
 have hlab : (A ++ B).length ≤ 16 := by simp; omega
 clear hbA hbB hd ho2 hb2 hr HF1 HF2 hla hlb h1' h2' HE
 unfold FrB at HFB
 dsimp only at HFB
 generalize A ++ B = C at *
 go_wp2_with fail
 go_loopw [26] (fun i wr => ∃ k : Nat, k ≤ C.length ∧ i = .int .i64 k ∧ Below w.heap.size w wr ∧ Below w2.heap.size w2 wr ∧ Hid (∀ y ∈ C.take k, kindErr (wl l) y = 0)) (fun i _ => C.length - (RowKit.intOf i).toNat)
 case atStart => exact ⟨0, by omega, rfl, HB2.out, Below.refl _ _, Hd (by simp)⟩
 case round =>
   obtain ⟨k, hk, rfl, hb3, hb23, HK⟩ := hrel
   have HB3 := Hd hb3
   have HB23 := Hd hb23
   by_cases hlk : k < C.length
   · obtain ⟨z, hz⟩ : ∃ z, C[k]? = some z := ⟨_, List.getElem?_eq_getElem hlk⟩
     obtain ⟨b1, off, rfl, hlt, c0⟩ := strs_cell (HR.out.below hb23) hz
     have hj0 : (0 : Int) ≤ (k : Int) := Int.natCast_nonneg _
     have hji : (k : Int) < (C.length : Int) := by omega
     have HKC := Hd (kind_calls l L b z _ (HW.out.below hb3) (HFB.out z (List.mem_of_getElem? hz)))
     have HZ := Hd hz
     clear hb3 hb23 hz
     go_wp2_with fail
     refine HKC.out.mono ?_
     rintro e w4 ⟨rfl, hb4⟩
     have HB4 := Hd (bl_trans HB3.out hb4)
     have HB24 := Hd (bl_trans HB23.out hb4)
     clear hb4
     by_cases hz0 : kindErr (wl l) z = 0
     · have HK2 := Hd (take_all_succ (P := fun y => kindErr (wl l) y = 0) HK.out HZ.out hz0)
       rw [hz0, errOf_zero]
       clear hz0
       go_wp2_with fail
       go_roundw
       case rel => exact ⟨k + 1, by omega, by go_num, HB4.out, HB24.out, HK2⟩
       case measure => simp [RowKit.intOf]; omega
     · have HE := Hd (kindsErr_at HK.out HZ.out hz0)
       rw [errOf_ne hz0]
       have HNZ := Hd hz0
       generalize kindErr (wl l) z = q at *
       clear hz0
       go_wp2_with fail
       go_ret
       exact ⟨by rw [HE.out, errOf_ne HNZ.out]; rfl, HB4.out⟩
   · obtain rfl : k = C.length := by omega
     have HE := Hd (show kindsErr (wl l) C = 0 from kindsErr_zero.2 (by have := HK.out; rwa [List.take_length] at this))
     go_wp2_with fail
     go_ret
     exact ⟨by rw [HE.out, errOf_zero]; rfl, HB3.out⟩
theorem equal_any (X Y : List Nm) (a a' : Option Addr) (c c' : Nat) (w : World) (h : SRow w a c X) (h' : SRow w a' c' Y) (hl : X.length ≤ 1000000) :
   Calls Tryz.prog 195 #[.slice a X.length c, .slice a' Y.length c'] w fun e w' => e = .returned (.bool (decide (X = Y))) ∧ Below w.heap.size w w' := by
 by_cases hlen : X.length = Y.length
 · by_cases h0 : X = []
   · subst h0
     have hY : Y = [] := List.eq_nil_of_length_eq_zero (by rw [← hlen]; rfl)
     subst hY
     refine (Tryz.slices_Equal_string_empty a a' c 0 c' w (by omega)).mono ?_
     rintro e w' ⟨rfl, rfl⟩
     exact ⟨rfl, Below.refl _ _⟩
   · have hY0 : Y ≠ [] := fun e => h0 (List.eq_nil_of_length_eq_zero (by rw [hlen, e]; rfl))
     obtain ⟨_, e1 | ⟨b, o, rfl, _, hc⟩⟩ := h
     · exact absurd e1 h0
     obtain ⟨_, e1 | ⟨b', o', rfl, _, hc'⟩⟩ := h'
     · exact absurd e1 hY0
     have hg : ∀ (Z : List Nm) j, j < (Z.map (fun x => (⟨⟨x⟩⟩ : ByteArray))).length → ∃ x, Z[j]? = some x ∧ (Z.map (fun x => (⟨⟨x⟩⟩ : ByteArray))).getD j ByteArray.empty = ⟨⟨x⟩⟩ := fun Z j hj => by
       rw [List.length_map] at hj
       refine ⟨Z[j], List.getElem?_eq_getElem hj, ?_⟩
       simp [List.getD, hj]
     refine (Tryz.slices_Equal_string b o X.length c b' o' Y.length c' (X.map (fun x => (⟨⟨x⟩⟩ : ByteArray))) (Y.map (fun x => (⟨⟨x⟩⟩ : ByteArray))) w (by simp) (by simp) (by omega) (by omega) ?_ ?_).mono ?_
     · intro j hj
       obtain ⟨x, hx, e⟩ := hg X j hj
       rw [e]; exact hc j x hx
     · intro j hj
       obtain ⟨x, hx, e⟩ := hg Y j hj
       rw [e]; exact hc' j x hx
     · rintro e w' ⟨rfl, q, rfl⟩
       refine ⟨?_, below_dn (Below.refl _ _) q⟩
       have hinj : ∀ {A B : List Nm}, A.map (fun x => (⟨⟨x⟩⟩ : ByteArray)) = B.map (fun x => (⟨⟨x⟩⟩ : ByteArray)) → A = B := by
         intro A
         induction A with
         | nil => intro B h; cases B with | nil => rfl | cons y B => cases h
         | cons x A ih =>
           intro B h
           cases B with
           | nil => cases h
           | cons y B =>
             simp only [List.map_cons, List.cons.injEq] at h
             have h1 : x = y := by have := h.1; simpa using this
             rw [h1, ih h.2]
       have t1 : (X.map (fun x => (⟨⟨x⟩⟩ : ByteArray))).take X.length = X.map (fun x => (⟨⟨x⟩⟩ : ByteArray)) := List.take_of_length_le (by simp)
       have t2 : (Y.map (fun x => (⟨⟨x⟩⟩ : ByteArray))).take Y.length = Y.map (fun x => (⟨⟨x⟩⟩ : ByteArray)) := List.take_of_length_le (by simp)
       rw [t1, t2]
       congr 2
       exact decide_eq_decide.2 ⟨hinj, fun e => by rw [e]⟩
 · have hne : X ≠ Y := fun e => hlen (by rw [e])
   rw [decide_eq_false hne]
   refine (Tryz.slices_Equal_string_lens a a' X.length c Y.length c' w hlen).mono ?_
   rintro e w' ⟨rfl, rfl⟩
   exact ⟨rfl, Below.refl _ _⟩
noncomputable def sameB (f g : FrR) : Bool := decide (f.loc = g.loc) && decide (f.st = g.st)
theorem sameB_true {f g : FrR} : sameB f g = true ↔ f = g := by
 obtain ⟨a, b⟩ := f
 obtain ⟨c, d⟩ := g
 simp [sameB]
theorem same_any (f g : FrR) (p q : FAddr) (w : World) (hp : FrAt w f p) (hq : FrAt w g q) (h1 : f.loc.length ≤ 100000) (h2 : f.st.length ≤ 100000) :
   Calls Tryz.prog 138 #[frV f p, frV g q] w fun e w' => e = .returned (.bool (sameB f g)) ∧ Below w.heap.size w w' := by
 have HE1 := Hd (fun W (hW : Below w.heap.size w W) => equal_any f.loc g.loc p.la q.la p.lc q.lc W (hp.1.below hW) (hq.1.below hW) (by omega))
 have HE2 := Hd (fun W (hW : Below w.heap.size w W) => equal_any f.st g.st p.sa q.sa p.sc q.sc W (hp.2.below hW) (hq.2.below hW) (by omega))
 have HBB := Hd (fun o1 o2 => bl_alloc (bl_alloc (Below.refl w.heap.size w) o1) o2)
 clear hp hq
 unfold frV sameB
 generalize decide (f.loc = g.loc) = d1 at *
 generalize decide (f.st = g.st) = d2 at *
 have HD0 := Hd ((blk_new w w.heap.size 67 #[.slice p.la f.loc.length p.lc, .slice p.sa f.st.length p.sc] rfl).below ((Below.refl _ _).alloc (Nat.le_refl _) (.cells #[.slice q.la g.loc.length q.lc, .slice q.sa g.st.length q.sc] 67)))
 have HD1 := Hd (blk_new (w.alloc (.cells #[.slice p.la f.loc.length p.lc, .slice p.sa f.st.length p.sc] 67)) (w.heap.size + 1) 67 #[.slice q.la g.loc.length q.lc, .slice q.sa g.st.length q.sc] (by simp))
 go_enter Tryz.func138, Tryz.ntmps138
 go_wp2_with fail
 refine (HE1.out _ (HBB.out _ _)).mono ?_
 rintro e w2 ⟨rfl, hb2⟩
 have HB2 := Hd (bl_trans (HBB.out _ _) hb2)
 have e1 := (HD0.out.below hb2).cell 1
 have e2 := (HD0.out.below hb2).lt
 have e3 := (HD1.out.below hb2).cell 1
 have e4 := (HD1.out.below hb2).lt
 clear hb2
 cases d1 with
 | true =>
   go_wp2_with fail
   refine (HE2.out _ HB2.out).mono ?_
   rintro e w3 ⟨rfl, hb3⟩
   have HB3 := Hd (bl_trans HB2.out hb3)
   clear hb3
   go_wp2_with fail
   go_ret
   exact ⟨by simp, HB3.out⟩
 | false =>
   go_wp2_with fail
   go_ret
   exact ⟨by simp, HB2.out⟩
end Go.Proofs.YtddbnboicmaooaaGreatDoor
