import Derived.Test.YtddbnboicmaooaaGreatDoorCe
namespace Go.Proofs.YtddbnboicmaooaaGreatDoor
set_option maxRecDepth 100000
set_option maxHeartbeats 16000000
set_option linter.unusedVariables false
set_option linter.unusedSimpArgs false
def oneC (m : MethR) : ClassR := ⟨[65], objN, [], false, [], [m]⟩
theorem hs_skip {L : List ClassR} {cF : HandR → FrR → Option FrR} {z : Nat} {f : FrR} : ∀ {hs : List HandR} {s : LkSt}, (∀ h ∈ hs, (z : Int) < h.lo ∨ h.hi ≤ (z : Int)) → hsF L cF z f hs s = some s
 | [], _, _ => rfl
 | h :: r, s, hh => by
   unfold hsF
   rw [if_pos (hh h (by simp))]
   exact hs_skip fun x hx => hh x (by simp [hx])
theorem lk_next {L : List ClassR} {c : Nm} {m : MethR} {z : Nat} {fr : Int → Option FrR} {r : List Nat} {f out : FrR} {x : InsR} (hf : fr (z : Int) = some f) (hh : ∀ h ∈ m.hs, (z : Int) < h.lo ∨ h.hi ≤ (z : Int)) (hx : m.code[z]? = some x)
   (ha : afterF L c (givesL m) x f = some out) (hn : aft m.code z = [z + 1]) (h0 : fr ((z + 1 : Nat) : Int) = none) : lkFn L c m z ⟨fr, r⟩ = some ⟨updF fr ((z + 1 : Nat) : Int) out, r ++ [z + 1]⟩ := by
 unfold lkFn lookF
 rw [show (LkSt.mk fr r).fr (z : Int) = some f from hf]
 simp only [Option.elim_some]
 rw [hs_skip hh]
 simp only [Option.elim_some, hx, ha, hn, nxF]
 rw [meetF_new (s := ⟨fr, r⟩) (z := z + 1) h0]
 rfl
theorem lk_end {L : List ClassR} {c : Nm} {m : MethR} {z : Nat} {fr : Int → Option FrR} {r : List Nat} {f out : FrR} {x : InsR} (hf : fr (z : Int) = some f) (hh : ∀ h ∈ m.hs, (z : Int) < h.lo ∨ h.hi ≤ (z : Int)) (hx : m.code[z]? = some x)
   (ha : afterF L c (givesL m) x f = some out) (hn : aft m.code z = []) : lkFn L c m z ⟨fr, r⟩ = some ⟨fr, r⟩ := by
 unfold lkFn lookF
 rw [show (LkSt.mk fr r).fr (z : Int) = some f from hf]
 simp only [Option.elim_some]
 rw [hs_skip hh]
 simp only [Option.elim_some, hx, ha, hn, nxF]
def idM (t : Nm) : MethR := ⟨[105, 100], 40 :: (t ++ 41 :: t), true, false, false, 1, [⟨4, 0, 0, [], [], []⟩, ⟨27, 0, 0, [], [], []⟩], []⟩
def ChkAt (L : List ClassR) (c : Nm) (m : MethR) (z : Nat) (f : FrR) : Prop :=
 ∃ fr : Int → Option FrR, resF L m.code.length (lkFn L c m) ⟨fr, [z]⟩ ≠ none ∧ LkOk L m.code.length ⟨fr, [z]⟩ ∧ fr (z : Int) = some f ∧ ∀ y : Int, (z : Int) < y → fr y = none
theorem chk_step {L : List ClassR} {c : Nm} {m : MethR} (hh : m.hs = []) {z : Nat} {fr : Int → Option FrR} {f : FrR} {x : InsR} (hne : resF L m.code.length (lkFn L c m) ⟨fr, [z]⟩ ≠ none) (hf : fr (z : Int) = some f) (hx : m.code[z]? = some x) : ∃ out, afterF L c (givesL m) x f = some out := by
 cases ha : afterF L c (givesL m) x f with
 | some out => exact ⟨out, rfl⟩
 | none =>
   exfalso
   refine hne (res_none (z := z) (r := []) rfl ?_)
   unfold lkFn lookF
   rw [show (LkSt.mk fr []).fr (z : Int) = some f from hf]
   simp only [Option.elim_some]
   rw [hs_skip (by rw [hh]; simp)]
   simp only [Option.elim_some, hx, ha, Option.elim_none]
def mainN : Nm := [109, 97, 105, 110]
def main9 : Nm := [77, 97, 105, 110, 57]
def topI (c a b : Nm) (k : Int) : List InsR := [⟨15, 0, 0, [], c, []⟩, ⟨5, 0, 0, [], [], []⟩, ⟨4, 0, 0, [], [], []⟩, ⟨2, k, 0, [73], [], []⟩, ⟨17, 0, 0, [], c, a⟩, ⟨4, 0, 0, [], [], []⟩, ⟨16, 0, 0, [], c, b⟩, ⟨27, 0, 0, [], [], []⟩]
def topM (c a b : Nm) (k : Int) : MethR := ⟨mainN, [40, 41, 73], true, false, false, 8, topI c a b k, []⟩
def topC (c a b : Nm) (k : Int) : ClassR := ⟨main9, objN, [], false, [], [topM c a b k]⟩
open Go.RowKit Go.Shelf Go.Lib
noncomputable def mapsUp (fr : Int → Option FrR) (n : Nat) : List (Nat × FrR) := (List.range n).filterMap fun (i : Nat) => (fr (i : Int)).map fun f => (i, f)
theorem mapsUp_none {fr : Int → Option FrR} {k : Nat} (h : fr (k : Int) = none) : mapsUp fr (k + 1) = mapsUp fr k := by
 unfold mapsUp; rw [List.range_succ, List.filterMap_append]; simp [h]
theorem mapsUp_some {fr : Int → Option FrR} {k : Nat} {f : FrR} (h : fr (k : Int) = some f) : mapsUp fr (k + 1) = mapsUp fr k ++ [(k, f)] := by
 unfold mapsUp; rw [List.range_succ, List.filterMap_append]; simp [h]
theorem mapsUp_len (fr : Int → Option FrR) : ∀ n, (mapsUp fr n).length ≤ n
 | 0 => by simp [mapsUp]
 | n + 1 => by
   have := mapsUp_len fr n
   cases h : fr (n : Int) with
   | none => rw [mapsUp_none h]; omega
   | some f => rw [mapsUp_some h]; simp; omega
def mpCells (x : Nat × FrR) (q : FAddr) : List Value := [.int .i64 x.1, .slice q.la x.2.loc.length q.lc, .slice q.sa x.2.st.length q.sc]
def MpAt (W : World) (B D : Nat) (v : Value) (L : List (Nat × FrR)) : Prop := ∃ qs : List FAddr, qs.length = L.length ∧ W.ownsRow B 69 3 v L.length (List.zipWith mpCells L qs).flatten ∧
 ∀ (k : Nat) (x : Nat × FrR) (q : FAddr), L[k]? = some x → qs[k]? = some q → FrAt W x.2 q ∧ FarF D D v x.2 q
theorem mp_nil (W : World) (B D : Nat) : MpAt W B D (.slice none 0 0) [] := ⟨[], rfl, World.ownsRow_nil _ _ _ _, fun k x q h => by simp at h⟩
theorem MpAt.below {W W' : World} {B D : Nat} {v : Value} {L : List (Nat × FrR)} (h : MpAt W B D v L) (hb : Below W.heap.size W W') : MpAt W' B D v L := by
 obtain ⟨qs, h1, h2, h3⟩ := h
 exact ⟨qs, h1, own_below h2 hb, fun k x q hx hq => ⟨(h3 k x q hx hq).1.below hb, (h3 k x q hx hq).2⟩⟩
theorem MpAt.form {W : World} {B D : Nat} {v : Value} {L : List (Nat × FrR)} (h : MpAt W B D v L) : ∃ a cap, v = .slice a L.length cap ∧ L.length ≤ cap := by
 obtain ⟨qs, h1, h2, h3⟩ := h
 exact slice_of_own h2
theorem zip_snoc {α β γ : Type} {f : α → β → γ} : ∀ {A : List α} {B : List β} {x : α} {y : β}, A.length = B.length → List.zipWith f (A ++ [x]) (B ++ [y]) = List.zipWith f A B ++ [f x y]
 | [], [], x, y, _ => rfl
 | a :: A, b :: B, x, y, h => by
   simp only [List.cons_append, List.zipWith_cons_cons]
   rw [zip_snoc (by simpa using h)]
 | [], _ :: _, _, _, h => by simp at h
 | _ :: _, [], _, _, h => by simp at h
theorem MpAt.snoc {W W' : World} {B D : Nat} {v v' : Value} {L : List (Nat × FrR)} {x : Nat × FrR} {q : FAddr} {qs : List FAddr} (h1 : qs.length = L.length) (h3 : ∀ (k : Nat) (x : Nat × FrR) (q : FAddr), L[k]? = some x → qs[k]? = some q → FrAt W x.2 q ∧ FarF D D v x.2 q)
   (ho : W'.ownsRow B 69 3 v' (L.length + 1) ((List.zipWith mpCells L qs).flatten ++ mpCells x q)) (hg : W.grownBy W' v.ownBlock) (hv : VUp W v v') (hf : FrAt W x.2 q) (hfar : FarF D D v x.2 q) : MpAt W' B D v' (L ++ [x]) := by
 have hkb : KbR D D v W W' := ⟨hg.os, hg.tape, hg.output, hg.size, fun k hk _ _ n3 => hg.block k hk (fun e => n3 e.symm)⟩
 refine ⟨qs ++ [q], by simp [h1], ?_, fun k y r hy hr => ?_⟩
 · rw [zip_snoc h1.symm, List.flatten_append, List.length_append]
   simpa using ho
 · rcases Nat.lt_or_ge k L.length with hl | hl
   · rw [List.getElem?_append_left hl] at hy
     rw [List.getElem?_append_left (by omega)] at hr
     obtain ⟨h5, h6⟩ := h3 k y r hy hr
     exact ⟨h6.keep h5 hkb, h6.up h5 hv⟩
   · have hk : k = L.length := by
       have := (List.getElem?_eq_some_iff.1 hy).1
       simp at this; omega
     subst hk
     rw [List.getElem?_append_right (Nat.le_refl _)] at hy
     rw [List.getElem?_append_right (by omega), h1] at hr
     simp only [Nat.sub_self, List.getElem?_cons_zero, Option.some.injEq] at hy hr
     subst hy
     subst hr
     exact ⟨hfar.keep hf hkb, hfar.up hf hv⟩
theorem cmethod_exact (l : List ClassR) (ps : List CAddr) (a : Option Addr) (cap : Nat) (c : Nm) (z : Int) (w : World) (hC : ClassesAt w a cap l ps) (hF : FormsAt w) (hB : ClsOk l) (hT : TyB l) (hc : c.length ≤ 1048576) :
   Calls Tryz.prog 15 #[.slice a l.length cap, .string ⟨⟨c⟩⟩, .int .i64 z] w fun e w' => Below w.heap.size w w' ∧ ((mtErr l c z ≠ 0 ∧ ∃ v, e = .returned (.tuple #[v, errV (mtErr l c z)])) ∨
     ∃ d m fr v B D, namErr l c z = 0 ∧ d ∈ l ∧ l.find? (hasAt c z) = some d ∧ d.meths[z.toNat]? = some m ∧ m.abst = false ∧ lookedF (wl l) c m = some fr ∧ (∀ z f, fr z = some f → KOk (wl l) f ∧ 0 ≤ z ∧ z < (m.code.length : Int)) ∧ e = .returned (.tuple #[v, .nilIface]) ∧ MpAt w' B D v (mapsUp fr m.code.length) ∧ w.heap.size ≤ B) := by
 have HN := Hd (named_calls l ps a cap c z w hC hF hB)
 have HT := Hd hT
 clear hC hF hB hT
 go_enter Tryz.func15, Tryz.ntmps15
 go_wp2_with fail
 refine HN.out.mono ?_
 rintro e w2 ⟨hb2, ⟨hne, rfl⟩ | ⟨b, d, m, q, hne, hdl, hfd, hm, hab, rfl, hw, hma⟩⟩
 · have HB2 := Hd hb2
   have HE := Hd (show mtErr l c z = namErr l c z by unfold mtErr; rw [if_pos hne])
   have HNE := Hd hne
   generalize namErr l c z = ne at *
   have HB3 := Hd (fun o => bl_alloc HB2.out o)
   clear hb2 hne
   unfold methV
   go_wp2_with fail
   go_ret2
   exact ⟨HB3.out _, Or.inl ⟨by rw [HE.out]; exact HNE.out, .slice none 0 0, by rw [HE.out]; rfl⟩⟩
 · have HB2 := Hd hb2
   have HW := Hd hw
   have HMA := Hd hma
   have hmm := List.mem_of_getElem? hm
   have HMO := Hd (good_mok hw.good hdl hmm hab)
   have htb := HT.out hw.good d hdl m hmm
   have hcl := HMO.out.flow.len
   have HE0 := Hd (show mtErr l c z = if (lookedF (wl l) c m).isNone = true then 7 else 0 by unfold mtErr; rw [if_neg (by simp [hne]), hfd]; simp only [Option.elim_some]; rw [hm]; rfl)
   obtain ⟨w3, hw3⟩ : ∃ w3, w3 = w2.alloc (.cells (mArr m q) 45) := ⟨_, rfl⟩
   have hb3 : Below w2.heap.size w2 w3 := by rw [hw3]; exact bl_alloc (Below.refl _ _) _
   have HM3 := Hd (show Blk w3 w2.heap.size 45 (mArr m q) by rw [hw3]; exact blk_new _ _ _ _ rfl)
   have HB3 := Hd (bl_trans HB2.out hb3)
   have HND := Hd (show namErr l c z = 0 ∧ d ∈ l ∧ l.find? (hasAt c z) = some d ∧ d.meths[z.toNat]? = some m ∧ m.abst = false from ⟨hne, hdl, hfd, hm, hab⟩)
   have HLD := Hd (looked_calls l (wcp l ps) b c m q w3 (hw.below hb3) (hma.below hb3) HMO.out hc htb.1 htb.2 (flow_pos HMO.out.flow))
   have HW3 := Hd (hw.below hb3)
   rw [methV_arr] at *
   unfold mArr at hw3 HLD ⊢
   clear hb2 hw hma hmm hdl hfd hm hab hne hb3 htb
   go_upto_region 2 with fail
   rw [← hw3]
   clear hw3
   obtain ⟨g0, g1, g2, g3, g4, g5, g6, g7⟩ := mblk_cells HM3.out
   have g8 := HM3.out.lt
   go_wp2_with fail
   refine HLD.out.mono ?_
   rintro e w5 ⟨hb5, ⟨hno, rfl⟩ | ⟨fr, MB, hfr, rfl, hfs, hko⟩⟩
   · have HB5 := Hd (bl_trans HB3.out hb5)
     have HE := Hd (show mtErr l c z = 7 by rw [HE0.out, hno]; rfl)
     clear hb5 hno g0 g1 g2 g3 g4 g5 g6 g7 g8
     go_wp2_with fail
     go_ret2
     exact ⟨HB5.out, Or.inl ⟨by rw [HE.out]; omega, .slice none 0 0, by rw [HE.out]; rfl⟩⟩
   · have HB5 := Hd (bl_trans HB3.out hb5)
     have HFR := Hd hfr
     have hmb : w2.heap.size < w5.heap.size := Nat.lt_of_lt_of_le HM3.out.lt hb5.size
     have HM5 := Hd (HM3.out.below hb5)
     have HW5 := Hd (HW3.out.below hb5)
     have HFS := Hd hfs
     have HKO := Hd hko
     have hs5 := hb5.size
     clear hb5 hfr hfs hko g0 g1 g2 g3 g4 g5 g6 g7 g8
     have g6 := (mblk_cells HM5.out).2.2.2.2.2.2.1
     have g8 := HM5.out.lt
     go_wp2_with fail
     clear g6 g8
     go_loopw [13, 43] (fun v i wr => ∃ k : Nat, k ≤ m.code.length ∧ i = .int .i64 k ∧ Below w5.heap.size w5 wr ∧ MpAt wr w5.heap.size w2.heap.size v (mapsUp fr k)) (fun _ i _ => m.code.length - (RowKit.intOf i).toNat)
     case atStart => exact ⟨0, by omega, rfl, Below.refl _ _, mp_nil _ _ _⟩
     case round =>
       obtain ⟨k, hk, rfl, hb, ho⟩ := hrel
       obtain ⟨av, cv, rfl, _⟩ := ho.form
       have hnk := mapsUp_len fr k
       have HBr := Hd hb
       have HO := Hd ho
       have HFr := Hd (HFS.out.below hb)
       have hsr := hb.size
       clear ho hb
       by_cases hlk : k < m.code.length
       · obtain ⟨nI, F, hI, hFF⟩ := HFr.out
         have hFk := hFF (k : Int)
         cases hfk : fr (k : Int) with
         | none =>
           rw [hfk] at hFk
           have hlkp := IMap.look_none (P := Tryz.prog) (w := wr) (k := 3) (t := 106) (e := 67) Tryz.underlying3 Tryz.underlying106 hI (wf_nat k (by omega)) hFk (zero_frame _) true
           simp only [if_true] at hlkp
           have HB9 := Hd (fun o => bl_alloc HBr.out o)
           have HO9 := Hd (fun o => (show MpAt (wr.alloc o) w5.heap.size w2.heap.size (.slice av (mapsUp fr k).length cv) (mapsUp fr (k + 1)) by rw [mapsUp_none hfk]; exact HO.out.below (bl_alloc (Below.refl _ _) _)))
           clear hI hFF hFk hfk
           go_wp2_with fail
           go_roundw
           case rel => exact ⟨k + 1, by omega, by go_num, HB9.out _, HO9.out _⟩
           case measure => simp [RowKit.intOf]; omega
         | some f =>
           rw [hfk] at hFk
           obtain ⟨qf, hqv, hqf⟩ := hFk
           have hkf := (HKO.out _ _ hfk).1
           have hlkp := IMap.look_some (P := Tryz.prog) (w := wr) (k := 3) (t := 106) (e := 67) Tryz.underlying3 Tryz.underlying106 hI (wf_nat k (by omega)) hqv true
           simp only [if_true] at hlkp
           unfold frV at hlkp
           obtain ⟨w6, hw6⟩ : ∃ w6, w6 = wr.alloc (.cells #[.slice qf.la f.loc.length qf.lc, .slice qf.sa f.st.length qf.sc] 67) := ⟨_, rfl⟩
           have hb6 : Below wr.heap.size wr w6 := by rw [hw6]; exact bl_alloc (Below.refl _ _) _
           have HT6 := Hd (show Blk w6 wr.heap.size 67 #[.slice qf.la f.loc.length qf.lc, .slice qf.sa f.st.length qf.sc] by rw [hw6]; exact blk_new _ _ _ _ rfl)
           have HB6 := Hd (bl_trans HBr.out hb6)
           have HO6 := Hd (HO.out.below hb6)
           have HSH := Hd (show sameSh f f from ⟨rfl, rfl⟩)
           have HJS := Hd (joinF_self (l := l) hkf)
           have HUP := Hd (mapsUp_some hfk)
           have HBO := Hd ((both_callsN l (wcp l ps) b f f qf qf w6 (HW5.out.below HB6.out) (hqf.below hb6) (hqf.below hb6) hkf.chk hkf.chk).mono (fun e w' h => bothres h))
           unfold frV at HBO
           clear hI hFF hfk hqv hqf hkf hb6
           go_upto_region 12 with fail
           rw [← hw6]
           clear hw6 hlkp
           have t0 := HT6.out.cell 0
           have t1 := HT6.out.cell 1
           have t2 := HT6.out.lt
           go_wp2_with fail
           refine HBO.out.mono ?_
           rintro e w7 ⟨ga, gb, n1, gc1, n2, gc2, is, rfl, hb7, ⟨_, hno⟩ | ⟨_, _, rfl, rfl, hga, hgn⟩⟩
           · exact absurd HSH.out hno
           rw [HJS.out] at *
           have HB7 := Hd (bl_trans HB6.out hb7)
           have HO7 := Hd (HO6.out.below hb7)
           have hs6 := HB6.out.size
           have HGA := Hd (fun o => (hga.below (bl_alloc (Below.refl _ _) o) : FrAt (w7.alloc o) f ⟨ga, gc1, gb, gc2⟩))
           have HB8 := Hd (fun o => bl_alloc HB7.out o)
           have HO8 := Hd (fun o => HO7.out.below (bl_alloc (Below.refl _ _) o))
           have HGN := Hd hgn
           obtain ⟨qs, hq1, hq2, hq3⟩ := HO8.out (.cells #[.slice ga f.loc.length gc1, .slice gb f.st.length gc2] 67)
           have HQ1 := Hd hq1
           have HQ2 := Hd hq2
           have HQ3 := Hd hq3
           clear hq1 hq2 hq3 hga hgn
           clear hb7 t0 t1 t2
           unfold slc
           go_wp2_with (at_builtin; refine wpList_append_one_lies rowMap rfl _ _ rfl w5.heap.size _ (mapsUp fr k).length (List.zipWith mpCells (mapsUp fr k) qs).flatten rfl ?c0 (mpCells (k, f) ⟨ga, gc1, gb, gc2⟩) rfl ?c1 _ rfl ?cg ?c2 ?c3 ?c4 ?_)
           case c0 => exact HQ2.out
           case c1 =>
             intro u hu
             simp only [mpCells, List.mem_cons, List.not_mem_nil, or_false] at hu
             rcases hu with rfl | rfl | rfl <;> rfl
           case cg => first | rfl | simp
           case c2 => omega
           case c3 => omega
           case c4 => exact (HB8.out _).size
           intro k9 c9 w9 ho9 hg9 hlie
           have hvl : ∀ y, (Value.slice av (mapsUp fr k).length cv).ownBlock = some y → y < w6.heap.size := fun y hy => by
             obtain ⟨_, _, h, _⟩ := HO6.out
             exact (h.lt y hy).2
           have hd6 : w2.heap.size < w6.heap.size := by have := HB6.out.size; omega
           have HMP := Hd (show MpAt w9 w5.heap.size w2.heap.size (.slice (some ⟨k9, 0, none⟩) ((mapsUp fr k).length + 1) c9) (mapsUp fr (k + 1)) by
             rw [HUP.out]
             refine MpAt.snoc (x := (k, f)) (q := ⟨ga, gc1, gb, gc2⟩) HQ1.out (fun i x q hx hq => ⟨(HQ3.out i x q hx hq).1.below (bl_alloc (Below.refl _ _) _), (HQ3.out i x q hx hq).2⟩) ho9 hg9 ?_ ((HGA.out _).below (bl_alloc (Below.refl _ _) _)) (FarF.new (n := w6.heap.size) hd6 hd6 hvl HGN.out)
             rcases hlie with h | h
             · exact Or.inl h.symm
             · exact Or.inr (fun y hy => by cases hy; first | omega | (simp; omega) | (simp at h ⊢; omega)))
           have HB9 := Hd ((HB8.out (.cells #[.slice ga f.loc.length gc1, .slice gb f.st.length gc2] 67)).trans (grown_below (HB8.out _).size HQ2.out hg9))
           clear ho9 hg9 hlie
           go_wp2_with fail
           go_roundw
           case rel => exact ⟨k + 1, by omega, by go_num, HB9.out, HMP.out⟩
           case measure => simp [RowKit.intOf]; omega
       · obtain rfl : k = m.code.length := by omega
         have HB9 := Hd (bl_trans HB5.out HBr.out)
         go_wp2_with fail
         go_ret2
         exact ⟨HB9.out, Or.inr ⟨d, m, fr, _, w5.heap.size, w2.heap.size, HND.out.1, HND.out.2.1, HND.out.2.2.1, HND.out.2.2.2.1, HND.out.2.2.2.2, HFR.out, HKO.out, rfl, HO.out, HB5.out.size⟩⟩
structure MapsIn (w : World) (a : Option Addr) (cap : Nat) (L : List (Nat × FrR)) (qs : List FAddr) : Prop where
 len : qs.length = L.length
 rows : RowsAt w 3 a cap (List.zipWith mpCells L qs)
 frs : ∀ (k : Nat) (x : Nat × FrR) (q : FAddr), L[k]? = some x → qs[k]? = some q → FrAt w x.2 q
theorem MapsIn.below {w w' : World} {a : Option Addr} {cap : Nat} {L : List (Nat × FrR)} {qs : List FAddr} (h : MapsIn w a cap L qs) (hb : Below w.heap.size w w') : MapsIn w' a cap L qs := ⟨h.len, h.rows.below hb, fun k x q h1 h2 => (h.frs k x q h1 h2).below hb⟩
theorem MapsIn.cells {w : World} {a : Option Addr} {cap : Nat} {L : List (Nat × FrR)} {qs : List FAddr} (h : MapsIn w a cap L qs) {k : Nat} {x : Nat × FrR} (hx : L[k]? = some x) : ∃ b off q, a = some ⟨b, off, none⟩ ∧ b < w.heap.size ∧ qs[k]? = some q ∧ FrAt w x.2 q ∧
   w.cell? ⟨b, off + k * 3, none⟩ = some (.int .i64 x.1) ∧ w.cell? ⟨b, off + k * 3 + 1, none⟩ = some (.slice q.la x.2.loc.length q.lc) ∧ w.cell? ⟨b, off + k * 3 + 2, none⟩ = some (.slice q.sa x.2.st.length q.sc) := by
 obtain ⟨hl, hr, hm⟩ := h
 obtain ⟨hk, _⟩ := List.getElem?_eq_some_iff.1 hx
 obtain ⟨q, hq⟩ : ∃ q, qs[k]? = some q := ⟨_, List.getElem?_eq_getElem (by omega)⟩
 have hz : (List.zipWith mpCells L qs)[k]? = some (mpCells x q) := by rw [List.getElem?_zipWith, hx, hq]
 obtain ⟨_, h2 | ⟨b, off, rfl, hlt, hc⟩⟩ := hr
 · rw [h2] at hz; simp at hz
 · have hh := hc k _ hz
   exact ⟨b, off, q, rfl, hlt, hq, hm k x q hx hq, hh 0 _ rfl, hh 1 _ rfl, hh 2 _ rfl⟩
structure StrAt (L : List ClassR) (c : Nm) (m : MethR) (fr : Int → Option FrR) (e : Nat) : Prop where
 lt : e < m.code.length
 has : ∀ z : Nat, z ≤ e → ∃ f, fr z = some f
 no : ∀ y : Int, (e : Int) < y → fr y = none
 step : ∀ (z : Nat) f x, z ≤ e → fr z = some f → m.code[z]? = some x → ∃ out, afterF L c (givesL m) x f = some out ∧ (z < e → fr ((z + 1 : Nat) : Int) = some out)
theorem aft_straight {m : MethR} {z : Nat} {x : InsR} (hx : m.code[z]? = some x) (hj : jumpsB x.op = false) : aft m.code z = if endsB x.op then [] else [z + 1] := by
 unfold aft
 rw [hx]
 simp [hj]
theorem last_ends {m : MethR} (h : endOk m.code = true) {z : Nat} {x : InsR} (hx : m.code[z]? = some x) (hz : z + 1 = m.code.length) : endsB x.op = true := by
 unfold endOk at h
 have : m.code.getLast? = some x := by
   rw [List.getLast?_eq_getElem?, ← hz]; simpa using hx
 rw [this] at h
 exact h
theorem str_from {l : List ClassR} (hg : Good l) {c : Nm} {m : MethR} (hm : MOk m) (hh : m.hs = []) (hj : ∀ x ∈ m.code, jumpsB x.op = false) {res : Int → Option FrR} :
   ∀ (n z : Nat) (fr : Int → Option FrR), m.code.length - z = n → z < m.code.length → resF (wl l) m.code.length (lkFn (wl l) c m) ⟨fr, [z]⟩ = some res → LkOk (wl l) m.code.length ⟨fr, [z]⟩ →
     (∀ y : Nat, y ≤ z → ∃ f, fr y = some f) → (∀ y : Int, (z : Int) < y → fr y = none) →
     (∀ (y : Nat) f x, y < z → fr y = some f → m.code[y]? = some x → ∃ out, afterF (wl l) c (givesL m) x f = some out ∧ fr ((y + 1 : Nat) : Int) = some out) → ∃ e, StrAt (wl l) c m res e := by
 intro n
 induction n with
 | zero => intro z fr h1 h2; omega
 | succ n ih =>
   intro z fr hn hz hr hok h1 h2 h3
   obtain ⟨f, hf⟩ := h1 z (Nat.le_refl _)
   obtain ⟨x, hx⟩ : ∃ x, m.code[z]? = some x := ⟨_, List.getElem?_eq_getElem hz⟩
   have hxj := hj x (List.mem_of_getElem? hx)
   obtain ⟨out, ho⟩ := chk_step hh (by rw [hr]; simp) hf hx
   have ha := aft_straight hx hxj
   cases he : endsB x.op with
   | true =>
     rw [he] at ha
     simp only [if_true] at ha
     have e := lk_end (c := c) (L := wl l) (r := []) hf (by rw [hh]; simp) hx ho ha
     obtain ⟨e1, _, _⟩ := res_some (lk_step (c := c) hg hm) hok (z := z) (r := []) rfl e
     rw [e1, res_nil rfl] at hr
     simp only [Option.some.injEq] at hr
     subst hr
     refine ⟨z, hz, h1, h2, fun y g x' hy hgy hx' => ?_⟩
     rcases Nat.lt_or_ge y z with hl | hl
     · obtain ⟨o, ho1, ho2⟩ := h3 y g x' hl hgy hx'
       exact ⟨o, ho1, fun _ => ho2⟩
     · obtain rfl : y = z := by omega
       rw [hf] at hgy
       rw [hx] at hx'
       cases hgy; cases hx'
       exact ⟨out, ho, fun h => by omega⟩
   | false =>
     rw [he] at ha
     simp only [Bool.false_eq_true, if_false] at ha
     have hz1 : z + 1 < m.code.length := by
       apply Nat.lt_of_le_of_ne (by omega)
       intro e
       have := last_ends hm.flow.last hx e
       rw [he] at this; cases this
     have e := lk_next (r := []) hf (by rw [hh]; simp) hx ho ha (h2 _ (by omega))
     obtain ⟨e1, o1, _⟩ := res_some (lk_step (c := c) hg hm) hok (z := z) (r := []) rfl e
     rw [e1] at hr
     refine ih (z + 1) (updF fr ((z + 1 : Nat) : Int) out) (by omega) hz1 (by simpa using hr) (by simpa using o1) (fun y hy => ?_) (fun y hy => ?_) (fun y g x' hy hgy hx' => ?_)
     · rcases Nat.lt_or_ge z y with hl | hl
       · obtain rfl : y = z + 1 := by omega
         exact ⟨out, updF_same _ _ _⟩
       · rw [updF_other _ _ _ (by omega)]
         exact h1 y hl
     · rw [updF_other _ _ _ (by omega)]
       exact h2 y (by omega)
     · rw [updF_other _ _ _ (by omega)] at hgy
       rcases Nat.lt_or_ge y z with hl | hl
       · rw [updF_other _ _ _ (by omega)]
         exact h3 y g x' hl hgy hx'
       · obtain rfl : y = z := by omega
         rw [hf] at hgy
         rw [hx] at hx'
         cases hgy; cases hx'
         exact ⟨out, ho, updF_same _ _ _⟩
theorem straight_frames {l : List ClassR} (hg : Good l) {c : Nm} {m : MethR} (hm : MOk m) (hh : m.hs = []) (hj : ∀ x ∈ m.code, jumpsB x.op = false) {res : Int → Option FrR} (h : lookedF (wl l) c m = some res) : ∃ e, StrAt (wl l) c m res e := by
 have hn : 0 < m.code.length := flow_pos hm.flow
 unfold lookedF at h
 split at h
 · cases h
 rename_i h1
 split at h
 · cases h
 refine str_from hg hm hh hj m.code.length 0 (updF (fun _ => none) 0 (firstF c m)) (by omega) hn h (start_ok (first_kok hm (by simpa using h1)) hn) (fun y hy => ?_) (fun y hy => updF_other _ _ _ (by omega)) (fun y f x hy => by omega)
 obtain rfl : y = 0 := by omega
 exact ⟨_, updF_same _ _ _⟩
theorem mapsUp_str {fr : Int → Option FrR} {e n : Nat} (hs : ∀ z : Nat, z ≤ e → ∃ f, fr z = some f) (hn : ∀ y : Int, (e : Int) < y → fr y = none) (h : e < n) : (mapsUp fr n).length = e + 1 ∧ ∀ (k : Nat) (x : Nat × FrR), (mapsUp fr n)[k]? = some x → x.1 = k ∧ fr (k : Int) = some x.2 ∧ k ≤ e := by
 have key : ∀ n, (mapsUp fr n).length = min n (e + 1) ∧ ∀ (k : Nat) (x : Nat × FrR), (mapsUp fr n)[k]? = some x → x.1 = k ∧ fr (k : Int) = some x.2 ∧ k ≤ e := by
   intro n
   induction n with
   | zero => exact ⟨by simp [mapsUp], fun k x hx => by simp [mapsUp] at hx⟩
   | succ n ih =>
     obtain ⟨ih1, ih2⟩ := ih
     by_cases he : n ≤ e
     · obtain ⟨f, hf⟩ := hs n he
       rw [mapsUp_some hf]
       refine ⟨by simp; omega, fun k x hx => ?_⟩
       rcases Nat.lt_or_ge k (mapsUp fr n).length with hl | hl
       · rw [List.getElem?_append_left hl] at hx
         exact ih2 k x hx
       · have hk : k = n := by
           have := (List.getElem?_eq_some_iff.1 hx).1
           simp at this; omega
         subst hk
         rw [List.getElem?_append_right hl, show k - (mapsUp fr k).length = 0 by omega] at hx
         simp only [List.getElem?_cons_zero, Option.some.injEq] at hx
         subst hx
         exact ⟨rfl, hf, he⟩
     · rw [mapsUp_none (hn n (by omega))]
       exact ⟨by omega, ih2⟩
 obtain ⟨k1, k2⟩ := key n
 exact ⟨by omega, k2⟩
end Go.Proofs.YtddbnboicmaooaaGreatDoor
