import Derived.Test.YtddbnboicmaooaaGreatDoorKb
namespace Go.Proofs.YtddbnboicmaooaaGreatDoor
set_option maxRecDepth 100000
set_option maxHeartbeats 16000000
set_option linter.unusedVariables false
set_option linter.unusedSimpArgs false
open Go.RowKit Go.Shelf Go.Lib
def unfitP : List PanicEntry := [{ v := .iface 166 (.agg #[]), recovered := false }]
structure StpAt (L : List ClassR) (w : World) (B c b : Nat) (fr gv : Nm) (f : FrR) (la : Option Addr) (lc : Nat) (sa : Option Addr) (sc : Nat) : Prop where
 blk : Blk w c 171 #[.map (some b), .string ⟨⟨fr⟩⟩, .string ⟨⟨gv⟩⟩, .slice la f.loc.length lc, .slice sa f.st.length sc]
 lo : w.ownsRow B 9 1 (.slice la f.loc.length lc) f.loc.length (f.loc.map strV)
 so : w.ownsRow B 9 1 (.slice sa f.st.length sc) f.st.length (f.st.map strV)
 ap : ∀ k, (Value.slice la f.loc.length lc).ownBlock = some k → (Value.slice sa f.st.length sc).ownBlock ≠ some k
 cB : B ≤ c
 kok : KOk L f
def Stp (L : List ClassR) (w : World) (B c b : Nat) (fr gv : Nm) (f : FrR) : Prop := ∃ la lc sa sc, StpAt L w B c b fr gv f la lc sa sc
theorem Stp.kok {L : List ClassR} {w : World} {B c b : Nat} {fr gv : Nm} {f : FrR} (h : Stp L w B c b fr gv f) : KOk L f := by obtain ⟨_, _, _, _, h⟩ := h; exact h.kok
theorem Stp.cB {L : List ClassR} {w : World} {B c b : Nat} {fr gv : Nm} {f : FrR} (h : Stp L w B c b fr gv f) : B ≤ c := by obtain ⟨_, _, _, _, h⟩ := h; exact h.cB
theorem Stp.below {L : List ClassR} {w w' : World} {B c b : Nat} {fr gv : Nm} {f : FrR} (h : Stp L w B c b fr gv f) (hb : Below w.heap.size w w') : Stp L w' B c b fr gv f := by
 obtain ⟨la, lc, sa, sc, h⟩ := h
 exact ⟨la, lc, sa, sc, h.blk.below hb, own_below h.lo hb, own_below h.so hb, h.ap, h.cB, h.kok⟩
theorem Stp.cell0 {L : List ClassR} {w : World} {B c b : Nat} {fr gv : Nm} {f : FrR} (h : Stp L w B c b fr gv f) : w.cell? ⟨c, 0, none⟩ = some (.map (some b)) := by obtain ⟨_, _, _, _, h⟩ := h; exact h.blk.cell 0
theorem Stp.lt {L : List ClassR} {w : World} {B c b : Nat} {fr gv : Nm} {f : FrR} (h : Stp L w B c b fr gv f) : c < w.heap.size := by obtain ⟨_, _, _, _, h⟩ := h; exact h.blk.lt
theorem rowOwn_init {w : World} {B : Nat} {e : TypeId} {a : Option Addr} {n cap : Nat} {xs : List Value} {x : Value} (h : w.ownsRow B e 1 (.slice a (n + 1) cap) (n + 1) (xs ++ [x])) : w.ownsRow B e 1 (.slice a n cap) n xs := by
 have hl : xs.length = n := by have := h.1; simp at this; omega
 refine ⟨by rw [hl]; omega, ?_⟩
 rcases h.2 with ⟨_, h0⟩ | ⟨g, cap', cur, hv, hB, hg, hle, hmx, hsz, htk⟩
 · omega
 · simp only [Value.slice.injEq] at hv
   obtain ⟨rfl, _, rfl⟩ := hv
   refine Or.inr ⟨g, cap, cur, rfl, hB, hg, by omega, hmx, hsz, ?_⟩
   have := congrArg (List.take (n * 1)) htk
   rw [List.take_take, Nat.min_eq_left (by omega)] at this
   rw [this, List.take_append_of_le_length (by omega), List.take_of_length_le (by omega)]
theorem rowOwn_at {w : World} {B : Nat} {e : TypeId} {a : Option Addr} {n cap : Nat} {xs : List Value} (h : w.ownsRow B e 1 (.slice a n cap) n xs) {j : Nat} {u : Value} (hj : xs[j]? = some u) : ∃ g, a = some ⟨g, 0, none⟩ ∧ g < w.heap.size ∧ B ≤ g ∧ w.cell? ⟨g, j, none⟩ = some u ∧ w.frozen? ⟨g, j, none⟩ = false ∧ n ≤ cap := by
 rcases h.2 with ⟨_, h0⟩ | ⟨g, cap', cur, hv, hB, hg, hle, hmx, hsz, htk⟩
 · have := h.1; rw [h0] at this
   have : xs = [] := List.eq_nil_of_length_eq_zero (by omega)
   subst this; simp at hj
 · have hc := h.cells (g := g) (by rw [hv]; rfl) j u hj
   simp only [Value.slice.injEq] at hv
   obtain ⟨rfl, _, rfl⟩ := hv
   have e : (⟨g, 0, none⟩ : Addr).add j = ⟨g, j, none⟩ := by unfold Addr.add; split <;> simp_all
   rw [e] at hc
   exact ⟨g, rfl, (Array.getElem?_eq_some_iff.1 hg).1, hB, hc, by simp [World.frozen?, hg], hle⟩
theorem wpList_append_one_lies {P : Program} {W : World} {t e : TypeId} {size bytes : Nat} (T : RowT P t e size bytes) {ops : Array Oper} {rest : List Oper} {o : Oper} {a : Act} {Q : Exit → Act → World → Prop} (hgd : o.guard = none) (s x : Operand)
   (ho : o.op = .call { callee := .builtin .append, args := #[s, x], argTypes := #[t, t] }) (B : Nat) (v : Value) (n : Nat) (xs : List Value) (hs : a.eval s = v) (hown : W.ownsRow B e size v n xs)
   (ys : List Value) (hy : ys.length = size) (h1 : ∀ u ∈ ys, u.oneCell' = true) (g : Nat) (hx : a.eval x = .slice (some ⟨g, 0, none⟩) 1 1) (hg : g = W.heap.size) (hn : n + 1 ≤ 1000000000) (hb : (n + 1) * bytes ≤ 140737488355328) (hB : B ≤ W.heap.size)
   (h : ∀ k cap w', w'.ownsRow B e size (.slice (some ⟨k, 0, none⟩) (n + 1) cap) (n + 1) (xs ++ ys) → (W.alloc (.cells ys.toArray e)).grownBy w' v.ownBlock → (v.ownBlock = some k ∨ k = W.heap.size + 1) → wpList P ops Q rest (a.put o.dst (.slice (some ⟨k, 0, none⟩) (n + 1) cap)) w') :
   wpList P ops Q (o :: rest) a (W.alloc (.cells ys.toArray e)) := by
 subst hg
 obtain ⟨i, z, hi, hz, hsz, hby, hzs⟩ := T.info
 exact wpList_append_lies _ hgd s x t ho B e i z size bytes T.slice hi hz hsz hby hzs T.pos v n xs hs (hown.alloc _) ⟨W.heap.size, 0, none⟩ 1 1 ys hx (by omega) (fun j u hj => new_cells W ys e j u hj) h1 (by omega) (by unfold maxLen; omega) hb (by simp; omega) (W.heap.size + 1) (by simp)
   (fun k cap w' h2 h3 h4 _ => h k cap w' h2 h3 h4)
theorem own_keep2 {w w' : World} {B : Nat} {e : TypeId} {size : Nat} {v : Value} {n : Nat} {xs : List Value} (h : w.ownsRow B e size v n xs) (hk : ∀ g, v.ownBlock = some g → w'.heap[g]? = w.heap[g]?) : w'.ownsRow B e size v n xs := by
 refine ⟨h.1, ?_⟩
 rcases h.2 with h1 | ⟨g, cap, cur, hv, hB, hg, h3⟩
 · exact Or.inl h1
 · exact Or.inr ⟨g, cap, cur, hv, hB, (hk g (by rw [hv]; rfl)).trans hg, h3⟩
theorem own_nstp {w : World} {B c n : Nat} {v : Value} {xs : List Value} {cs : Array Value} (ho : w.ownsRow B 9 1 v n xs) (hb : Blk w c 171 cs) : v.ownBlock ≠ some c := by
 intro hv
 rcases ho.2 with ⟨rfl, _⟩ | ⟨g2, _, _, rfl, _, hg2, _⟩
 · cases hv
 · simp only [Value.ownBlock, Option.some.injEq] at hv
   subst hv
   rw [show w.heap[g2]? = some (.cells _ _ (0, 0)) from hb] at hg2
   simp at hg2
theorem need_true (w : World) : Calls Tryz.prog 156 #[.bool true] w fun e w' => e = .returned (.tuple #[]) ∧ w' = w := by
 go_enter Tryz.func156, Tryz.ntmps156
 go_wp2_with fail
 go_end0
 exact ⟨rfl, rfl⟩
theorem need_false (w : World) : Calls Tryz.prog 156 #[.bool false] w fun e w' => e = .panicked unfitP ∧ w' = w := by
 go_enter Tryz.func156, Tryz.ntmps156
 go_wp2_with fail
 exact ⟨rfl, rfl, rfl⟩
def StRes (L : List ClassR) (r : Option FrR) (B c b : Nat) (fr gv : Nm) (w0 : World) (e : Ending) (w' : World) : Prop :=
 Below B w0 w' ∧ ((r = none ∧ e = .panicked unfitP) ∨ ∃ f, r = some f ∧ e = .returned (.tuple #[]) ∧ Stp L w' B c b fr gv f)
theorem known_calls (l : List ClassR) (L : List CP) (b c B : Nat) (fr gv : Nm) (f : FrR) (t : Nm) (w0 w : World) (hW : WOk w0 b l L) (hB : B = w0.heap.size) (hb : Below B w0 w) (hs : Stp (wl l) w B c b fr gv f) (ht : t.length ≤ 8388608) :
   Calls Tryz.prog 161 #[.pointer (some ⟨c, 0, none⟩), .string ⟨⟨t⟩⟩] w fun e w' => e = (if kindErr (wl l) t = 0 then .returned (.tuple #[]) else .panicked unfitP) ∧ Below w.heap.size w w' := by
 subst hB
 have HK := Hd (kind_calls l L b t w (hW.below hb) ht)
 obtain ⟨la, lc, sa, sc, h⟩ := hs
 have e0 := h.blk.cell 0
 have e1 := h.blk.lt
 by_cases hk : kindErr (wl l) t = 0
 · rw [if_pos hk]
   rw [hk, errOf_zero] at HK
   clear hW hb h hk
   go_enter Tryz.func161, Tryz.ntmps161
   go_wp2_with fail
   refine HK.out.mono ?_
   rintro e w2 ⟨rfl, hb2⟩
   have HB2 := Hd hb2
   clear hb2
   go_wp2_with fail
   refine (need_true _).mono ?_
   rintro e w3 ⟨rfl, rfl⟩
   go_wp2_with fail
   go_end0
   exact ⟨rfl, HB2.out⟩
 · rw [if_neg hk]
   rw [errOf_ne hk] at HK
   generalize kindErr (wl l) t = z at *
   clear hW hb h hk
   go_enter Tryz.func161, Tryz.ntmps161
   go_wp2_with fail
   refine HK.out.mono ?_
   rintro e w2 ⟨rfl, hb2⟩
   have HB2 := Hd hb2
   clear hb2
   go_wp2_with fail
   refine (need_false _).mono ?_
   rintro e w3 ⟨rfl, rfl⟩
   go_wp2_with fail
   exact ⟨rfl, rfl, HB2.out⟩
def PopRes (L : List ClassR) (r : Option (Nm × FrR)) (B c b : Nat) (fr gv : Nm) (w : World) (e : Ending) (w' : World) : Prop :=
 w.grownBy w' (some c) ∧ ((r = none ∧ e = .panicked unfitP) ∨ ∃ k f, r = some (k, f) ∧ e = .returned (.string ⟨⟨k⟩⟩) ∧ Stp L w' B c b fr gv f)
theorem pop_calls (L : List ClassR) (b c B : Nat) (fr gv : Nm) (f : FrR) (w : World) (hs : Stp L w B c b fr gv f) :
   Calls Tryz.prog 157 #[.pointer (some ⟨c, 0, none⟩)] w (PopRes L (popF f) B c b fr gv w) := by
 obtain ⟨la, lc, sa, sc, h⟩ := hs
 have e0 := h.blk.cell 4
 have e1 := h.blk.lt
 rcases pop_cases f with h0 | ⟨A, k, h0⟩
 · rw [popF_nil h0]
   simp only [h0, List.length_nil] at e0
   clear h h0
   go_enter Tryz.func157, Tryz.ntmps157
   go_wp2_with fail
   refine (need_false _).mono ?_
   rintro e w3 ⟨rfl, rfl⟩
   go_wp2_with fail
   exact ⟨rfl, gb_refl _ _, Or.inl ⟨rfl, rfl⟩⟩
 · rw [popF_snoc h0]
   obtain ⟨lo, st⟩ := f
   dsimp only at h0 e0
   subst h0
   rw [show (A ++ [k]).length = A.length + 1 by simp] at e0
   have hso := h.so
   simp only [List.map_append, List.map_cons, List.map_nil, List.length_append, List.length_singleton] at hso
   obtain ⟨g, hga, hgl, hgB, hgc, _, hcap⟩ := rowOwn_at hso (j := A.length) (u := strV k) (by rw [List.getElem?_append_right (by simp)]; simp)
   have e2 := h.blk.frozen 4
   have hA : A.length < 8 := by have := h.kok.st; simp at this; omega
   have HP := Hd (h.kok.pop (popF_snoc (f := ⟨lo, A ++ [k]⟩) rfl))
   have HS := Hd h
   have HO := Hd (rowOwn_init hso)
   rw [hga] at e0
   have HGA := Hd hga
   have hk2 : w.cell? ⟨g, A.length, none⟩ = some (.string ⟨⟨k⟩⟩) := hgc
   clear h hso hga hgc
   go_enter Tryz.func157, Tryz.ntmps157
   go_wp2_with fail
   refine (need_true _).mono ?_
   rintro e w3 ⟨rfl, rfl⟩
   have i0 : (0 : Int) ≤ (A.length : Int) := Int.natCast_nonneg _
   have i1 : (A.length : Int) < (A.length : Int) + 1 := by omega
   have i2 : (A.length : Int) ≤ (sc : Int) := by omega
   have HR := Hd (show Stp L (w3.setCell ⟨c, 4, none⟩ (.slice (some ⟨g, 0, none⟩) A.length sc)) B c b fr gv ⟨lo, A⟩ from by
     have hh := HS.out
     have hlo : (Value.slice la lo.length lc).ownBlock ≠ some c := own_nstp hh.lo hh.blk
     have hso : (Value.slice sa A.length sc).ownBlock ≠ some c := own_nstp HO.out hh.blk
     refine ⟨la, lc, sa, sc, by rw [HGA.out]; exact blk_set hh.blk 4 _, own_set hh.lo hlo _, own_set HO.out hso _, fun k hk => ?_, hh.cB, HP.out.1⟩
     have := hh.ap k hk
     rw [HGA.out] at this ⊢
     exact this)
   have HG := Hd (gb_set (gb_refl w3 c) 4 (.slice (some ⟨g, 0, none⟩) A.length sc))
   go_wp2_with fail
   go_ret
   exact ⟨HG.out, Or.inr ⟨k, _, rfl, rfl, HR.out⟩⟩
theorem put_calls (L : List ClassR) (b c B : Nat) (fr gv : Nm) (f : FrR) (k : Nm) (w0 w : World) (hb : Below B w0 w) (hB : B ≤ w.heap.size) (hs : Stp L w B c b fr gv f) (hk : kindErr L k = 0) :
   Calls Tryz.prog 155 #[.pointer (some ⟨c, 0, none⟩), .string ⟨⟨k⟩⟩] w (StRes L (putF f k) B c b fr gv w0) := by
 obtain ⟨la, lc, sa, sc, h⟩ := hs
 have e0 := h.blk.cell 4
 have e1 := h.blk.lt
 have HB := Hd hb
 have HB0 := Hd hB
 by_cases h8 : f.st.length < 8
 · have HP := Hd (show putF f k = some ⟨f.loc, f.st ++ [k]⟩ by unfold putF; rw [if_pos h8])
   have HS := Hd h
   have hl : (f.st.length : Int) < 8 := by omega
   have HKO := Hd ((h.kok.put hk HP.out).1)
   clear h hb hB hk
   go_enter Tryz.func155, Tryz.ntmps155
   go_wp2_with fail
   refine (need_true _).mono ?_
   rintro e w3 ⟨rfl, rfl⟩
   go_wp2_with (at_builtin; refine wpList_append_one_lies rowStr rfl _ _ rfl B _ f.st.length (f.st.map strV) rfl ?c0 [.string ⟨⟨k⟩⟩] rfl ?c1 _ rfl ?cg ?c2 ?c3 ?c4 ?_)
   case c0 => exact HS.out.so
   case c1 => intro u hu; simp only [List.mem_singleton] at hu; rw [hu]; rfl
   case cg => simp
   case c2 => omega
   case c3 => omega
   case c4 => exact HB0.out
   intro g4 c4 w4 ho4 hg4 hl4
   have hS := HS.out
   have hcs : (Value.slice sa f.st.length sc).ownBlock ≠ some c := own_nstp hS.so hS.blk
   have hblk : Blk w4 c 171 #[.map (some b), .string ⟨⟨fr⟩⟩, .string ⟨⟨gv⟩⟩, .slice la f.loc.length lc, .slice sa f.st.length sc] := (hg4.block c (by simp; omega) (fun e => hcs e.symm)).trans (hS.blk.alloc _)
   have hlo4 : w4.ownsRow B 9 1 (.slice la f.loc.length lc) f.loc.length (f.loc.map strV) := own_keep2 (hS.lo.alloc _) (fun g hg => hg4.block g (by have := (hS.lo.lt g hg).2; simp; omega) (fun e => hS.ap g hg e.symm))
   have hap4 : ∀ k, (Value.slice la f.loc.length lc).ownBlock = some k → (Value.slice (some ⟨g4, 0, none⟩) (f.st.length + 1) c4).ownBlock ≠ some k := fun k hk e => by
     simp only [Value.ownBlock, Option.some.injEq] at e
     subst e
     rcases hl4 with h | h
     · exact hS.ap _ hk h
     · have := (hS.lo.lt _ hk).2; omega
   have hbw4 : Below B w0 w4 := (HB.out.alloc HB0.out _).trans ⟨hg4.os, hg4.tape, hg4.output, hg4.size, fun i hi => hg4.block i (by have := HB0.out; simp; omega) (fun e => by have := (hS.so.lt i e.symm).1; omega)⟩
   have z0 := hblk.cell 4
   have z1 := hblk.frozen 4
   have z2 := hblk.lt
   have HR := Hd (show Stp L (w4.setCell ⟨c, 4, none⟩ (.slice (some ⟨g4, 0, none⟩) (f.st.length + 1) c4)) B c b fr gv ⟨f.loc, f.st ++ [k]⟩ from by
     have hll : (f.st ++ [k]).length = f.st.length + 1 := by simp
     have ho5 : w4.ownsRow B 9 1 (.slice (some ⟨g4, 0, none⟩) (f.st ++ [k]).length c4) (f.st ++ [k]).length ((f.st ++ [k]).map strV) := by rw [hll, List.map_append]; exact ho4
     refine ⟨la, lc, some ⟨g4, 0, none⟩, c4, by show Blk _ _ _ #[_, _, _, _, .slice _ (f.st ++ [k]).length _]; rw [hll]; exact blk_set hblk 4 _, own_set hlo4 (own_nstp hlo4 hblk) _, own_set ho5 (own_nstp ho5 hblk) _, ?_, hS.cB, HKO.out⟩
     show ∀ k2, _ → (Value.slice _ (f.st ++ [k]).length _).ownBlock ≠ _
     rw [hll]; exact hap4)
   have HBW := Hd (hbw4.setCell (p := ⟨c, 4, none⟩) hS.cB (.slice (some ⟨g4, 0, none⟩) (f.st.length + 1) c4))
   clear ho4 hg4 hl4 hS hcs hblk hlo4 hap4 hbw4
   go_wp2_with fail
   go_end0
   exact ⟨HBW.out, Or.inr ⟨_, HP.out, rfl, HR.out⟩⟩
 · have HP := Hd (show putF f k = none by unfold putF; rw [if_neg h8])
   have hl : ¬ (f.st.length : Int) < 8 := by omega
   clear h hb hB hk
   go_enter Tryz.func155, Tryz.ntmps155
   go_wp2_with fail
   refine (need_false _).mono ?_
   rintro e w3 ⟨rfl, rfl⟩
   go_wp2_with fail
   exact ⟨rfl, HB.out, Or.inl ⟨HP.out, rfl⟩⟩
@[go_sem] theorem class_face (c : ClassR) (p : CAddr) (w : World) : (Instr.field 50 (classV c p) 3).run Tryz.prog w = .ok (.bool c.face) w := by kernel_rfl
@[go_sem] theorem class_fields (c : ClassR) (p : CAddr) (w : World) : (Instr.field 50 (classV c p) 4).run Tryz.prog w = .ok (.slice p.ga c.fields.length p.gc) w := by kernel_rfl
@[go_sem] theorem class_meths (c : ClassR) (p : CAddr) (w : World) : (Instr.field 50 (classV c p) 5).run Tryz.prog w = .ok (.slice p.ma c.meths.length p.mc) w := by kernel_rfl
def mArr (m : MethR) (p : MAddr) : Array Value := #[.string ⟨⟨m.nm⟩⟩, .string ⟨⟨m.ty⟩⟩, .bool m.stat, .bool m.abst, .bool m.priv, .int .i64 m.loc, .slice p.ca m.code.length p.cc, .slice p.ha m.hs.length p.hc]
theorem methV_arr (m : MethR) (p : MAddr) : methV m p = .agg (mArr m p) := rfl
def zeroMR : MethR := ⟨[], [], false, false, false, 0, [], []⟩
def nilM : MAddr := ⟨none, 0, none, 0⟩
theorem mblk_cells {W : World} {g : Nat} {m : MethR} {p : MAddr} (h : Blk W g 45 (mArr m p)) : W.cell? ⟨g, 0, none⟩ = some (.string ⟨⟨m.nm⟩⟩) ∧ W.cell? ⟨g, 1, none⟩ = some (.string ⟨⟨m.ty⟩⟩) ∧ W.cell? ⟨g, 2, none⟩ = some (.bool m.stat) ∧ W.cell? ⟨g, 3, none⟩ = some (.bool m.abst) ∧
   W.cell? ⟨g, 4, none⟩ = some (.bool m.priv) ∧ W.cell? ⟨g, 5, none⟩ = some (.int .i64 m.loc) ∧ W.cell? ⟨g, 6, none⟩ = some (.slice p.ca m.code.length p.cc) ∧ W.cell? ⟨g, 7, none⟩ = some (.slice p.ha m.hs.length p.hc) :=
 ⟨h.cell 0, h.cell 1, h.cell 2, h.cell 3, h.cell 4, h.cell 5, h.cell 6, h.cell 7⟩
theorem mArr_one (m : MethR) (p : MAddr) : (mArr m p).all (·.oneCell') = true := by simp [mArr, Value.oneCell']
theorem info_meth : (Tryz.prog.info? 45).map (·.size) = some 8 := by kernel_rfl
theorem find_at {α : Type} {f : α → Bool} {l : List α} {j : Nat} {x : α} (h0 : ∀ y ∈ l.take j, f y = false) (hx : l[j]? = some x) (hf : f x = true) : l.find? f = some x := by
 obtain ⟨hk, he⟩ := List.getElem?_eq_some_iff.1 hx
 rw [← List.take_append_drop j l, List.find?_append, List.find?_eq_none.2 (fun y hy => by simp [h0 y hy]), List.drop_eq_getElem_cons hk, he]
 simp [hf]
theorem find_none {α : Type} {f : α → Bool} {l : List α} (h0 : ∀ y ∈ l, f y = false) : l.find? f = none := List.find?_eq_none.2 (fun y hy => by simp [h0 y hy])
def OwnRes (c : ClassR) (p : CAddr) (n k : Nm) (w : World) (e : Ending) (w' : World) : Prop :=
 Below w.heap.size w w' ∧ ((ownM c n k = none ∧ e = .returned (.tuple #[methV zeroMR nilM, .bool false])) ∨
   ∃ (j : Nat) (m : MethR) (q : MAddr), c.meths[j]? = some m ∧ p.ps[j]? = some q ∧ ownM c n k = some m ∧ e = .returned (.tuple #[methV m q, .bool true]))
theorem own_calls (c : ClassR) (p : CAddr) (n k : Nm) (w : World) (hC : ClassAt w c p) (hl : c.meths.length ≤ 100) :
   Calls Tryz.prog 218 #[classV c p, .string ⟨⟨n⟩⟩, .string ⟨⟨k⟩⟩] w (OwnRes c p n k w) := by
 obtain ⟨fa, fc, ga, gc, ma, mc, pms⟩ := p
 have HM := Hd hC.2.2
 simp only at HM
 clear hC
 unfold classV
 simp only
 go_enter Tryz.func218, Tryz.ntmps218
 go_wp2_with fail
 go_loopw [13] (fun i wr => ∃ j : Nat, j ≤ c.meths.length ∧ i = .int .i64 j ∧ Below w.heap.size w wr ∧ Blk wr (w.heap.size + 1) 45 (mArr zeroMR nilM) ∧ Hid (∀ m ∈ c.meths.take j, mHit n k m = false)) (fun i _ => c.meths.length - (RowKit.intOf i).toNat)
 case atStart => exact ⟨0, by omega, rfl, ((Below.refl _ _).alloc (Nat.le_refl _) _).alloc (by simp) _, blk_new _ _ _ _ (by simp), Hd (by simp)⟩
 case round =>
   obtain ⟨j, hj, rfl, hb, hz, HA⟩ := hrel
   have HB := Hd hb
   have HZ := Hd hz
   have hsz := hb.size
   have hzl := hz.lt
   by_cases hlk : j < c.meths.length
   · obtain ⟨m, hm⟩ : ∃ m, c.meths[j]? = some m := ⟨_, List.getElem?_eq_getElem hlk⟩
     obtain ⟨b, off, q, rfl, hlt, hq, hma, c0, c1, c2, c3, c4, c5, c6, c7⟩ := (HM.out.below hb).cells hm
     have HMA := Hd hq
     have HX := Hd hm
     clear hb hq hma hm
     cases h1 : m.nm == n with
     | false =>
       have HZ2 := Hd (take_all_succ (P := fun m => mHit n k m = false) HA.out HX.out (by unfold mHit; rw [h1]; rfl))
       go_wp2_with fail
       go_roundw
       case rel => exact ⟨j + 1, by omega, by go_num, HB.out.alloc hsz _, HZ.out.below ((Below.refl _ _).alloc (Nat.le_refl _) _), HZ2⟩
       case measure => simp [RowKit.intOf]; omega
     | true =>
       cases h2 : m.ty == k with
       | false =>
         have HZ2 := Hd (take_all_succ (P := fun m => mHit n k m = false) HA.out HX.out (by unfold mHit; rw [h1, h2]; rfl))
         go_wp2_with fail
         go_roundw
         case rel => exact ⟨j + 1, by omega, by go_num, HB.out.alloc hsz _, HZ.out.below ((Below.refl _ _).alloc (Nat.le_refl _) _), HZ2⟩
         case measure => simp [RowKit.intOf]; omega
       | true =>
         have HO := Hd (show ownM c n k = some m from find_at HA.out HX.out (by unfold mHit; rw [h1, h2]; rfl))
         have e1 := eq_of_beq h1
         have e2 := eq_of_beq h2
         clear h1 h2
         subst e1 e2
         go_wp2_with (refine wpList_store_blk (x := .tmp 6) (y := .tmp 27) (ty := 45) (g := w.heap.size + 1) (cells := mArr m q) (by rfl) (by rfl) (by rfl) (by rfl) (HZ.out.below ((Below.refl _ _).alloc (Nat.le_refl _) _)) info_meth rfl (mArr_one m q) ?_)
         intro W2 hbk hgr
         obtain ⟨d0, d1, d2, d3, d4, d5, d6, d7⟩ := mblk_cells hbk
         have HB2 := Hd (below_grown (HB.out.alloc hsz _) hgr (by omega) (by simp; omega))
         clear hbk hgr
         go_wp2_with fail
         exact bodyPost_ret (v := .tuple #[methV m q, .bool true]) (by simp [results, Tryz.results218, go_sem, d0, d1, d2, d3, d4, d5, d6, d7, methV]) rfl ⟨HB2.out, Or.inr ⟨j, m, q, HX.out, HMA.out, HO.out, rfl⟩⟩
   · obtain rfl : j = c.meths.length := by omega
     have HO := Hd (show ownM c n k = none from find_none (by have := HA.out; rwa [List.take_length] at this))
     clear hb hz
     go_wp2_with (refine wpList_store_blk (x := .tmp 6) (y := .tmp 29) (ty := 45) (g := w.heap.size + 1) (cells := mArr zeroMR nilM) (by rfl) (by rfl) (by rfl) (by rfl) HZ.out info_meth rfl (mArr_one zeroMR nilM) ?_)
     intro W2 hbk hgr
     obtain ⟨d0, d1, d2, d3, d4, d5, d6, d7⟩ := mblk_cells hbk
     have HB2 := Hd (below_grown HB.out hgr (by omega) hsz)
     clear hbk hgr
     go_wp2_with fail
     exact bodyPost_ret (v := .tuple #[methV zeroMR nilM, .bool false]) (by simp [results, Tryz.results218, go_sem, d0, d1, d2, d3, d4, d5, d6, d7, methV]) rfl ⟨HB2.out, Or.inl ⟨HO.out, rfl⟩⟩
theorem methOf_line {L : List ClassR} {c n k : Nm} {r : Nm × MethR} (h : (line L c).findSome? (hitL L n k) = some r) : methOf L c n k = some r := by unfold methOf; rw [h]; rfl
theorem methOf_f {L : List ClassR} {c n k : Nm} {r : Nm × MethR} (h0 : (line L c).findSome? (hitL L n k) = none) (h : (every L c).findSome? (hitF L n k false) = some r) : methOf L c n k = some r := by unfold methOf; rw [h0, h]; rfl
theorem methOf_t {L : List ClassR} {c n k : Nm} {r : Nm × MethR} (h0 : (line L c).findSome? (hitL L n k) = none) (h1 : (every L c).findSome? (hitF L n k false) = none) (h : (every L c).findSome? (hitF L n k true) = some r) : methOf L c n k = some r := by unfold methOf; rw [h0, h1, h]; rfl
theorem methOf_none {L : List ClassR} {c n k : Nm} (h0 : (line L c).findSome? (hitL L n k) = none) (h1 : (every L c).findSome? (hitF L n k false) = none) (h : (every L c).findSome? (hitF L n k true) = none) : methOf L c n k = none := by unfold methOf; rw [h0, h1, h]; rfl
theorem own_at {L : List CP} (n k x : Nm) : ownAt (CL L) n k x = ownM (curP L x).1 n k := by
 unfold ownAt
 rw [cur_is]
 cases look (CL L) x with
 | none => rfl
 | some c => rfl
theorem face_at {L : List CP} (x : Nm) : faceAt (CL L) x = (curP L x).1.face := by
 unfold faceAt
 rw [cur_is]
 cases look (CL L) x with
 | none => rfl
 | some c => rfl
def MofRes (L : List ClassR) (c n k : Nm) (w : World) (e : Ending) (w' : World) : Prop :=
 Below w.heap.size w w' ∧ ((methOf L c n k = none ∧ e = .returned (.tuple #[.string ⟨#[]⟩, methV zeroMR nilM, .bool false])) ∨
   ∃ x m p, methOf L c n k = some (x, m) ∧ MethAt w m p ∧ e = .returned (.tuple #[.string ⟨⟨x⟩⟩, methV m p, .bool true]))
def Past (L : List ClassR) (c n k : Nm) (i : Nat) : Prop := (line L c).findSome? (hitL L n k) = none ∧ (1 ≤ i → (every L c).findSome? (hitF L n k false) = none) ∧ (2 ≤ i → (every L c).findSome? (hitF L n k true) = none)
theorem past_hit {L : List ClassR} {c n k : Nm} {i : Nat} {ab : Bool} {r : Nm × MethR} (h : Past L c n k i) (hab : (i = 0 ∧ ab = false) ∨ (i = 1 ∧ ab = true)) (hr : (every L c).findSome? (hitF L n k ab) = some r) : methOf L c n k = some r := by
 rcases hab with ⟨rfl, rfl⟩ | ⟨rfl, rfl⟩
 · exact methOf_f h.1 hr
 · exact methOf_t h.1 (h.2.1 (by omega)) hr
theorem past_next {L : List ClassR} {c n k : Nm} {i : Nat} {ab : Bool} (h : Past L c n k i) (hab : (i = 0 ∧ ab = false) ∨ (i = 1 ∧ ab = true)) (hr : (every L c).findSome? (hitF L n k ab) = none) : Past L c n k (i + 1) := by
 rcases hab with ⟨rfl, rfl⟩ | ⟨rfl, rfl⟩
 · exact ⟨h.1, fun _ => hr, fun h => by omega⟩
 · exact ⟨h.1, fun _ => h.2.1 (by omega), fun _ => hr⟩
theorem hitL_none {L : List ClassR} {n k x : Nm} (h : ownAt L n k x = none) : hitL L n k x = none := by unfold hitL; rw [h]; rfl
theorem hitL_some {L : List ClassR} {n k x : Nm} {m : MethR} (h : ownAt L n k x = some m) : hitL L n k x = some (x, m) := by unfold hitL; rw [h]; rfl
theorem hitF_none {L : List ClassR} {n k x : Nm} {ab : Bool} (h : ownAt L n k x = none) : hitF L n k ab x = none := by unfold hitF; rw [h]; rfl
theorem hitF_some {L : List ClassR} {n k x : Nm} {ab : Bool} {m : MethR} (h : ownAt L n k x = some m) (h1 : faceAt L x = true) (h2 : (m.abst == ab) = true) : hitF L n k ab x = some (x, m) := by unfold hitF; rw [h]; simp only [Option.elim, h1, h2]; rfl
theorem hitF_face {L : List ClassR} {n k x : Nm} {ab : Bool} (h1 : faceAt L x = false) : hitF L n k ab x = none := by
 unfold hitF
 cases ownAt L n k x with
 | none => rfl
 | some m => simp [Option.elim, h1]
theorem hitF_ab {L : List ClassR} {n k x : Nm} {ab : Bool} {m : MethR} (h : ownAt L n k x = some m) (h2 : (m.abst == ab) = false) : hitF L n k ab x = none := by unfold hitF; rw [h]; simp only [Option.elim, h2, Bool.and_false, Bool.false_eq_true, if_false]
theorem line_le {l : List ClassR} (hg : Good l) {c x : Nm} (hc : c.length ≤ 1048576) (h : x ∈ line (wl l) c) : x.length ≤ 1048576 := by
 rcases rc_names hg.join ((line_rs hg _ _).1 h).rc with e | e
 · rw [e]; exact hc
 · have := good_names20 hg e; omega
theorem every_le {l : List ClassR} (hg : Good l) {c x : Nm} (hc : c.length ≤ 1048576) (h : x ∈ every (wl l) c) : x.length ≤ 1048576 := by
 rcases rc_names hg.join ((good_every hg _ _).1 h) with e | e
 · rw [e]; exact hc
 · have := good_names20 hg e; omega
theorem every_le50 {l : List ClassR} (hg : Good l) (n : Nm) : (every (wl l) n).length ≤ 50 := by
 have := (every_sch (U := n :: names l) (by have := good_names hg; simp; omega) (closed_names hg.join n) (by simp : n ∈ n :: names l)).len
 unfold every
 rw [List.length_mergeSort]
 have h2 := good_names hg
 simp at this
 omega
theorem mof_calls (l : List ClassR) (L : List CP) (b : Nat) (c n k : Nm) (w : World) (hW : WOk w b l L) (hc : c.length ≤ 1048576) :
   Calls Tryz.prog 180 #[.map (some b), .string ⟨⟨c⟩⟩, .string ⟨⟨n⟩⟩, .string ⟨⟨k⟩⟩] w (MofRes (wl l) c n k w) := by
 have HW := Hd hW
 have hcl := Hd hW.cl
 have hg := Hd hW.good
 have hml : (1048576 : Nat) ≤ maxLen := by unfold maxLen; omega
 have hl13 := line_len13 hg.out c
 have hl50 := every_le50 hg.out c
 have HLE := Hd (fun x (h : x ∈ line (wl l) c) => line_le hg.out hc h)
 have HEE := Hd (fun x (h : x ∈ every (wl l) c) => every_le hg.out hc h)
 clear hW
 go_enter Tryz.func180, Tryz.ntmps180
 go_wp2_with fail
 refine (line_w (HW.out.below ((Below.refl _ _).alloc (Nat.le_refl _) _)) c hc).mono ?_
 rintro e w2 ⟨⟨v, rfl, ho⟩, hb2⟩
 obtain ⟨A2, C2, rfl, hr2⟩ := srow_of_own ho
 have HR2 := Hd hr2
 have HB2 := Hd (bl_trans ((Below.refl _ _).alloc (Nat.le_refl _) _) hb2)
 have HW2 := Hd (HW.out.below HB2.out)
 have HZ2 := Hd (show Blk w2 w.heap.size 45 (mArr zeroMR nilM) from (blk_new w w.heap.size 45 (mArr zeroMR nilM) rfl).below hb2)
 have hs2 := HB2.out.size
 have hz2 := HZ2.out.lt
 clear ho hr2 hb2
 generalize hln : line (wl l) c = ln at *
 have HLN := Hd hln
 clear hln
 go_wp2_with fail
 go_loopw [25] (fun i wr => ∃ j : Nat, j ≤ ln.length ∧ i = .int .i64 j ∧ Below w2.heap.size w2 wr ∧ Hid (∀ x ∈ ln.take j, hitL (wl l) n k x = none)) (fun i _ => ln.length - (RowKit.intOf i).toNat)
 case atStart => exact ⟨0, by omega, rfl, Below.refl _ _, Hd (by simp)⟩
 case round =>
   obtain ⟨j, hj, rfl, hb, HA⟩ := hrel
   have HB := Hd hb
   have hsz := hb.size
   by_cases hlk : j < ln.length
   · obtain ⟨x, hx⟩ : ∃ x, ln[j]? = some x := ⟨_, List.getElem?_eq_getElem hlk⟩
     obtain ⟨b1, off, rfl, hlt, c0⟩ := strs_cell (HR2.out.below hb) hx
     have hxl := HLE.out x (List.mem_of_getElem? hx)
     have hlkx := cur_look (n := x) (HW2.out.below hb).at_ (Nat.le_trans hxl hml)
     have hmb := (cur_bounds HW.out x).2.2.2.2
     have HX := Hd hx
     have HCA := Hd (cur_at (HW2.out.below hb).at_ x)
     have HOA := Hd (own_at (L := L) n k x)
     rw [hcl.out] at HOA
     clear hb hx
     go_wp2_with fail
     refine (own_calls _ _ n k _ HCA.out (by omega)).mono ?_
     rintro e w4 ⟨hb4, ⟨hn, rfl⟩ | ⟨i0, m, q, hi0, hq, hm, rfl⟩⟩
     · have HB4 := Hd (HB.out.trans (hb4.mono hsz))
       have hs4 := HB4.out.size
       have HA2 := Hd (take_all_succ (P := fun x => hitL (wl l) n k x = none) HA.out HX.out (hitL_none (by rw [HOA.out]; exact hn)))
       clear hb4 hn hlkx
       unfold methV
       go_wp2_with fail
       go_roundw
       case rel => exact ⟨j + 1, by omega, by go_num, HB4.out.alloc hs4 _, HA2⟩
       case measure => simp [RowKit.intOf]; omega
     · have HM := Hd (methOf_line (by rw [HLN.out]; exact some_at HA.out HX.out (hitL_some (by rw [HOA.out]; exact hm))))
       have HB4 := Hd (HB.out.trans (hb4.mono hsz))
       have HZ4 := Hd (HZ2.out.below HB4.out)
       have HQ := Hd (show MethAt w m q from (cur_at HW.out.at_ x).2.2.2.2 i0 m q hi0 hq)
       have hs4 := HB4.out.size
       clear hb4 hm hq hlkx hi0
       unfold methV
       go_wp2_with fail
       refine wp_tail 3 (by kernel_rfl) (by kernel_rfl) ?_
       simp only [List.take_succ_cons, List.take_zero, List.drop_succ_cons, List.drop_zero]
       repeat still_step
       refine wpStill_nil ?_
       go_wp2_with (refine wpList_store_blk (x := .tmp 9) (y := .tmp 40) (ty := 45) (g := w.heap.size) (cells := mArr m q) (by rfl) (by rfl) (by rfl) (by rfl) (HZ4.out.below ((Below.refl _ _).alloc (Nat.le_refl _) _)).drew info_meth rfl (mArr_one m q) ?_)
       intro W2 hbk hgr
       obtain ⟨d0, d1, d2, d3, d4, d5, d6, d7⟩ := mblk_cells hbk
       have HB5 := Hd (below_grown (HB2.out.trans ((HB4.out.alloc hs4 _).drew.mono hs2)) hgr (Nat.le_refl _) (by simp; omega))
       clear hbk hgr
       go_wp2_with fail
       exact bodyPost_ret (v := .tuple #[.string ⟨⟨x⟩⟩, methV m q, .bool true]) (by simp [results, Tryz.results180, go_sem, d0, d1, d2, d3, d4, d5, d6, d7, methV]) rfl ⟨HB5.out, Or.inr ⟨x, m, q, HM.out, HQ.out, rfl⟩⟩
   · obtain rfl : j = ln.length := by omega
     have HP0 := Hd (show Past (wl l) c n k 0 from ⟨by rw [HLN.out]; exact none_all (by have := HA.out; rwa [List.take_length] at this), fun h => by omega, fun h => by omega⟩)
     clear hb HA
     obtain ⟨wa, hwa⟩ : ∃ wa, wa = wr := ⟨wr, rfl⟩
     subst hwa
     have HBB := Hd (blk_new wa wa.heap.size 4 #[.bool false, .bool true] rfl)
     have HB3 := Hd (HB.out.alloc hsz (.cells #[.bool false, .bool true] 4))
     have hw3 : (wa.alloc (.cells #[.bool false, .bool true] 4)).heap.size = wa.heap.size + 1 := by simp
     have HW3S := Hd hw3
     clear hw3
     go_wp2_with fail
     go_loopw [44] (fun i wq => ∃ t : Nat, t ≤ 2 ∧ i = .int .i64 t ∧ Below (wa.alloc (.cells #[.bool false, .bool true] 4)).heap.size (wa.alloc (.cells #[.bool false, .bool true] 4)) wq ∧ Hid (Past (wl l) c n k t)) (fun i _ => 2 - (RowKit.intOf i).toNat)
     case atStart => exact ⟨0, by omega, rfl, Below.refl _ _, HP0⟩
     case round =>
       obtain ⟨t, ht, rfl, hbq, HP⟩ := hrel
       obtain ⟨wq, hwq⟩ : ∃ wq, wq = wr := ⟨wr, rfl⟩
       subst hwq
       have HBQ := Hd (HB3.out.trans (hbq.mono (by rw [HW3S.out]; omega)))
       have HBB2 := Hd (HBB.out.below hbq)
       have hsq := HBQ.out.size
       have hbl := HBB2.out.lt
       have HBQ0 := Hd hbq
       clear hbq
       by_cases htl : t < 2
       · obtain ⟨ab, hab, hab2⟩ : ∃ ab, wq.cell? ⟨wa.heap.size, t, none⟩ = some (.bool ab) ∧ ((t = 0 ∧ ab = false) ∨ (t = 1 ∧ ab = true)) := by
           have h0 := HBB2.out.cell 0
           have h1 := HBB2.out.cell 1
           by_cases e : t = 0
           · exact ⟨false, by rw [e, h0]; rfl, Or.inl ⟨e, rfl⟩⟩
           · exact ⟨true, by rw [show t = 1 by omega, h1]; rfl, Or.inr ⟨by omega, rfl⟩⟩
         have HAB := Hd hab2
         clear hab2
         go_wp2_with fail
         refine (every_w (HW2.out.below HBQ.out) c hc).mono ?_
         rintro e w5 ⟨⟨v5, rfl, ho5⟩, hb5⟩
         obtain ⟨A5, C5, rfl, hr5⟩ := srow_of_own ho5
         have HR5 := Hd hr5
         have HB5 := Hd (HBQ.out.trans (hb5.mono hsq))
         have HB50 := Hd hb5
         have HW5 := Hd (HW2.out.below HB5.out)
         have HZ5 := Hd (HZ2.out.below HB5.out)
         have hs5 := HB5.out.size
         clear ho5 hr5 hb5
         generalize hev : every (wl l) c = ev at *
         have HEV := Hd hev
         clear hev
         go_wp2_with fail
         go_loopw [52] (fun i wi => ∃ j : Nat, j ≤ ev.length ∧ i = .int .i64 j ∧ Below w5.heap.size w5 wi ∧ Hid (∀ x ∈ ev.take j, hitF (wl l) n k ab x = none)) (fun i _ => ev.length - (RowKit.intOf i).toNat)
         case atStart => exact ⟨0, by omega, rfl, Below.refl _ _, Hd (by simp)⟩
         case round =>
           obtain ⟨j, hj, rfl, hb, HA⟩ := hrel
           have HBI := Hd hb
           have hsi := hb.size
           by_cases hlk : j < ev.length
           · obtain ⟨x, hx⟩ : ∃ x, ev[j]? = some x := ⟨_, List.getElem?_eq_getElem hlk⟩
             obtain ⟨b1, off, rfl, hlt, c0⟩ := strs_cell (HR5.out.below hb) hx
             have hxl := HEE.out x (List.mem_of_getElem? hx)
             have hlkx := cur_look (n := x) (HW5.out.below hb).at_ (Nat.le_trans hxl hml)
             have hmb := (cur_bounds HW.out x).2.2.2.2
             have HX := Hd hx
             have HCA := Hd (cur_at (HW5.out.below hb).at_ x)
             have HOA := Hd (own_at (L := L) n k x)
             have HFA := Hd (face_at (L := L) x)
             rw [hcl.out] at HOA HFA
             clear hb hx
             go_wp2_with fail
             refine (own_calls _ _ n k _ HCA.out (by omega)).mono ?_
             rintro e w6 ⟨hb6, ⟨hn, rfl⟩ | ⟨i0, m, q, hi0, hq, hm, rfl⟩⟩
             · have HB6 := Hd (HBI.out.trans (hb6.mono hsi))
               have hs6 := HB6.out.size
               have HA2 := Hd (take_all_succ (P := fun x => hitF (wl l) n k ab x = none) HA.out HX.out (hitF_none (by rw [HOA.out]; exact hn)))
               clear hb6 hn hlkx
               unfold methV
               go_wp2_with fail
               go_roundw
               case rel => exact ⟨j + 1, by omega, by go_num, HB6.out.alloc hs6 _, HA2⟩
               case measure => simp [RowKit.intOf]; omega
             · have HB6 := Hd (HBI.out.trans (hb6.mono hsi))
               have hs6 := HB6.out.size
               have HZ6 := Hd (HZ5.out.below HB6.out)
               have HQ := Hd (show MethAt w m q from (cur_at HW.out.at_ x).2.2.2.2 i0 m q hi0 hq)
               have HOM := Hd (show ownAt (wl l) n k x = some m by rw [HOA.out]; exact hm)
               have hlk6 := cur_look (n := x) ((HW5.out.below HB6.out).below ((Below.refl _ _).alloc (Nat.le_refl _) (.cells #[.string ⟨⟨m.nm⟩⟩, .string ⟨⟨m.ty⟩⟩, .bool m.stat, .bool m.abst, .bool m.priv, .int .i64 m.loc, .slice q.ca m.code.length q.cc, .slice q.ha m.hs.length q.hc] 45))).at_ (Nat.le_trans hxl hml)
               have hfc := class_face (curP L x).1 (curP L x).2
               clear hb6 hm hq hlkx hi0
               unfold methV
               cases hf : (curP L x).1.face with
               | false =>
                 rw [hf] at hfc HFA
                 have HA2 := Hd (take_all_succ (P := fun x => hitF (wl l) n k ab x = none) HA.out HX.out (hitF_face HFA.out))
                 clear hf
                 go_wp2_with fail
                 go_roundw
                 case rel => exact ⟨j + 1, by omega, by go_num, HB6.out.alloc hs6 _, HA2⟩
                 case measure => simp [RowKit.intOf]; omega
               | true =>
                 rw [hf] at hfc HFA
                 clear hf
                 cases ha : m.abst == ab with
                 | false =>
                   have HA2 := Hd (take_all_succ (P := fun x => hitF (wl l) n k ab x = none) HA.out HX.out (hitF_ab HOM.out ha))
                   go_wp2_with fail
                   go_roundw
                   case rel => exact ⟨j + 1, by omega, by go_num, HB6.out.alloc hs6 _, HA2⟩
                   case measure => simp [RowKit.intOf]; omega
                 | true =>
                   have HM := Hd (past_hit HP.out HAB.out (by rw [HEV.out]; exact some_at HA.out HX.out (hitF_some HOM.out HFA.out ha)))
                   have e1 := eq_of_beq ha
                   clear ha
                   subst e1
                   go_wp2_with fail
                   refine wp_tail 3 (by kernel_rfl) (by kernel_rfl) ?_
                   simp only [List.take_succ_cons, List.take_zero, List.drop_succ_cons, List.drop_zero]
                   repeat still_step
                   refine wpStill_nil ?_
                   go_wp2_with (refine wpList_store_blk (x := .tmp 9) (y := .tmp 79) (ty := 45) (g := w.heap.size) (cells := mArr m q) (by rfl) (by rfl) (by rfl) (by rfl) (HZ6.out.below ((Below.refl _ _).alloc (Nat.le_refl _) _)).drew info_meth rfl (mArr_one m q) ?_)
                   intro W2 hbk hgr
                   obtain ⟨d0, d1, d2, d3, d4, d5, d6, d7⟩ := mblk_cells hbk
                   have HB9 := Hd (below_grown (HB2.out.trans (((HB5.out.trans (HB6.out.mono hs5)).alloc (by omega) _).drew.mono hs2)) hgr (Nat.le_refl _) (by simp; omega))
                   clear hbk hgr
                   go_wp2_with fail
                   exact bodyPost_ret (v := .tuple #[.string ⟨⟨x⟩⟩, methV m q, .bool true]) (by simp [results, Tryz.results180, go_sem, d0, d1, d2, d3, d4, d5, d6, d7, methV]) rfl ⟨HB9.out, Or.inr ⟨x, m, q, HM.out, HQ.out, rfl⟩⟩
           · obtain rfl : j = ev.length := by omega
             have HN := Hd (past_next HP.out HAB.out (by rw [HEV.out]; exact none_all (by have := HA.out; rwa [List.take_length] at this)))
             have HB7 := Hd (show Below (wa.alloc (.cells #[.bool false, .bool true] 4)).heap.size (wa.alloc (.cells #[.bool false, .bool true] 4)) wr from bl_trans (bl_trans HBQ0.out HB50.out) HBI.out)
             clear hb HA
             go_wp2_with fail
             go_roundw
             case rel => exact ⟨t + 1, by omega, by go_num, HB7.out, HN⟩
             case measure => simp [RowKit.intOf]; omega
       · obtain rfl : t = 2 := by omega
         have HM := Hd (methOf_none HP.out.1 (HP.out.2.1 (by omega)) (HP.out.2.2 (by omega)))
         have HZ5 := Hd (HZ2.out.below HBQ.out)
         go_wp2_with (refine wpList_store_blk (x := .tmp 9) (y := .tmp 82) (ty := 45) (g := w.heap.size) (cells := mArr zeroMR nilM) (by rfl) (by rfl) (by rfl) (by rfl) HZ5.out info_meth rfl (mArr_one zeroMR nilM) ?_)
         intro W2 hbk hgr
         obtain ⟨d0, d1, d2, d3, d4, d5, d6, d7⟩ := mblk_cells hbk
         have HB9 := Hd (below_grown (HB2.out.trans (HBQ.out.mono hs2)) hgr (Nat.le_refl _) (by omega))
         clear hbk hgr
         go_wp2_with fail
         exact bodyPost_ret (v := .tuple #[.string ⟨#[]⟩, methV zeroMR nilM, .bool false]) (by simp [results, Tryz.results180, go_sem, d0, d1, d2, d3, d4, d5, d6, d7, methV]) rfl ⟨HB9.out, Or.inl ⟨HM.out, rfl⟩⟩
def DoesAt (b : Nat) (s t : Nm) (r : Bool) (w : World) : Prop := Calls Tryz.prog 66 #[.map (some b), .string ⟨⟨s⟩⟩, .string ⟨⟨t⟩⟩] w fun e w' => e = .returned (.bool r) ∧ Below w.heap.size w w'
theorem does_top (b : Nat) (s : Nm) (w : World) : DoesAt b s [84] true w := by
 unfold DoesAt
 go_enter Tryz.func66, Tryz.ntmps66
 go_wp2_with fail
 go_ret
 exact ⟨rfl, Below.refl _ _⟩
theorem does_same (b : Nat) (s : Nm) (w : World) : DoesAt b s s true w := by
 by_cases h : s = [84]
 · subst h; exact does_top b _ w
 have h84 : (s == [84]) = false := by rw [beq_eq_false_iff_ne]; exact h
 clear h
 unfold DoesAt
 go_enter Tryz.func66, Tryz.ntmps66
 go_wp2_with fail
 go_ret
 exact ⟨rfl, Below.refl _ _⟩
theorem does_nul (b : Nat) (t : Nm) (ht : refsB t = true) (w : World) : DoesAt b [78] t true w := by
 have HR := Hd (refs_calls t)
 rw [ht] at HR
 have h84 : (t == [84]) = false := by rw [beq_eq_false_iff_ne]; rintro rfl; simp [refsB] at ht
 have h78 : (([78] : Nm) == t) = false := by rw [beq_eq_false_iff_ne]; rintro rfl; simp [refsB] at ht
 clear ht
 unfold DoesAt
 go_enter Tryz.func66, Tryz.ntmps66
 go_wp2_with fail
 refine (HR.out _).mono ?_
 rintro e w1 ⟨rfl, rfl⟩
 go_wp2_with fail
 go_ret
 exact ⟨rfl, Below.refl _ _⟩
theorem does_no (b : Nat) (s t : Nm) (hst : s ≠ t) (ht : t ≠ [84]) (hr : (refsB s && refsB t) = false) (hn : s = [78] → refsB t = false) (w : World) : DoesAt b s t false w := by
 have HS := Hd (refs_calls s)
 have HT := Hd (refs_calls t)
 have h84 : (t == [84]) = false := by rw [beq_eq_false_iff_ne]; exact ht
 have hst2 : (s == t) = false := by rw [beq_eq_false_iff_ne]; exact hst
 unfold DoesAt
 by_cases h : s = [78]
 · rw [hn h] at HT
   subst h
   rw [show refsB [78] = false from rfl] at HS
   clear hst ht hn hr
   go_enter Tryz.func66, Tryz.ntmps66
   go_wp2_with fail
   refine (HT.out _).mono ?_
   rintro e w1 ⟨rfl, rfl⟩
   go_wp2_with fail
   refine (HS.out _).mono ?_
   rintro e w1 ⟨rfl, rfl⟩
   go_wp2_with fail
   go_ret
   exact ⟨rfl, Below.refl _ _⟩
 · have h78 : (s == [78]) = false := by rw [beq_eq_false_iff_ne]; exact h
   clear hst ht hn h
   cases h1 : refsB s with
   | false =>
     rw [h1] at HS
     clear h1 hr
     go_enter Tryz.func66, Tryz.ntmps66
     go_wp2_with fail
     refine (HS.out _).mono ?_
     rintro e w1 ⟨rfl, rfl⟩
     go_wp2_with fail
     go_ret
     exact ⟨rfl, Below.refl _ _⟩
   | true =>
     rw [h1, Bool.true_and] at hr
     rw [h1] at HS
     rw [hr] at HT
     clear h1 hr
     go_enter Tryz.func66, Tryz.ntmps66
     go_wp2_with fail
     refine (HS.out _).mono ?_
     rintro e w1 ⟨rfl, rfl⟩
     go_wp2_with fail
     refine (HT.out _).mono ?_
     rintro e w1 ⟨rfl, rfl⟩
     go_wp2_with fail
     go_ret
     exact ⟨rfl, Below.refl _ _⟩
theorem refs_thing (x : Nm) : refsB (thing x) = true := rfl
theorem refs_arr (r : Nm) : refsB (91 :: r) = true := rfl
theorem thing_inj {x y : Nm} (h : thing x = thing y) : x = y := by unfold thing at h; simpa using h
theorem thing_cons (x : Nm) : ∃ r, thing x = 76 :: r ∧ r ≠ [] := ⟨x ++ [59], rfl, by simp⟩
theorem does_LL (l : List ClassR) (L : List CP) (b : Nat) (x y : Nm) (w : World) (hW : WOk w b l L) (hxy : x ≠ y) (hx : x.length ≤ 1048576) (hy : y.length ≤ 1048576) :
   DoesAt b (thing x) (thing y) ((every (wl l) x).contains y) w := by
 have HX := Hd (refs_calls (thing x))
 have HY := Hd (refs_calls (thing y))
 rw [refs_thing] at HX HY
 have HCX := Hd (fun w => show Calls Tryz.prog 118 #[.string ⟨⟨thing x⟩⟩] w _ from class_calls 0 (.cls x) hx w)
 have HCY := Hd (fun w => show Calls Tryz.prog 118 #[.string ⟨⟨thing y⟩⟩] w _ from class_calls 0 (.cls y) hy w)
 simp only [Bse.cl] at HCX HCY
 have HEV := Hd (every_w hW x hx)
 have h50 := every_le50 hW.good x
 have h84 : (thing y == [84]) = false := by rw [beq_eq_false_iff_ne]; simp [thing]
 have h78 : (thing x == [78]) = false := by rw [beq_eq_false_iff_ne]; simp [thing]
 have hst : (thing x == thing y) = false := by rw [beq_eq_false_iff_ne]; exact fun h => hxy (thing_inj h)
 clear hW hxy
 obtain ⟨rx, hrx, hrx0⟩ := thing_cons x
 obtain ⟨ry, hry, hry0⟩ := thing_cons y
 generalize every (wl l) x = ev at *
 unfold DoesAt
 rw [hrx] at HX HCX h78 hst
 rw [hry] at HY HCY h84 hst
 rw [hrx, hry]
 clear hrx hry
 go_enter Tryz.func66, Tryz.ntmps66
 go_wp2_with fail
 refine (HX.out _).mono ?_
 rintro e w1 ⟨rfl, rfl⟩
 go_wp2_with fail
 refine (HY.out _).mono ?_
 rintro e w1 ⟨rfl, rfl⟩
 go_wp2_with fail
 refine (HCX.out _).mono ?_
 rintro e w1 ⟨rfl, rfl⟩
 go_wp2_with fail
 refine HEV.out.mono ?_
 rintro e w2 ⟨⟨v, rfl, ho⟩, hb2⟩
 obtain ⟨a2, c2, rfl, hr2⟩ := srow_of_own ho
 have HB2 := Hd hb2
 have HCT := Hd (contains_str ev a2 ev.length c2 y w2 hr2 rfl (by omega))
 clear ho hb2 hr2
 go_wp2_with fail
 refine (HCY.out _).mono ?_
 rintro e w1 ⟨rfl, rfl⟩
 go_wp2_with fail
 refine HCT.out.mono ?_
 rintro e w1 ⟨rfl, rfl⟩
 go_wp2_with fail
 go_ret
 exact ⟨ret_bool (by simp), HB2.out⟩
theorem does_LA (b : Nat) (x r : Nm) (w : World) : DoesAt b (thing x) (91 :: r) false w := by
 have HX := Hd (refs_calls (thing x))
 have HY := Hd (refs_calls (91 :: r))
 rw [refs_thing] at HX
 rw [refs_arr] at HY
 have h84 : ((91 :: r : Nm) == [84]) = false := by rw [beq_eq_false_iff_ne]; simp
 have h78 : (thing x == [78]) = false := by rw [beq_eq_false_iff_ne]; simp [thing]
 have hst : (thing x == 91 :: r) = false := by rw [beq_eq_false_iff_ne]; simp [thing]
 obtain ⟨rx, hrx, _⟩ := thing_cons x
 unfold DoesAt
 rw [hrx] at HX h78 hst
 rw [hrx]
 clear hrx
 go_enter Tryz.func66, Tryz.ntmps66
 go_wp2_with fail
 refine (HX.out _).mono ?_
 rintro e w1 ⟨rfl, rfl⟩
 go_wp2_with fail
 refine (HY.out _).mono ?_
 rintro e w1 ⟨rfl, rfl⟩
 go_wp2_with fail
 go_ret
 exact ⟨rfl, Below.refl _ _⟩
theorem does_AL (b : Nat) (y r : Nm) (w : World) : DoesAt b (91 :: r) (thing y) (thing y == thing objN) w := by
 have HX := Hd (refs_calls (91 :: r))
 have HY := Hd (refs_calls (thing y))
 rw [refs_thing] at HY
 rw [refs_arr] at HX
 have HTH := Hd (fun w => thing_calls objN (by decide) w)
 have h84 : (thing y == [84]) = false := by rw [beq_eq_false_iff_ne]; simp [thing]
 have h78 : ((91 :: r : Nm) == [78]) = false := by rw [beq_eq_false_iff_ne]; simp
 have hst : ((91 :: r : Nm) == thing y) = false := by rw [beq_eq_false_iff_ne]; simp [thing]
 obtain ⟨ry, hry, _⟩ := thing_cons y
 unfold DoesAt
 rw [hry] at HY h84 hst
 rw [hry]
 clear hry
 generalize hq : (76 :: ry == thing objN) = q at *
 have HQ := Hd hq
 clear hq
 unfold objN at HTH
 go_enter Tryz.func66, Tryz.ntmps66
 go_wp2_with fail
 refine (HX.out _).mono ?_
 rintro e w1 ⟨rfl, rfl⟩
 go_wp2_with fail
 refine (HY.out _).mono ?_
 rintro e w1 ⟨rfl, rfl⟩
 go_wp2_with fail
 refine (HTH.out _).mono ?_
 rintro e w1 ⟨rfl, rfl⟩
 go_wp2_with fail
 go_ret
 refine ⟨?_, Below.refl _ _⟩
 rw [← HQ.out]
 rfl
theorem does_AA (b : Nat) (r q : Nm) (z : Bool) (w : World) (hrq : r ≠ q) (hl : r.length ≤ 1048576) (hl2 : q.length ≤ 1048576) (h : (refsB r && refsB q) = true → ∀ W, Below w.heap.size w W → DoesAt b r q z W) : DoesAt b (91 :: r) (91 :: q) (refsB r && refsB q && z) w := by
 have HX := Hd (refs_calls (91 :: r))
 have HY := Hd (refs_calls (91 :: q))
 rw [refs_arr] at HX HY
 have HR := Hd (refs_calls r)
 have HQ := Hd (refs_calls q)
 have h84 : ((91 :: q : Nm) == [84]) = false := by rw [beq_eq_false_iff_ne]; simp
 have h78 : ((91 :: r : Nm) == [78]) = false := by rw [beq_eq_false_iff_ne]; simp
 have hst : (r == q) = false := by rw [beq_eq_false_iff_ne]; exact hrq
 clear hrq
 unfold DoesAt
 have HH := Hd h
 clear h
 generalize refsB r = rr at *
 generalize refsB q = qq at *
 cases rr with
 | false =>
   go_enter Tryz.func66, Tryz.ntmps66
   go_wp2_with fail
   refine (HX.out _).mono ?_
   rintro e w1 ⟨rfl, rfl⟩
   go_wp2_with fail
   refine (HY.out _).mono ?_
   rintro e w1 ⟨rfl, rfl⟩
   go_wp2_with fail
   go_quiet (fail)
   go_wp2_with fail
   refine (HR.out _).mono ?_
   rintro e w1 ⟨rfl, rfl⟩
   go_wp2_with fail
   go_ret
   exact ⟨ret_bool (by simp), below_dn (Below.refl _ _) _⟩
 | true =>
   cases qq with
   | false =>
     go_enter Tryz.func66, Tryz.ntmps66
     go_wp2_with fail
     refine (HX.out _).mono ?_
     rintro e w1 ⟨rfl, rfl⟩
     go_wp2_with fail
     refine (HY.out _).mono ?_
     rintro e w1 ⟨rfl, rfl⟩
     go_wp2_with fail
     go_quiet (fail)
     go_wp2_with fail
     refine (HR.out _).mono ?_
     rintro e w1 ⟨rfl, rfl⟩
     go_wp2_with fail
     refine (HQ.out _).mono ?_
     rintro e w1 ⟨rfl, rfl⟩
     go_wp2_with fail
     go_ret
     exact ⟨ret_bool (by simp), below_dn (Below.refl _ _) _⟩
   | true =>
     have HD := Hd (fun W hW => HH.out rfl W hW)
     unfold DoesAt at HD
     clear HH
     go_enter Tryz.func66, Tryz.ntmps66
     go_wp2_with fail
     refine (HX.out _).mono ?_
     rintro e w1 ⟨rfl, rfl⟩
     go_wp2_with fail
     refine (HY.out _).mono ?_
     rintro e w1 ⟨rfl, rfl⟩
     go_wp2_with fail
     go_quiet (fail)
     go_wp2_with fail
     refine (HR.out _).mono ?_
     rintro e w1 ⟨rfl, rfl⟩
     go_wp2_with fail
     refine (HQ.out _).mono ?_
     rintro e w1 ⟨rfl, rfl⟩
     go_wp2_with fail
     refine (HD.out _ (below_dn (Below.refl _ _) _)).mono ?_
     rintro e w3 ⟨rfl, hb3⟩
     have HB3 := Hd (bl_trans (below_dn (Below.refl w.heap.size w) _) hb3)
     clear hb3
     go_wp2_with fail
     go_ret
     exact ⟨ret_bool (by simp), HB3.out⟩
theorem ty_len {L : List ClassR} {d : Nat} {b : Bse} (hd : d ≤ 3) (hb : b.Ok L) : (Kd.ty d b).text.length ≤ 25 := by
 cases b with
 | int => simp [Kd.text, Bse.text]; omega
 | long => simp [Kd.text, Bse.text]; omega
 | cls n => have := (name_len hb.1).2; simp [Kd.text, Bse.text]; omega
theorem ty_len2 {d : Nat} {b : Bse} (hd : d ≤ 3) (hb : b.cl.length ≤ 20) : (Kd.ty d b).text.length ≤ 25 := by
 cases b with
 | int => simp [Kd.text, Bse.text]; omega
 | long => simp [Kd.text, Bse.text]; omega
 | cls n => simp [Bse.cl] at hb; simp [Kd.text, Bse.text]; omega
theorem cl_len {L : List ClassR} {b : Bse} (hb : b.Ok L) : b.cl.length ≤ 20 := by
 cases b with
 | int => simp [Bse.cl]
 | long => simp [Bse.cl]
 | cls n => exact (name_len hb.1).2
theorem ty_ne_top (d : Nat) (b : Bse) : (Kd.ty d b).text ≠ [84] := fun h => ty_nt d b (Or.inr h)
theorem ty_ne_nul (d : Nat) (b : Bse) : (Kd.ty d b).text ≠ [78] := fun h => ty_nt d b (Or.inl h)
theorem refs_ty (d : Nat) (b : Bse) : refsB (Kd.ty d b).text = (Kd.ty d b).refs := refs_text _
theorem does_ty (l : List ClassR) (L : List CP) (m : Nat) {b b' : Bse} (hb : b.cl.length ≤ 20) (hb' : b'.cl.length ≤ 20) : ∀ (d d' : Nat), d ≤ 3 → d' ≤ 3 → ∀ w, WOk w m l L → DoesAt m (Kd.ty d b).text (Kd.ty d' b').text (doesT (wl l) d b d' b') w
 | 0, 0, _, _, w, hW => by
   by_cases e : b = b'
   · subst e
     have : doesT (wl l) 0 b 0 b = true := by simp [doesT]
     rw [this]
     exact does_same m _ w
   · have hne : (Kd.ty 0 b).text ≠ (Kd.ty 0 b').text := fun h => e (ty_inj h).2
     cases hr : (b.isRef && b'.isRef) with
     | false =>
       have : doesT (wl l) 0 b 0 b' = false := by unfold doesT; rw [hr]; simp [e]
       rw [this]
       exact does_no m _ _ hne (ty_ne_top _ _) (by rw [refs_ty, refs_ty]; exact hr) (fun h => absurd h (ty_ne_nul _ _)) w
     | true =>
       cases b with
       | int => cases hr
       | long => cases hr
       | cls x =>
         cases b' with
         | int => cases hr
         | long => cases hr
         | cls y =>
           have hxy : x ≠ y := fun h => e (by rw [h])
           have : doesT (wl l) 0 (.cls x) 0 (.cls y) = (every (wl l) x).contains y := by simp [doesT, Bse.isRef, Bse.cl, hxy]
           rw [this]
           exact does_LL l L m x y w hW hxy (by simp [Bse.cl] at hb; omega) (by simp [Bse.cl] at hb'; omega)
 | d + 1, 0, hd, _, w, hW => by
   have hne : (Kd.ty (d + 1) b).text ≠ (Kd.ty 0 b').text := fun h => by have := (ty_inj h).1; omega
   cases b' with
   | int =>
     have : doesT (wl l) (d + 1) b 0 .int = false := by simp [doesT]
     rw [this]
     exact does_no m _ _ hne (ty_ne_top _ _) (by rw [refs_ty, refs_ty]; rfl) (fun h => absurd h (ty_ne_nul _ _)) w
   | long =>
     have : doesT (wl l) (d + 1) b 0 .long = false := by simp [doesT]
     rw [this]
     exact does_no m _ _ hne (ty_ne_top _ _) (by rw [refs_ty, refs_ty]; rfl) (fun h => absurd h (ty_ne_nul _ _)) w
   | cls y =>
     have h1 := does_AL m y (Kd.ty d b).text w
     have : doesT (wl l) (d + 1) b 0 (.cls y) = (thing y == thing objN) := by
       unfold doesT
       rw [Bool.eq_iff_iff]
       simp only [decide_eq_true_eq, beq_iff_eq, Bse.cls.injEq]
       exact ⟨fun h => by rw [h], fun h => thing_inj h⟩
     rw [this]
     exact h1
 | 0, d' + 1, _, hd', w, hW => by
   have hne : (Kd.ty 0 b).text ≠ (Kd.ty (d' + 1) b').text := fun h => by have := (ty_inj h).1; omega
   have h0 : doesT (wl l) 0 b (d' + 1) b' = false := by unfold doesT; rfl
   rw [h0]
   cases b with
   | int => exact does_no m _ _ hne (ty_ne_top _ _) (by rw [refs_ty, refs_ty]; rfl) (fun h => absurd h (ty_ne_nul _ _)) w
   | long => exact does_no m _ _ hne (ty_ne_top _ _) (by rw [refs_ty, refs_ty]; rfl) (fun h => absurd h (ty_ne_nul _ _)) w
   | cls x => exact does_LA m x (Kd.ty d' b').text w
 | d + 1, d' + 1, hd, hd', w, hW => by
   by_cases e : d = d' ∧ b = b'
   · obtain ⟨rfl, rfl⟩ := e
     have : doesT (wl l) (d + 1) b (d + 1) b = true := by unfold doesT; simp
     rw [this]
     exact does_same m _ w
   · have hne : (Kd.ty d b).text ≠ (Kd.ty d' b').text := fun h => e (ty_inj h)
     have h := does_AA m (Kd.ty d b).text (Kd.ty d' b').text (doesT (wl l) d b d' b') w hne (by have := ty_len2 (d := d) (by omega) hb; omega) (by have := ty_len2 (d := d') (by omega) hb'; omega)
       (fun _ W hWW => does_ty l L m hb hb' d d' (by omega) (by omega) W (hW.below hWW))
     have : doesT (wl l) (d + 1) b (d' + 1) b' = (refsB (Kd.ty d b).text && refsB (Kd.ty d' b').text && doesT (wl l) d b d' b') := by
       rw [refs_ty, refs_ty]
       conv => lhs; unfold doesT
       simp [e]
     rw [this]
     exact h
theorem does_calls (l : List ClassR) (L : List CP) (m : Nat) {a b : Kd} (ha : a.Ok (wl l)) (hb : b.Ok (wl l)) (w : World) (hW : WOk w m l L) : DoesAt m a.text b.text (doesK (wl l) a b) w := by
 cases b with
 | top => have : doesK (wl l) a .top = true := by cases a <;> rfl
          rw [this]; exact does_top m _ w
 | nul =>
   cases a with
   | nul => exact does_same m _ w
   | top => exact does_no m _ _ (by simp [Kd.text]) (by simp [Kd.text]) rfl (fun h => by simp [Kd.text] at h) w
   | ty d x => exact does_no m _ _ (ty_ne_nul d x) (by simp [Kd.text]) (by show (refsB _ && false) = false; rw [Bool.and_false]) (fun h => absurd h (ty_ne_nul d x)) w
 | ty d' y =>
   cases a with
   | nul =>
     show DoesAt m [78] _ ((Kd.ty d' y).refs) w
     cases hr : (Kd.ty d' y).refs with
     | true => exact does_nul m _ (by rw [refs_ty]; exact hr) w
     | false => exact does_no m _ _ (fun h => ty_ne_nul d' y h.symm) (ty_ne_top _ _) (by rw [show refsB [78] = false from rfl, Bool.false_and]) (fun _ => by rw [refs_ty]; exact hr) w
   | top => exact does_no m _ _ (fun h => ty_ne_top d' y h.symm) (ty_ne_top _ _) rfl (fun h => by simp [Kd.text] at h) w
   | ty d x => exact does_ty l L m (cl_len ha.2) (cl_len hb.2) d d' ha.1 hb.1 w hW
end Go.Proofs.YtddbnboicmaooaaGreatDoor
