import Derived.Test.YtbnkckjdgpiggaaGreatDoorKb
namespace Go.Proofs.YtbnkckjdgpiggaaGreatDoor
set_option maxRecDepth 100000
set_option maxHeartbeats 16000000
set_option linter.unusedVariables false
set_option linter.unusedSimpArgs false
open Go.RowKit Go.Shelf Go.Lib
def zge : List PanicEntry := [{ v := .iface 216 (.agg #[]), recovered := false }]
structure z89 (L : List zd) (w : World) (B c b : Nat) (fr gv : Nm) (f : FrR) (la : Option Addr) (lc : Nat) (sa : Option Addr) (sc : Nat) : Prop where
 blk : Blk w c 221 #[.map (some b), .string ⟨⟨fr⟩⟩, .string ⟨⟨gv⟩⟩, .slice la f.loc.length lc, .slice sa f.st.length sc]
 lo : w.ownsRow B 9 1 (.slice la f.loc.length lc) f.loc.length (f.loc.map zz)
 so : w.ownsRow B 9 1 (.slice sa f.st.length sc) f.st.length (f.st.map zz)
 ap : ∀ k, (Value.slice la f.loc.length lc).ownBlock = some k -> (Value.slice sa f.st.length sc).ownBlock ≠ some k
 cB : B <= c
 kok : KOk L f
def Stp (L : List zd) (w : World) (B c b : Nat) (fr gv : Nm) (f : FrR) : Prop := ∃ la lc sa sc, z89 L w B c b fr gv f la lc sa sc
theorem Stp.kok {L : List zd} {w : World} {B c b : Nat} {fr gv : Nm} {f : FrR} (h : Stp L w B c b fr gv f) : KOk L f := by obtain ⟨_, _, _, _, h⟩ := h; exact h.kok
theorem Stp.cB {L : List zd} {w : World} {B c b : Nat} {fr gv : Nm} {f : FrR} (h : Stp L w B c b fr gv f) : B <= c := by obtain ⟨_, _, _, _, h⟩ := h; exact h.cB
theorem Stp.below {L : List zd} {w w' : World} {B c b : Nat} {fr gv : Nm} {f : FrR} (h : Stp L w B c b fr gv f) (hb : Below w.heap.size w w') : Stp L w' B c b fr gv f := by
 obtain ⟨la, lc, sa, sc, h⟩ := h
 exact ⟨la, lc, sa, sc, h.blk.below hb, zad h.lo hb, zad h.so hb, h.ap, h.cB, h.kok⟩
theorem Stp.cell0 {L : List zd} {w : World} {B c b : Nat} {fr gv : Nm} {f : FrR} (h : Stp L w B c b fr gv f) : w.cell? ⟨c, 0, none⟩ = some (.map (some b)) := by obtain ⟨_, _, _, _, h⟩ := h; exact h.blk.cell 0
theorem Stp.lt {L : List zd} {w : World} {B c b : Nat} {fr gv : Nm} {f : FrR} (h : Stp L w B c b fr gv f) : c < w.heap.size := by obtain ⟨_, _, _, _, h⟩ := h; exact h.blk.lt
theorem zs0 {w : World} {B : Nat} {e : TypeId} {a : Option Addr} {n cap : Nat} {xs : List Value} {x : Value} (h : w.ownsRow B e 1 (.slice a (n + 1) cap) (n + 1) (xs ++ [x])) : w.ownsRow B e 1 (.slice a n cap) n xs := by
 have hl : xs.length = n := by have := h.1; simp at this; omega
 refine ⟨by rw [hl]; omega, ?_⟩
 rcases h.2 with ⟨_, h0⟩ | ⟨g, cap', cur, hv, hB, hg, hle, hmx, hsz, htk⟩
 . omega
 . simp only [Value.slice.injEq] at hv
   obtain ⟨rfl, _, rfl⟩ := hv
   refine Or.inr ⟨g, cap, cur, rfl, hB, hg, by omega, hmx, hsz, ?_⟩
   have := congrArg (List.take (n * 1)) htk
   rw [List.take_take, Nat.min_eq_left (by omega)] at this
   rw [this, List.take_append_of_le_length (by omega), List.take_of_length_le (by omega)]
theorem zgo {w : World} {B : Nat} {e : TypeId} {a : Option Addr} {n cap : Nat} {xs : List Value} (h : w.ownsRow B e 1 (.slice a n cap) n xs) {j : Nat} {u : Value} (hj : xs[j]? = some u) : ∃ g, a = some ⟨g, 0, none⟩ /\ g < w.heap.size /\ B <= g /\ w.cell? ⟨g, j, none⟩ = some u /\ w.frozen? ⟨g, j, none⟩ = false /\ n <= cap := by
 rcases h.2 with ⟨_, h0⟩ | ⟨g, cap', cur, hv, hB, hg, hle, hmx, hsz, htk⟩
 . have := h.1; rw [h0] at this
   have : xs = [] := List.eq_nil_of_length_eq_zero (by omega)
   subst this; simp at hj
 . have hc := h.cells (g := g) (by rw [hv]; rfl) j u hj
   simp only [Value.slice.injEq] at hv
   obtain ⟨rfl, _, rfl⟩ := hv
   have e : (⟨g, 0, none⟩ : Addr).add j = ⟨g, j, none⟩ := by unfold Addr.add; split <;> simp_all
   rw [e] at hc
   exact ⟨g, rfl, (Array.getElem?_eq_some_iff.1 hg).1, hB, hc, by simp [World.frozen?, hg], hle⟩
theorem zgj {P : Program} {W : World} {t e : TypeId} {size bytes : Nat} (T : zld P t e size bytes) {ops : Array Oper} {rest : List Oper} {o : Oper} {a : Act} {Q : Exit -> Act -> World -> Prop} (hgd : o.guard = none) (s x : Operand)
   (ho : o.op = .call { callee := .builtin .append, args := #[s, x], argTypes := #[t, t] }) (B : Nat) (v : Value) (n : Nat) (xs : List Value) (hs : a.eval s = v) (hown : W.ownsRow B e size v n xs)
   (ys : List Value) (hy : ys.length = size) (h1 : ∀ u ∈ ys, u.oneCell' = true) (g : Nat) (hx : a.eval x = .slice (some ⟨g, 0, none⟩) 1 1) (hg : g = W.heap.size) (hn : n + 1 <= 1000000000) (hb : (n + 1) * bytes <= 140737488355328) (hB : B <= W.heap.size)
   (h : ∀ k cap w', w'.ownsRow B e size (.slice (some ⟨k, 0, none⟩) (n + 1) cap) (n + 1) (xs ++ ys) -> (W.alloc (.cells ys.toArray e)).grownBy w' v.ownBlock -> (v.ownBlock = some k \/ k = W.heap.size + 1) -> wpList P ops Q rest (a.put o.dst (.slice (some ⟨k, 0, none⟩) (n + 1) cap)) w') :
   wpList P ops Q (o :: rest) a (W.alloc (.cells ys.toArray e)) := by
 subst hg
 obtain ⟨i, z, hi, hz, hsz, hby, hzs⟩ := T.info
 exact wpList_append_lies _ hgd s x t ho B e i z size bytes T.slice hi hz hsz hby hzs T.pos v n xs hs (hown.alloc _) ⟨W.heap.size, 0, none⟩ 1 1 ys hx (by omega) (fun j u hj => zdj W ys e j u hj) h1 (by omega) (by unfold maxLen; omega) hb (by simp; omega) (W.heap.size + 1) (by simp)
   (fun k cap w' h2 h3 h4 _ => h k cap w' h2 h3 h4)
theorem zdg {w w' : World} {B : Nat} {e : TypeId} {size : Nat} {v : Value} {n : Nat} {xs : List Value} (h : w.ownsRow B e size v n xs) (hk : ∀ g, v.ownBlock = some g -> w'.heap[g]? = w.heap[g]?) : w'.ownsRow B e size v n xs := by
 refine ⟨h.1, ?_⟩
 rcases h.2 with h1 | ⟨g, cap, cur, hv, hB, hg, h3⟩
 . exact Or.inl h1
 . exact Or.inr ⟨g, cap, cur, hv, hB, (hk g (by rw [hv]; rfl)).trans hg, h3⟩
theorem zi5 {w : World} {B c n : Nat} {v : Value} {xs : List Value} {cs : Array Value} (ho : w.ownsRow B 9 1 v n xs) (hb : Blk w c 221 cs) : v.ownBlock ≠ some c := by
 intro hv
 rcases ho.2 with ⟨rfl, _⟩ | ⟨g2, _, _, rfl, _, hg2, _⟩
 . cases hv
 . simp only [Value.ownBlock, Option.some.injEq] at hv
   subst hv
   rw [show w.heap[g2]? = some (.cells _ _ (0, 0)) from hb] at hg2
   simp at hg2
theorem zev (w : World) : Calls Tryz.prog 188 #[.bool true] w fun e w' => e = .returned (.tuple #[]) /\ w' = w := by
 go_enter Tryz.func188, Tryz.ntmps188
 go_wp2_with fail
 go_end0
 exact ⟨rfl, rfl⟩
theorem zdr (w : World) : Calls Tryz.prog 188 #[.bool false] w fun e w' => e = .panicked zge /\ w' = w := by
 go_enter Tryz.func188, Tryz.ntmps188
 go_wp2_with fail
 exact ⟨rfl, rfl, rfl⟩
def zji (L : List zd) (r : Option FrR) (B c b : Nat) (fr gv : Nm) (w0 : World) (e : Ending) (w' : World) : Prop :=
 Below B w0 w' /\ ((r = none /\ e = .panicked zge) \/ ∃ f, r = some f /\ e = .returned (.tuple #[]) /\ Stp L w' B c b fr gv f)
theorem zsw (l : List zd) (L : List CP) (b c B : Nat) (fr gv : Nm) (f : FrR) (t : Nm) (w0 w : World) (hW : WOk w0 b l L) (hB : B = w0.heap.size) (hb : Below B w0 w) (hs : Stp (wl l) w B c b fr gv f) (ht : t.length <= 8388608) :
   Calls Tryz.prog 193 #[.pointer (some ⟨c, 0, none⟩), .string ⟨⟨t⟩⟩] w fun e w' => e = (if zh (wl l) t = 0 then .returned (.tuple #[]) else .panicked zge) /\ Below w.heap.size w w' := by
 subst hB
 have HK := Hq (zhg l L b t w (hW.below hb) ht)
 obtain ⟨la, lc, sa, sc, h⟩ := hs
 have e0 := h.blk.cell 0
 have e1 := h.blk.lt
 by_cases hk : zh (wl l) t = 0
 . rw [if_pos hk]
   rw [hk, errOf_zero] at HK
   clear hW hb h hk
   go_enter Tryz.func193, Tryz.ntmps193
   go_wp2_with fail
   refine HK.out.mono ?_
   rintro e w2 ⟨rfl, hb2⟩
   have HB2 := Hq hb2
   clear hb2
   go_wp2_with fail
   refine (zev _).mono ?_
   rintro e w3 ⟨rfl, rfl⟩
   go_wp2_with fail
   go_end0
   exact ⟨rfl, HB2.out⟩
 . rw [if_neg hk]
   rw [za4 hk] at HK
   generalize zh (wl l) t = z at *
   clear hW hb h hk
   go_enter Tryz.func193, Tryz.ntmps193
   go_wp2_with fail
   refine HK.out.mono ?_
   rintro e w2 ⟨rfl, hb2⟩
   have HB2 := Hq hb2
   clear hb2
   go_wp2_with fail
   refine (zdr _).mono ?_
   rintro e w3 ⟨rfl, rfl⟩
   go_wp2_with fail
   exact ⟨rfl, rfl, HB2.out⟩
def z8d (L : List zd) (r : Option (Nm × FrR)) (B c b : Nat) (fr gv : Nm) (w : World) (e : Ending) (w' : World) : Prop :=
 w.grownBy w' (some c) /\ ((r = none /\ e = .panicked zge) \/ ∃ k f, r = some (k, f) /\ e = .returned (.string ⟨⟨k⟩⟩) /\ Stp L w' B c b fr gv f)
theorem zrt (L : List zd) (b c B : Nat) (fr gv : Nm) (f : FrR) (w : World) (hs : Stp L w B c b fr gv f) :
   Calls Tryz.prog 189 #[.pointer (some ⟨c, 0, none⟩)] w (z8d L (zkg f) B c b fr gv w) := by
 obtain ⟨la, lc, sa, sc, h⟩ := hs
 have e0 := h.blk.cell 4
 have e1 := h.blk.lt
 rcases zrq f with h0 | ⟨A, k, h0⟩
 . rw [zuf h0]
   simp only [h0, List.length_nil] at e0
   clear h h0
   go_enter Tryz.func189, Tryz.ntmps189
   go_wp2_with fail
   refine (zdr _).mono ?_
   rintro e w3 ⟨rfl, rfl⟩
   go_wp2_with fail
   exact ⟨rfl, zp _ _, Or.inl ⟨rfl, rfl⟩⟩
 . rw [zis h0]
   obtain ⟨lo, st⟩ := f
   dsimp only at h0 e0
   subst h0
   rw [show (A ++ [k]).length = A.length + 1 by simp] at e0
   have hso := h.so
   simp only [List.map_append, List.map_cons, List.map_nil, List.length_append, List.length_singleton] at hso
   obtain ⟨g, hga, hgl, hgB, hgc, _, hcap⟩ := zgo hso (j := A.length) (u := zz k) (by rw [List.getElem?_append_right (by simp)]; simp)
   have e2 := h.blk.frozen 4
   have hA : A.length < 8 := by have := h.kok.st; simp at this; omega
   have HP := Hq (h.kok.pop (zis (f := ⟨lo, A ++ [k]⟩) rfl))
   have HS := Hq h
   have HO := Hq (zs0 hso)
   rw [hga] at e0
   have HGA := Hq hga
   have hk2 : w.cell? ⟨g, A.length, none⟩ = some (.string ⟨⟨k⟩⟩) := hgc
   clear h hso hga hgc
   go_enter Tryz.func189, Tryz.ntmps189
   go_wp2_with fail
   refine (zev _).mono ?_
   rintro e w3 ⟨rfl, rfl⟩
   have i0 : (0 : Int) <= (A.length : Int) := Int.natCast_nonneg _
   have i1 : (A.length : Int) < (A.length : Int) + 1 := by omega
   have i2 : (A.length : Int) <= (sc : Int) := by omega
   have HR := Hq (show Stp L (w3.setCell ⟨c, 4, none⟩ (.slice (some ⟨g, 0, none⟩) A.length sc)) B c b fr gv ⟨lo, A⟩ from by
     have hh := HS.out
     have hlo : (Value.slice la lo.length lc).ownBlock ≠ some c := zi5 hh.lo hh.blk
     have hso : (Value.slice sa A.length sc).ownBlock ≠ some c := zi5 HO.out hh.blk
     refine ⟨la, lc, sa, sc, by rw [HGA.out]; exact zm hh.blk 4 _, zax hh.lo hlo _, zax HO.out hso _, fun k hk => ?_, hh.cB, HP.out.1⟩
     have := hh.ap k hk
     rw [HGA.out] at this |-
     exact this)
   have HG := Hq (zai (zp w3 c) 4 (.slice (some ⟨g, 0, none⟩) A.length sc))
   go_wp2_with fail
   go_ret
   exact ⟨HG.out, Or.inr ⟨k, _, rfl, rfl, HR.out⟩⟩
theorem zeu (L : List zd) (b c B : Nat) (fr gv : Nm) (f : FrR) (k : Nm) (w0 w : World) (hb : Below B w0 w) (hB : B <= w.heap.size) (hs : Stp L w B c b fr gv f) (hk : zh L k = 0) :
   Calls Tryz.prog 187 #[.pointer (some ⟨c, 0, none⟩), .string ⟨⟨k⟩⟩] w (zji L (zk7 f k) B c b fr gv w0) := by
 obtain ⟨la, lc, sa, sc, h⟩ := hs
 have e0 := h.blk.cell 4
 have e1 := h.blk.lt
 have HB := Hq hb
 have HB0 := Hq hB
 by_cases h8 : f.st.length < 8
 . have HP := Hq (show zk7 f k = some ⟨f.loc, f.st ++ [k]⟩ by unfold zk7; rw [if_pos h8])
   have HS := Hq h
   have hl : (f.st.length : Int) < 8 := by omega
   have HKO := Hq ((h.kok.put hk HP.out).1)
   clear h hb hB hk
   go_enter Tryz.func187, Tryz.ntmps187
   go_wp2_with fail
   refine (zev _).mono ?_
   rintro e w3 ⟨rfl, rfl⟩
   go_wp2_with (at_builtin; refine zgj zdu rfl _ _ rfl B _ f.st.length (f.st.map zz) rfl ?c0 [.string ⟨⟨k⟩⟩] rfl ?c1 _ rfl ?cg ?c2 ?c3 ?c4 ?_)
   case c0 => exact HS.out.so
   case c1 => intro u hu; simp only [List.mem_singleton] at hu; rw [hu]; rfl
   case cg => simp
   case c2 => omega
   case c3 => omega
   case c4 => exact HB0.out
   intro g4 c4 w4 ho4 hg4 hl4
   have hS := HS.out
   have hcs : (Value.slice sa f.st.length sc).ownBlock ≠ some c := zi5 hS.so hS.blk
   have hblk : Blk w4 c 221 #[.map (some b), .string ⟨⟨fr⟩⟩, .string ⟨⟨gv⟩⟩, .slice la f.loc.length lc, .slice sa f.st.length sc] := (hg4.block c (by simp; omega) (fun e => hcs e.symm)).trans (hS.blk.alloc _)
   have hlo4 : w4.ownsRow B 9 1 (.slice la f.loc.length lc) f.loc.length (f.loc.map zz) := zdg (hS.lo.alloc _) (fun g hg => hg4.block g (by have := (hS.lo.lt g hg).2; simp; omega) (fun e => hS.ap g hg e.symm))
   have hap4 : ∀ k, (Value.slice la f.loc.length lc).ownBlock = some k -> (Value.slice (some ⟨g4, 0, none⟩) (f.st.length + 1) c4).ownBlock ≠ some k := fun k hk e => by
     simp only [Value.ownBlock, Option.some.injEq] at e
     subst e
     rcases hl4 with h | h
     . exact hS.ap _ hk h
     . have := (hS.lo.lt _ hk).2; omega
   have hbw4 : Below B w0 w4 := (HB.out.alloc HB0.out _).trans ⟨hg4.os, hg4.tape, hg4.output, hg4.size, fun i hi => hg4.block i (by have := HB0.out; simp; omega) (fun e => by have := (hS.so.lt i e.symm).1; omega)⟩
   have z0 := hblk.cell 4
   have z1 := hblk.frozen 4
   have z2 := hblk.lt
   have HR := Hq (show Stp L (w4.setCell ⟨c, 4, none⟩ (.slice (some ⟨g4, 0, none⟩) (f.st.length + 1) c4)) B c b fr gv ⟨f.loc, f.st ++ [k]⟩ from by
     have hll : (f.st ++ [k]).length = f.st.length + 1 := by simp
     have ho5 : w4.ownsRow B 9 1 (.slice (some ⟨g4, 0, none⟩) (f.st ++ [k]).length c4) (f.st ++ [k]).length ((f.st ++ [k]).map zz) := by rw [hll, List.map_append]; exact ho4
     refine ⟨la, lc, some ⟨g4, 0, none⟩, c4, by show Blk _ _ _ #[_, _, _, _, .slice _ (f.st ++ [k]).length _]; rw [hll]; exact zm hblk 4 _, zax hlo4 (zi5 hlo4 hblk) _, zax ho5 (zi5 ho5 hblk) _, ?_, hS.cB, HKO.out⟩
     show ∀ k2, _ -> (Value.slice _ (f.st ++ [k]).length _).ownBlock ≠ _
     rw [hll]; exact hap4)
   have HBW := Hq (hbw4.setCell (p := ⟨c, 4, none⟩) hS.cB (.slice (some ⟨g4, 0, none⟩) (f.st.length + 1) c4))
   clear ho4 hg4 hl4 hS hcs hblk hlo4 hap4 hbw4
   go_wp2_with fail
   go_end0
   exact ⟨HBW.out, Or.inr ⟨_, HP.out, rfl, HR.out⟩⟩
 . have HP := Hq (show zk7 f k = none by unfold zk7; rw [if_neg h8])
   have hl : ¬ (f.st.length : Int) < 8 := by omega
   clear h hb hB hk
   go_enter Tryz.func187, Tryz.ntmps187
   go_wp2_with fail
   refine (zdr _).mono ?_
   rintro e w3 ⟨rfl, rfl⟩
   go_wp2_with fail
   exact ⟨rfl, HB.out, Or.inl ⟨HP.out, rfl⟩⟩
@[go_sem] theorem class_face (c : zd) (p : zbf) (w : World) : (Instr.field 50 (zbl c p) 3).run Tryz.prog w = .ok (.bool c.face) w := by kernel_rfl
@[go_sem] theorem class_fields (c : zd) (p : zbf) (w : World) : (Instr.field 50 (zbl c p) 4).run Tryz.prog w = .ok (.slice p.ga c.fields.length p.gc) w := by kernel_rfl
@[go_sem] theorem class_meths (c : zd) (p : zbf) (w : World) : (Instr.field 50 (zbl c p) 5).run Tryz.prog w = .ok (.slice p.ma c.meths.length p.mc) w := by kernel_rfl
def zj4 (m : zo) (p : zaf) : Array Value := #[.string ⟨⟨m.nm⟩⟩, .string ⟨⟨m.ty⟩⟩, .bool m.stat, .bool m.abst, .bool m.priv, .int .i64 m.loc, .slice p.ca m.code.length p.cc, .slice p.ha m.hs.length p.hc]
theorem ziw (m : zo) (p : zaf) : zca m p = .agg (zj4 m p) := rfl
def zzr : zo := ⟨[], [], false, false, false, 0, [], []⟩
def z9e : zaf := ⟨none, 0, none, 0⟩
theorem zei {W : World} {g : Nat} {m : zo} {p : zaf} (h : Blk W g 45 (zj4 m p)) : W.cell? ⟨g, 0, none⟩ = some (.string ⟨⟨m.nm⟩⟩) /\ W.cell? ⟨g, 1, none⟩ = some (.string ⟨⟨m.ty⟩⟩) /\ W.cell? ⟨g, 2, none⟩ = some (.bool m.stat) /\ W.cell? ⟨g, 3, none⟩ = some (.bool m.abst) /\
   W.cell? ⟨g, 4, none⟩ = some (.bool m.priv) /\ W.cell? ⟨g, 5, none⟩ = some (.int .i64 m.loc) /\ W.cell? ⟨g, 6, none⟩ = some (.slice p.ca m.code.length p.cc) /\ W.cell? ⟨g, 7, none⟩ = some (.slice p.ha m.hs.length p.hc) :=
 ⟨h.cell 0, h.cell 1, h.cell 2, h.cell 3, h.cell 4, h.cell 5, h.cell 6, h.cell 7⟩
theorem z5g {α : Type} {f : α -> Bool} {l : List α} {j : Nat} {x : α} (h0 : ∀ y ∈ l.take j, f y = false) (hx : l[j]? = some x) (hf : f x = true) : l.find? f = some x := by
 obtain ⟨hk, he⟩ := List.getElem?_eq_some_iff.1 hx
 rw [<- List.take_append_drop j l, List.find?_append, List.find?_eq_none.2 (fun y hy => by simp [h0 y hy]), List.drop_eq_getElem_cons hk, he]
 simp [hf]
def OwnRes (c : zd) (p : zbf) (n k : Nm) (w : World) (e : Ending) (w' : World) : Prop :=
 Below w.heap.size w w' /\ ((z8q c n k = none /\ e = .returned (.tuple #[zca zzr z9e, .bool false])) \/
   ∃ (j : Nat) (m : zo) (q : zaf), c.meths[j]? = some m /\ p.ps[j]? = some q /\ z8q c n k = some m /\ e = .returned (.tuple #[zca m q, .bool true]))
def MofRes (L : List zd) (c n k : Nm) (w : World) (e : Ending) (w' : World) : Prop :=
 Below w.heap.size w w' /\ ((zp2 L c n k = none /\ e = .returned (.tuple #[.string ⟨#[]⟩, zca zzr z9e, .bool false])) \/
   ∃ x m p, zp2 L c n k = some (x, m) /\ zer w m p /\ e = .returned (.tuple #[.string ⟨⟨x⟩⟩, zca m p, .bool true]))
def Past (L : List zd) (c n k : Nm) (i : Nat) : Prop := (zcx L c).findSome? (hitL L n k) = none /\ (1 <= i -> (every L c).findSome? (z8h L n k false) = none) /\ (2 <= i -> (every L c).findSome? (z8h L n k true) = none)
theorem zvx {l : List zd} (hg : zdf l) (n : Nm) : (every (wl l) n).length <= 50 := by
 have := (zlh (U := n :: zbt l) (by have := zfl hg; simp; omega) (ze5 hg.join n) (by simp : n ∈ n :: zbt l)).len
 unfold every
 rw [List.length_mergeSort]
 have h2 := zfl hg
 simp at this
 omega
def zco (b : Nat) (s t : Nm) (r : Bool) (w : World) : Prop := Calls Tryz.prog 50 #[.map (some b), .string ⟨⟨s⟩⟩, .string ⟨⟨t⟩⟩] w fun e w' => e = .returned (.bool r) /\ Below w.heap.size w w'
theorem zuo (b : Nat) (s : Nm) (w : World) : zco b s [84] true w := by
 unfold zco
 go_enter Tryz.func50, Tryz.ntmps50
 go_wp2_with fail
 go_ret
 exact ⟨rfl, Below.refl _ _⟩
theorem zl5 (b : Nat) (s : Nm) (w : World) : zco b s s true w := by
 by_cases h : s = [84]
 . subst h; exact zuo b _ w
 have h84 : (s == [84]) = false := by rw [beq_eq_false_iff_ne]; exact h
 clear h
 unfold zco
 go_enter Tryz.func50, Tryz.ntmps50
 go_wp2_with fail
 go_ret
 exact ⟨rfl, Below.refl _ _⟩
theorem z1v (b : Nat) (t : Nm) (ht : zbb t = true) (w : World) : zco b [78] t true w := by
 have HR := Hq (zu t)
 rw [ht] at HR
 have h84 : (t == [84]) = false := by rw [beq_eq_false_iff_ne]; rintro rfl; simp [zbb] at ht
 have h78 : (([78] : Nm) == t) = false := by rw [beq_eq_false_iff_ne]; rintro rfl; simp [zbb] at ht
 clear ht
 unfold zco
 go_enter Tryz.func50, Tryz.ntmps50
 go_wp2_with fail
 refine (HR.out _).mono ?_
 rintro e w1 ⟨rfl, rfl⟩
 go_wp2_with fail
 go_ret
 exact ⟨rfl, Below.refl _ _⟩
theorem zfx (b : Nat) (s t : Nm) (hst : s ≠ t) (ht : t ≠ [84]) (hr : (zbb s && zbb t) = false) (hn : s = [78] -> zbb t = false) (w : World) : zco b s t false w := by
 have HS := Hq (zu s)
 have HT := Hq (zu t)
 have h84 : (t == [84]) = false := by rw [beq_eq_false_iff_ne]; exact ht
 have hst2 : (s == t) = false := by rw [beq_eq_false_iff_ne]; exact hst
 unfold zco
 by_cases h : s = [78]
 . rw [hn h] at HT
   subst h
   rw [show zbb [78] = false from rfl] at HS
   clear hst ht hn hr
   go_enter Tryz.func50, Tryz.ntmps50
   go_wp2_with fail
   refine (HT.out _).mono ?_
   rintro e w1 ⟨rfl, rfl⟩
   go_wp2_with fail
   refine (HS.out _).mono ?_
   rintro e w1 ⟨rfl, rfl⟩
   go_wp2_with fail
   go_ret
   exact ⟨rfl, Below.refl _ _⟩
 . have h78 : (s == [78]) = false := by rw [beq_eq_false_iff_ne]; exact h
   clear hst ht hn h
   cases h1 : zbb s with
   | false =>
     rw [h1] at HS
     clear h1 hr
     go_enter Tryz.func50, Tryz.ntmps50
     go_wp2_with fail
     refine (HS.out _).mono ?_
     rintro e w1 ⟨rfl, rfl⟩
     go_wp2_with fail
     go_ret
     exact ⟨rfl, Below.refl _ _⟩
   | true =>
     rw [h1, Bool.true_and] at hr
     rw [h1] at HS
     rw [hr] at HT
     clear h1 hr
     go_enter Tryz.func50, Tryz.ntmps50
     go_wp2_with fail
     refine (HS.out _).mono ?_
     rintro e w1 ⟨rfl, rfl⟩
     go_wp2_with fail
     refine (HT.out _).mono ?_
     rintro e w1 ⟨rfl, rfl⟩
     go_wp2_with fail
     go_ret
     exact ⟨rfl, Below.refl _ _⟩
theorem zeg (x : Nm) : zbb (z7 x) = true := rfl
theorem zfu (r : Nm) : zbb (91 :: r) = true := rfl
theorem zk9 {x y : Nm} (h : z7 x = z7 y) : x = y := by unfold z7 at h; simpa using h
theorem zc5 (x : Nm) : ∃ r, z7 x = 76 :: r /\ r ≠ [] := ⟨x ++ [59], rfl, by simp⟩
theorem z45 (l : List zd) (L : List CP) (b : Nat) (x y : Nm) (w : World) (hW : WOk w b l L) (hxy : x ≠ y) (hx : x.length <= 1048576) (hy : y.length <= 1048576) :
   zco b (z7 x) (z7 y) ((every (wl l) x).contains y) w := by
 have HX := Hq (zu (z7 x))
 have HY := Hq (zu (z7 y))
 rw [zeg] at HX HY
 have HCX := Hq (fun w => show Calls Tryz.prog 86 #[.string ⟨⟨z7 x⟩⟩] w _ from zc4 0 (.cls x) hx w)
 have HCY := Hq (fun w => show Calls Tryz.prog 86 #[.string ⟨⟨z7 y⟩⟩] w _ from zc4 0 (.cls y) hy w)
 simp only [Bse.cl] at HCX HCY
 have HEV := Hq (z49 hW x hx)
 have h50 := zvx hW.good x
 have h84 : (z7 y == [84]) = false := by rw [beq_eq_false_iff_ne]; simp [z7]
 have h78 : (z7 x == [78]) = false := by rw [beq_eq_false_iff_ne]; simp [z7]
 have hst : (z7 x == z7 y) = false := by rw [beq_eq_false_iff_ne]; exact fun h => hxy (zk9 h)
 clear hW hxy
 obtain ⟨rx, hrx, hrx0⟩ := zc5 x
 obtain ⟨ry, hry, hry0⟩ := zc5 y
 generalize every (wl l) x = ev at *
 unfold zco
 rw [hrx] at HX HCX h78 hst
 rw [hry] at HY HCY h84 hst
 rw [hrx, hry]
 clear hrx hry
 go_enter Tryz.func50, Tryz.ntmps50
 go_wp2_with fail
 refine (HX.out _).mono ?_
 rintro e w1 ⟨rfl, rfl⟩
 go_wp2_with fail
 refine (HY.out _).mono ?_
 rintro e w1 ⟨rfl, rfl⟩
 go_wp2_with fail
 refine (HCX.out _).mono ?_
 rintro e w1 ⟨rfl, rfl⟩
 go_wp2_with fail
 refine HEV.out.mono ?_
 rintro e w2 ⟨⟨v, rfl, ho⟩, hb2⟩
 obtain ⟨a2, c2, rfl, hr2⟩ := zl ho
 have HB2 := Hq hb2
 have HCT := Hq (zc9 ev a2 ev.length c2 y w2 hr2 rfl (by omega))
 clear ho hb2 hr2
 go_wp2_with fail
 refine (HCY.out _).mono ?_
 rintro e w1 ⟨rfl, rfl⟩
 go_wp2_with fail
 refine HCT.out.mono ?_
 rintro e w1 ⟨rfl, rfl⟩
 go_wp2_with fail
 go_ret
 exact ⟨zaa (by simp), HB2.out⟩
theorem z5n (b : Nat) (x r : Nm) (w : World) : zco b (z7 x) (91 :: r) false w := by
 have HX := Hq (zu (z7 x))
 have HY := Hq (zu (91 :: r))
 rw [zeg] at HX
 rw [zfu] at HY
 have h84 : ((91 :: r : Nm) == [84]) = false := by rw [beq_eq_false_iff_ne]; simp
 have h78 : (z7 x == [78]) = false := by rw [beq_eq_false_iff_ne]; simp [z7]
 have hst : (z7 x == 91 :: r) = false := by rw [beq_eq_false_iff_ne]; simp [z7]
 obtain ⟨rx, hrx, _⟩ := zc5 x
 unfold zco
 rw [hrx] at HX h78 hst
 rw [hrx]
 clear hrx
 go_enter Tryz.func50, Tryz.ntmps50
 go_wp2_with fail
 refine (HX.out _).mono ?_
 rintro e w1 ⟨rfl, rfl⟩
 go_wp2_with fail
 refine (HY.out _).mono ?_
 rintro e w1 ⟨rfl, rfl⟩
 go_wp2_with fail
 go_ret
 exact ⟨rfl, Below.refl _ _⟩
theorem z4s (b : Nat) (y r : Nm) (w : World) : zco b (91 :: r) (z7 y) (z7 y == z7 zbq) w := by
 have HX := Hq (zu (91 :: r))
 have HY := Hq (zu (z7 y))
 rw [zeg] at HY
 rw [zfu] at HX
 have HTH := Hq (fun w => zcg zbq (by decide) w)
 have h84 : (z7 y == [84]) = false := by rw [beq_eq_false_iff_ne]; simp [z7]
 have h78 : ((91 :: r : Nm) == [78]) = false := by rw [beq_eq_false_iff_ne]; simp
 have hst : ((91 :: r : Nm) == z7 y) = false := by rw [beq_eq_false_iff_ne]; simp [z7]
 obtain ⟨ry, hry, _⟩ := zc5 y
 unfold zco
 rw [hry] at HY h84 hst
 rw [hry]
 clear hry
 generalize hq : (76 :: ry == z7 zbq) = q at *
 have HQ := Hq hq
 clear hq
 unfold zbq at HTH
 go_enter Tryz.func50, Tryz.ntmps50
 go_wp2_with fail
 refine (HX.out _).mono ?_
 rintro e w1 ⟨rfl, rfl⟩
 go_wp2_with fail
 refine (HY.out _).mono ?_
 rintro e w1 ⟨rfl, rfl⟩
 go_wp2_with fail
 refine (HTH.out _).mono ?_
 rintro e w1 ⟨rfl, rfl⟩
 go_wp2_with fail
 go_ret
 refine ⟨?_, Below.refl _ _⟩
 rw [<- HQ.out]
 rfl
theorem z58 (b : Nat) (r q : Nm) (z : Bool) (w : World) (hrq : r ≠ q) (hl : r.length <= 1048576) (hl2 : q.length <= 1048576) (h : (zbb r && zbb q) = true -> ∀ W, Below w.heap.size w W -> zco b r q z W) : zco b (91 :: r) (91 :: q) (zbb r && zbb q && z) w := by
 have HX := Hq (zu (91 :: r))
 have HY := Hq (zu (91 :: q))
 rw [zfu] at HX HY
 have HR := Hq (zu r)
 have HQ := Hq (zu q)
 have h84 : ((91 :: q : Nm) == [84]) = false := by rw [beq_eq_false_iff_ne]; simp
 have h78 : ((91 :: r : Nm) == [78]) = false := by rw [beq_eq_false_iff_ne]; simp
 have hst : (r == q) = false := by rw [beq_eq_false_iff_ne]; exact hrq
 clear hrq
 unfold zco
 have HH := Hq h
 clear h
 generalize zbb r = rr at *
 generalize zbb q = qq at *
 cases rr with
 | false =>
   go_enter Tryz.func50, Tryz.ntmps50
   go_wp2_with fail
   refine (HX.out _).mono ?_
   rintro e w1 ⟨rfl, rfl⟩
   go_wp2_with fail
   refine (HY.out _).mono ?_
   rintro e w1 ⟨rfl, rfl⟩
   go_wp2_with fail
   go_quiet (fail)
   go_wp2_with fail
   refine (HR.out _).mono ?_
   rintro e w1 ⟨rfl, rfl⟩
   go_wp2_with fail
   go_ret
   exact ⟨zaa (by simp), zbv (Below.refl _ _) _⟩
 | true =>
   cases qq with
   | false =>
     go_enter Tryz.func50, Tryz.ntmps50
     go_wp2_with fail
     refine (HX.out _).mono ?_
     rintro e w1 ⟨rfl, rfl⟩
     go_wp2_with fail
     refine (HY.out _).mono ?_
     rintro e w1 ⟨rfl, rfl⟩
     go_wp2_with fail
     go_quiet (fail)
     go_wp2_with fail
     refine (HR.out _).mono ?_
     rintro e w1 ⟨rfl, rfl⟩
     go_wp2_with fail
     refine (HQ.out _).mono ?_
     rintro e w1 ⟨rfl, rfl⟩
     go_wp2_with fail
     go_ret
     exact ⟨zaa (by simp), zbv (Below.refl _ _) _⟩
   | true =>
     have HD := Hq (fun W hW => HH.out rfl W hW)
     unfold zco at HD
     clear HH
     go_enter Tryz.func50, Tryz.ntmps50
     go_wp2_with fail
     refine (HX.out _).mono ?_
     rintro e w1 ⟨rfl, rfl⟩
     go_wp2_with fail
     refine (HY.out _).mono ?_
     rintro e w1 ⟨rfl, rfl⟩
     go_wp2_with fail
     go_quiet (fail)
     go_wp2_with fail
     refine (HR.out _).mono ?_
     rintro e w1 ⟨rfl, rfl⟩
     go_wp2_with fail
     refine (HQ.out _).mono ?_
     rintro e w1 ⟨rfl, rfl⟩
     go_wp2_with fail
     refine (HD.out _ (zbv (Below.refl _ _) _)).mono ?_
     rintro e w3 ⟨rfl, hb3⟩
     have HB3 := Hq (zc (zbv (Below.refl w.heap.size w) _) hb3)
     clear hb3
     go_wp2_with fail
     go_ret
     exact ⟨zaa (by simp), HB3.out⟩
theorem zzq {L : List zd} {d : Nat} {b : Bse} (hd : d <= 3) (hb : b.Ok L) : (Kd.ty d b).text.length <= 25 := by
 cases b with
 | int => simp [Kd.text, Bse.text]; omega
 | long => simp [Kd.text, Bse.text]; omega
 | cls n => have := (zdm hb.1).2; simp [Kd.text, Bse.text]; omega
theorem zxq {d : Nat} {b : Bse} (hd : d <= 3) (hb : b.cl.length <= 20) : (Kd.ty d b).text.length <= 25 := by
 cases b with
 | int => simp [Kd.text, Bse.text]; omega
 | long => simp [Kd.text, Bse.text]; omega
 | cls n => simp [Bse.cl] at hb; simp [Kd.text, Bse.text]; omega
theorem z35 {L : List zd} {b : Bse} (hb : b.Ok L) : b.cl.length <= 20 := by
 cases b with
 | int => simp [Bse.cl]
 | long => simp [Bse.cl]
 | cls n => exact (zdm hb.1).2
theorem zcz (d : Nat) (b : Bse) : (Kd.ty d b).text ≠ [84] := fun h => z23 d b (Or.inr h)
theorem zah (d : Nat) (b : Bse) : (Kd.ty d b).text ≠ [78] := fun h => z23 d b (Or.inl h)
theorem zao (d : Nat) (b : Bse) : zbb (Kd.ty d b).text = (Kd.ty d b).refs := zxu _
theorem zxv (l : List zd) (L : List CP) (m : Nat) {b b' : Bse} (hb : b.cl.length <= 20) (hb' : b'.cl.length <= 20) : ∀ (d d' : Nat), d <= 3 -> d' <= 3 -> ∀ w, WOk w m l L -> zco m (Kd.ty d b).text (Kd.ty d' b').text (zd3 (wl l) d b d' b') w
 | 0, 0, _, _, w, hW => by
   by_cases e : b = b'
   . subst e
     have : zd3 (wl l) 0 b 0 b = true := by simp [zd3]
     rw [this]
     exact zl5 m _ w
   . have hne : (Kd.ty 0 b).text ≠ (Kd.ty 0 b').text := fun h => e (zgn h).2
     cases hr : (b.isRef && b'.isRef) with
     | false =>
       have : zd3 (wl l) 0 b 0 b' = false := by unfold zd3; rw [hr]; simp [e]
       rw [this]
       exact zfx m _ _ hne (zcz _ _) (by rw [zao, zao]; exact hr) (fun h => absurd h (zah _ _)) w
     | true =>
       cases b with
       | int => cases hr
       | long => cases hr
       | cls x =>
         cases b' with
         | int => cases hr
         | long => cases hr
         | cls y =>
           have hxy : x ≠ y := fun h => e (by rw [h])
           have : zd3 (wl l) 0 (.cls x) 0 (.cls y) = (every (wl l) x).contains y := by simp [zd3, Bse.isRef, Bse.cl, hxy]
           rw [this]
           exact z45 l L m x y w hW hxy (by simp [Bse.cl] at hb; omega) (by simp [Bse.cl] at hb'; omega)
 | d + 1, 0, hd, _, w, hW => by
   have hne : (Kd.ty (d + 1) b).text ≠ (Kd.ty 0 b').text := fun h => by have := (zgn h).1; omega
   cases b' with
   | int =>
     have : zd3 (wl l) (d + 1) b 0 .int = false := by simp [zd3]
     rw [this]
     exact zfx m _ _ hne (zcz _ _) (by rw [zao, zao]; rfl) (fun h => absurd h (zah _ _)) w
   | long =>
     have : zd3 (wl l) (d + 1) b 0 .long = false := by simp [zd3]
     rw [this]
     exact zfx m _ _ hne (zcz _ _) (by rw [zao, zao]; rfl) (fun h => absurd h (zah _ _)) w
   | cls y =>
     have h1 := z4s m y (Kd.ty d b).text w
     have : zd3 (wl l) (d + 1) b 0 (.cls y) = (z7 y == z7 zbq) := by
       unfold zd3
       rw [Bool.eq_iff_iff]
       simp only [decide_eq_true_eq, beq_iff_eq, Bse.cls.injEq]
       exact ⟨fun h => by rw [h], fun h => zk9 h⟩
     rw [this]
     exact h1
 | 0, d' + 1, _, hd', w, hW => by
   have hne : (Kd.ty 0 b).text ≠ (Kd.ty (d' + 1) b').text := fun h => by have := (zgn h).1; omega
   have h0 : zd3 (wl l) 0 b (d' + 1) b' = false := by unfold zd3; rfl
   rw [h0]
   cases b with
   | int => exact zfx m _ _ hne (zcz _ _) (by rw [zao, zao]; rfl) (fun h => absurd h (zah _ _)) w
   | long => exact zfx m _ _ hne (zcz _ _) (by rw [zao, zao]; rfl) (fun h => absurd h (zah _ _)) w
   | cls x => exact z5n m x (Kd.ty d' b').text w
 | d + 1, d' + 1, hd, hd', w, hW => by
   by_cases e : d = d' /\ b = b'
   . obtain ⟨rfl, rfl⟩ := e
     have : zd3 (wl l) (d + 1) b (d + 1) b = true := by unfold zd3; simp
     rw [this]
     exact zl5 m _ w
   . have hne : (Kd.ty d b).text ≠ (Kd.ty d' b').text := fun h => e (zgn h)
     have h := z58 m (Kd.ty d b).text (Kd.ty d' b').text (zd3 (wl l) d b d' b') w hne (by have := zxq (d := d) (by omega) hb; omega) (by have := zxq (d := d') (by omega) hb'; omega)
       (fun _ W hWW => zxv l L m hb hb' d d' (by omega) (by omega) W (hW.below hWW))
     have : zd3 (wl l) (d + 1) b (d' + 1) b' = (zbb (Kd.ty d b).text && zbb (Kd.ty d' b').text && zd3 (wl l) d b d' b') := by
       rw [zao, zao]
       conv => lhs; unfold zd3
       simp [e]
     rw [this]
     exact h
theorem zu9 (l : List zd) (L : List CP) (m : Nat) {a b : Kd} (ha : a.Ok (wl l)) (hb : b.Ok (wl l)) (w : World) (hW : WOk w m l L) : zco m a.text b.text (zu8 (wl l) a b) w := by
 cases b with
 | top => have : zu8 (wl l) a .top = true := by cases a <;> rfl
          rw [this]; exact zuo m _ w
 | nul =>
   cases a with
   | nul => exact zl5 m _ w
   | top => exact zfx m _ _ (by simp [Kd.text]) (by simp [Kd.text]) rfl (fun h => by simp [Kd.text] at h) w
   | ty d x => exact zfx m _ _ (zah d x) (by simp [Kd.text]) (by show (zbb _ && false) = false; rw [Bool.and_false]) (fun h => absurd h (zah d x)) w
 | ty d' y =>
   cases a with
   | nul =>
     show zco m [78] _ ((Kd.ty d' y).refs) w
     cases hr : (Kd.ty d' y).refs with
     | true => exact z1v m _ (by rw [zao]; exact hr) w
     | false => exact zfx m _ _ (fun h => zah d' y h.symm) (zcz _ _) (by rw [show zbb [78] = false from rfl, Bool.false_and]) (fun _ => by rw [zao]; exact hr) w
   | top => exact zfx m _ _ (fun h => zcz d' y h.symm) (zcz _ _) rfl (fun h => by simp [Kd.text] at h) w
   | ty d x => exact zxv l L m (z35 ha.2) (z35 hb.2) d d' ha.1 hb.1 w hW
end Go.Proofs.YtbnkckjdgpiggaaGreatDoor
