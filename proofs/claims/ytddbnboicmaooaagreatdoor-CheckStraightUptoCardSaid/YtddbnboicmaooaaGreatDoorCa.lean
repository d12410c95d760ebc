import Derived.Test.YtddbnboicmaooaaGreatDoorSh
import Derived.Test.YtddbnboicmaooaaGreatDoorJa
import Derived.Test.YtddbnboicmaooaaGreatDoorIa
import Derived.Test.YtddbnboicmaooaaGreatDoorFw
namespace Go.Proofs.YtddbnboicmaooaaGreatDoor
set_option maxRecDepth 100000
set_option maxHeartbeats 16000000
set_option linter.unusedVariables false
set_option linter.unusedSimpArgs false
open Go.RowKit Go.Shelf Go.Lib
structure KbR (K MB : Nat) (v : Value) (W W' : World) : Prop where
 os : W'.os = W.os
 tape : W'.tape = W.tape
 output : W'.output = W.output
 size : W.heap.size ≤ W'.heap.size
 block : ∀ k, k < W.heap.size → k ≠ K → k ≠ MB → v.ownBlock ≠ some k → W'.heap[k]? = W.heap[k]?
def VUp (W : World) (v v' : Value) : Prop := v'.ownBlock = v.ownBlock ∨ ∀ k, v'.ownBlock = some k → W.heap.size ≤ k
theorem VUp.refl (W : World) (v : Value) : VUp W v v := Or.inl rfl
theorem VUp.trans {W W1 : World} {v v1 v2 : Value} (h : VUp W v v1) (k : VUp W1 v1 v2) (hs : W.heap.size ≤ W1.heap.size) : VUp W v v2 := by
 rcases k with k | k
 · rcases h with h | h
   · exact Or.inl (k.trans h)
   · exact Or.inr (fun g hg => h g (k ▸ hg))
 · exact Or.inr (fun g hg => Nat.le_trans hs (k g hg))
theorem KbR.refl (K MB : Nat) (v : Value) (W : World) : KbR K MB v W W := ⟨rfl, rfl, rfl, Nat.le_refl _, fun _ _ _ _ _ => rfl⟩
theorem KbR.of_below {K MB : Nat} {v : Value} {W W' : World} (h : Below W.heap.size W W') : KbR K MB v W W' := ⟨h.os, h.tape, h.output, h.size, fun k hk _ _ _ => h.block k hk⟩
theorem KbR.trans {K MB : Nat} {v v1 : Value} {W W1 W2 : World} (h : KbR K MB v W W1) (k : KbR K MB v1 W1 W2) (hv : VUp W v v1) : KbR K MB v W W2 :=
 ⟨k.os.trans h.os, k.tape.trans h.tape, k.output.trans h.output, Nat.le_trans h.size k.size, fun i hi h1 h2 h3 => (k.block i (Nat.lt_of_lt_of_le hi h.size) h1 h2 (fun e => by
   rcases hv with hv | hv
   · exact h3 (hv ▸ e)
   · have := hv i e; omega)).trans (h.block i hi h1 h2 h3)⟩
theorem KbR.to_below {K MB B : Nat} {v : Value} {W W' : World} (h : KbR K MB v W W') (hK : B ≤ K) (hM : B ≤ MB) (hv : ∀ k, v.ownBlock = some k → B ≤ k) (hB : B ≤ W.heap.size) : Below B W W' :=
 ⟨h.os, h.tape, h.output, h.size, fun k hk => h.block k (by omega) (by omega) (by omega) (fun e => by have := hv k e; omega)⟩
def FarS (K MB : Nat) (v : Value) (a : Option Addr) (X : List Nm) : Prop := X = [] ∨ ∀ ad, a = some ad → ad.block ≠ K ∧ ad.block ≠ MB ∧ v.ownBlock ≠ some ad.block
theorem FarS.keep {K MB : Nat} {v : Value} {W W' : World} {a : Option Addr} {c : Nat} {X : List Nm} (hf : FarS K MB v a X) (hr : SRow W a c X) (h : KbR K MB v W W') : SRow W' a c X := by
 obtain ⟨h1, h2 | ⟨b, off, rfl, hlt, hc⟩⟩ := hr
 · exact ⟨h1, Or.inl h2⟩
 · rcases hf with hf | hf
   · exact ⟨h1, Or.inl hf⟩
   · obtain ⟨n1, n2, n3⟩ := hf _ rfl
     have hb := h.block b hlt n1 n2 n3
     exact ⟨h1, Or.inr ⟨b, off, rfl, Nat.lt_of_lt_of_le hlt h.size, fun j x hx => by rw [World.cell?_of_block (a := ⟨b, off + j, none⟩) hb]; exact hc j x hx⟩⟩
theorem FarS.up {K MB : Nat} {v v' : Value} {W : World} {a : Option Addr} {c : Nat} {X : List Nm} (hf : FarS K MB v a X) (hr : SRow W a c X) (h : VUp W v v') : FarS K MB v' a X := by
 obtain ⟨h1, h2 | ⟨b, off, rfl, hlt, hc⟩⟩ := hr
 · exact Or.inl h2
 · rcases hf with hf | hf
   · exact Or.inl hf
   · refine Or.inr fun ad e => ?_
     obtain ⟨n1, n2, n3⟩ := hf ad e
     cases e
     refine ⟨n1, n2, fun e2 => ?_⟩
     rcases h with h | h
     · exact n3 (h ▸ e2)
     · have := h b e2; omega
theorem FarS.new {K MB n : Nat} {v : Value} {a : Option Addr} {X : List Nm} (hK : K < n) (hM : MB < n) (hv : ∀ k, v.ownBlock = some k → k < n) (h : ∀ ad, a = some ad → n ≤ ad.block) : FarS K MB v a X :=
 Or.inr fun ad e => ⟨by have := h ad e; omega, by have := h ad e; omega, fun e2 => by have := h ad e; have := hv _ e2; omega⟩
def FarF (K MB : Nat) (v : Value) (f : FrR) (p : FAddr) : Prop := FarS K MB v p.la f.loc ∧ FarS K MB v p.sa f.st
theorem FarF.keep {K MB : Nat} {v : Value} {W W' : World} {f : FrR} {p : FAddr} (hf : FarF K MB v f p) (hr : FrAt W f p) (h : KbR K MB v W W') : FrAt W' f p := ⟨hf.1.keep hr.1 h, hf.2.keep hr.2 h⟩
theorem FarF.up {K MB : Nat} {v v' : Value} {W : World} {f : FrR} {p : FAddr} (hf : FarF K MB v f p) (hr : FrAt W f p) (h : VUp W v v') : FarF K MB v' f p := ⟨hf.1.up hr.1 h, hf.2.up hr.2 h⟩
theorem FarF.new {K MB n : Nat} {v : Value} {f : FrR} {p : FAddr} (hK : K < n) (hM : MB < n) (hv : ∀ k, v.ownBlock = some k → k < n) (h : FNew n p) : FarF K MB v f p := ⟨.new hK hM hv h.1, .new hK hM hv h.2⟩
def FrCell (W : World) (K MB : Nat) (v : Value) : Option FrR → Option Value → Prop
 | none, y => y = none
 | some f, y => ∃ q, y = some (frV f q) ∧ FrAt W f q ∧ FarF K MB v f q
theorem FrCell.keep {W W' : World} {K MB : Nat} {v v' : Value} {o : Option FrR} {y : Option Value} (h : FrCell W K MB v o y) (hk : KbR K MB v W W') (hv : VUp W v v') : FrCell W' K MB v' o y := by
 cases o with
 | none => exact h
 | some f =>
   obtain ⟨q, h1, h2, h3⟩ := h
   exact ⟨q, h1, h3.keep h2 hk, h3.up h2 hv⟩
def lkArr (b : Nat) (m : MethR) (p : MAddr) (MB : Nat) (v : Value) : Array Value :=
 #[.map (some b), .string ⟨⟨m.nm⟩⟩, .string ⟨⟨m.ty⟩⟩, .bool m.stat, .bool m.abst, .bool m.priv, .int .i64 m.loc, .slice p.ca m.code.length p.cc, .slice p.ha m.hs.length p.hc, .map (some MB), v]
structure LkAt (W : World) (B K MB b : Nat) (m : MethR) (p : MAddr) (s : LkSt) (v : Value) : Prop where
 blk : Blk W K 146 (lkArr b m p MB v)
 fr : ∃ n F, IMap W MB n F ∧ ∀ z, FrCell W K MB v (s.fr z) (F z)
 qu : QueAt W B 3 v (s.todo.map intV)
 bK : B ≤ K
 bM : B ≤ MB
section
variable {W : World} {B K MB b : Nat} {m : MethR} {p : MAddr} {s : LkSt} {v : Value}
theorem LkAt.mlt (h : LkAt W B K MB b m p s v) : MB < W.heap.size := by obtain ⟨n, F, h1, _⟩ := h.fr; exact h1.lt
theorem LkAt.klt (h : LkAt W B K MB b m p s v) : K < W.heap.size := h.blk.lt
theorem LkAt.vlt (h : LkAt W B K MB b m p s v) : ∀ k, v.ownBlock = some k → k < W.heap.size := fun k hk => (h.qu.lt k hk).2
theorem LkAt.vb (h : LkAt W B K MB b m p s v) : ∀ k, v.ownBlock = some k → B ≤ k := fun k hk => (h.qu.lt k hk).1
theorem LkAt.ne (h : LkAt W B K MB b m p s v) : K ≠ MB := fun e => by
 obtain ⟨n, F, ⟨es, clock, h1, _⟩, _⟩ := h.fr
 have h2 : W.heap[K]? = some (.cells _ _ (0, 0)) := h.blk
 rw [← e, h2] at h1
 simp at h1
theorem LkAt.nvK (h : LkAt W B K MB b m p s v) : v.ownBlock ≠ some K := fun e => by
 rcases h.qu with ⟨rfl, _⟩ | ⟨g, off, cap, cur, rfl, _, hg, _⟩
 · cases e
 · simp only [Value.ownBlock, Option.some.injEq] at e
   subst e
   rw [show W.heap[g]? = some (.cells _ _ (0, 0)) from h.blk] at hg
   simp at hg
theorem LkAt.nvM (h : LkAt W B K MB b m p s v) : v.ownBlock ≠ some MB := fun e => by
 obtain ⟨n, F, ⟨es, clock, h1, _⟩, _⟩ := h.fr
 rcases h.qu with ⟨rfl, _⟩ | ⟨g, off, cap, cur, rfl, _, hg, _⟩
 · cases e
 · simp only [Value.ownBlock, Option.some.injEq] at e
   subst e
   rw [h1] at hg
   simp at hg
theorem LkAt.below {W' : World} (h : LkAt W B K MB b m p s v) (hb : Below W.heap.size W W') : LkAt W' B K MB b m p s v := by
 obtain ⟨n, F, h1, h2⟩ := h.fr
 exact ⟨h.blk.below hb, ⟨n, F, h1.below hb, fun z => (h2 z).keep (.of_below hb) (.refl _ _)⟩, h.qu.below hb, h.bK, h.bM⟩
theorem LkAt.at_ (h : LkAt W B K MB b m p s v) (z : Int) : ∃ n F, IMap W MB n F ∧ FrCell W K MB v (s.fr z) (F z) := by
 obtain ⟨n, F, h1, h2⟩ := h.fr
 exact ⟨n, F, h1, h2 z⟩
theorem LkAt.k2b {W' : World} (h : LkAt W B K MB b m p s v) (hk : KbR K MB v W W') : Below B W W' := hk.to_below h.bK h.bM h.vb (Nat.le_trans h.bK (Nat.le_of_lt h.klt))
theorem LkAt.push {W1 W2 W3 : World} {z : Int} {zn : Nat} {f : FrR} {q : FAddr} {n : Nat} {F : Int → Option Value} {v' : Value} (h : LkAt W B K MB b m p s v) (hF : ∀ z, FrCell W K MB v (s.fr z) (F z)) (hz : z = zn)
   (h1 : IMap W1 MB n (putf F z (frV f q))) (g1 : W.grownBy W1 (some MB)) (hf : FrAt W f q) (hfar : FarF K MB v f q)
   (h2 : QueAt W2 B 3 v' (s.todo.map intV ++ [intV zn])) (g2 : W1.grownBy W2 v.ownBlock) (hv : VUp W v v')
   (h3 : W3 = W2.setCell ⟨K, 10, none⟩ v') :
   LkAt W3 B K MB b m p ⟨updF s.fr z f, s.todo ++ [zn]⟩ v' ∧ KbR K MB v W W3 := by
 have hkb : KbR K MB v W W3 := by
   rw [h3]
   refine ⟨?_, ?_, ?_, ?_, fun k hk n1 n2 n3 => ?_⟩
   · exact g2.os.trans g1.os
   · exact g2.tape.trans g1.tape
   · exact g2.output.trans g1.output
   · have := g1.size; have := g2.size; simp [World.setCell]; omega
   · rw [Below.heap_setCell _ _ _ _ (by exact n1), g2.block k (Nat.lt_of_lt_of_le hk g1.size) (fun e => n3 e.symm), g1.block k hk (by simpa using n2)]
 have hne := h.ne
 have hqM : v'.ownBlock ≠ some MB := by
   rcases hv with hv | hv
   · rw [hv]; exact h.nvM
   · intro e; have := hv _ e; have := h.mlt; omega
 have hqK : v'.ownBlock ≠ some K := by
   rcases hv with hv | hv
   · rw [hv]; exact h.nvK
   · intro e; have := hv _ e; have := h.klt; omega
 refine ⟨⟨?_, ⟨n, putf F z (frV f q), ?_, fun y => ?_⟩, ?_, h.bK, h.bM⟩, hkb⟩
 · have hb1 : Blk W1 K 146 (lkArr b m p MB v) := (g1.block K h.klt (by simpa using hne)).trans h.blk
   have hb2 : Blk W2 K 146 (lkArr b m p MB v) := (g2.block K (Nat.lt_of_lt_of_le h.klt g1.size) (fun e => h.nvK e.symm)).trans hb1
   rw [h3]
   exact blk_set hb2 10 v'
 · refine h1.kept ?_
   rw [h3, Below.heap_setCell _ _ _ _ (by exact fun e => hne e.symm)]
   exact g2.block MB (Nat.lt_of_lt_of_le h.mlt g1.size) (fun e => h.nvM e.symm)
 · show FrCell W3 K MB v' (updF s.fr z f y) (putf F z (frV f q) y)
   by_cases e : y = z
   · subst e
     rw [updF_same, putf_same]
     exact ⟨q, rfl, hfar.keep hf hkb, hfar.up hf hv⟩
   · rw [updF_other _ _ _ e, putf_other _ _ _ e]
     exact (hF y).keep hkb hv
 · rw [List.map_append]
   refine h2.kept (fun g hg => ?_)
   rw [h3]
   exact Below.heap_setCell _ _ _ _ (fun e => hqK (by rw [hg, e]))
end
def MeetRes (B K MB b : Nat) (m : MethR) (p : MAddr) (v : Value) (r : Option LkSt) (w : World) (e : Ending) (w' : World) : Prop :=
 Below B w w' ∧ KbR K MB v w w' ∧ ((r = none ∧ e = .returned (.bool false)) ∨ ∃ s' v', r = some s' ∧ e = .returned (.bool true) ∧ LkAt w' B K MB b m p s' v' ∧ VUp w v v')
theorem zero_frame (w : World) : (zeroValue 67).run Tryz.prog w = .ok (.agg #[.slice none 0 0, .slice none 0 0]) w := by kernel_rfl
theorem wf_nat (z : Nat) (h : z ≤ 1000000) : (Lit.int .i64 (z : Int)).wf = true := by
 simp [Lit.wf, IntKind.min, IntKind.max, IntKind.signed, IntKind.bits]; omega
theorem mu_todo (L : List ClassR) (n : Nat) (s : LkSt) : s.todo.length ≤ mu L n s := by unfold mu; omega
theorem meet_new (L : List ClassR) (B K MB b : Nat) (m : MethR) (p : MAddr) (s : LkSt) (v : Value) (z : Nat) (g : FrR) (pg : FAddr) (w : World) (hL : LkAt w B K MB b m p s v) (hz : z ≤ 1000000) (hf : FrAt w g pg) (hfar : FarF K MB v g pg) (ht : s.todo.length ≤ 1000000) (hn : s.fr z = none) :
   Calls Tryz.prog 73 #[.pointer (some ⟨K, 0, none⟩), .int .i64 z, frV g pg] w (MeetRes B K MB b m p v (meetF L s z g) w) := by
 obtain ⟨av, cv, hv, _⟩ := hL.qu.form
 rw [List.length_map] at hv
 subst hv
 have HL0 := Hd hL
 obtain ⟨w1, hw1⟩ : ∃ w1, w1 = w.alloc (.cells #[.slice pg.la g.loc.length pg.lc, .slice pg.sa g.st.length pg.sc] 67) := ⟨_, rfl⟩
 have hb1 : Below w.heap.size w w1 := by rw [hw1]; exact bl_alloc (Below.refl _ _) _
 have hs1 : w1.heap.size = w.heap.size + 1 := by rw [hw1]; simp
 have HT1 := Hd (show Blk w1 w.heap.size 67 #[.slice pg.la g.loc.length pg.lc, .slice pg.sa g.st.length pg.sc] by rw [hw1]; exact blk_new _ _ _ _ rfl)
 have HL1 := Hd (hL.below hb1)
 obtain ⟨n1, F1, hI1, hF1⟩ := HL1.out.fr
 have hF0 : F1 (z : Int) = none := by
   have := hF1 z
   rw [hn] at this
   exact this
 have hlk := IMap.look_none (P := Tryz.prog) (w := w1) (k := 3) (t := 106) (e := 67) Tryz.underlying3 Tryz.underlying106 hI1 (wf_nat z hz) hF0 (zero_frame _) true
 simp only [if_true] at hlk
 obtain ⟨w2, hw2⟩ : ∃ w2, w2 = w1.alloc (.cells #[.slice none 0 0, .slice none 0 0] 67) := ⟨_, rfl⟩
 have hb12 : Below w1.heap.size w1 w2 := by rw [hw2]; exact bl_alloc (Below.refl _ _) _
 have HB2 := Hd (bl_trans hb1 hb12)
 have HT5 := Hd (HT1.out.below hb12)
 have HL2 := Hd (HL1.out.below hb12)
 have HFG := Hd (hf.below HB2.out)
 have HFAR := Hd hfar
 have HE := Hd (meetF_new (L := L) (f := g) hn)
 have HZ := Hd hz
 have HT := Hd ht
 have c1 := HL1.out.blk.cell 9
 have c2 := HL1.out.klt
 unfold lkArr at c1
 unfold frV
 clear hL hz hf hfar ht hn hb1 hb12 hI1 hF1 hF0
 go_enter Tryz.func73, Tryz.ntmps73
 go_upto_region 1 with fail
 rw [← hw1]
 clear hw1
 go_upto_region 7 with fail
 rw [← hw2]
 clear hw2 c1 c2 hlk
 obtain ⟨n3, F3, hI3, hF3⟩ := HL2.out.fr
 obtain ⟨w3, hst3, hI3', hg3⟩ := IMap.set (P := Tryz.prog) (w := w2.drew) (k := 3) (t := 106) (e := 67) Tryz.underlying3 Tryz.underlying106 (show IMap w2.drew MB n3 F3 from hI3) (wf_nat z HZ.out) (frV g pg)
 have HF3 := Hd hF3
 have HI3 := Hd hI3'
 have HG3 := Hd hg3
 have k3 : (w2.drew).cell? ⟨K, 9, none⟩ = some (.map (some MB)) := HL2.out.blk.cell 9
 have k4 := HL2.out.blk.cell 9
 have k5 := HL2.out.klt
 have HK3 := Hd (show Blk w3 K 146 (lkArr b m p MB (.slice av s.todo.length cv)) from (hg3.block K k5 (by simpa using HL2.out.ne)).trans HL2.out.blk)
 have k6 := HK3.out.cell 10
 have k7 := HK3.out.lt
 have b0 := HT5.out.cell 0
 have b1 := HT5.out.cell 1
 have b2 := HT5.out.lt
 have hs3 : w2.heap.size ≤ w3.heap.size := hg3.size
 have hs2 := HB2.out.size
 clear hI3 hF3 hI3' hg3
 unfold lkArr at k3 k4 k6
 unfold frV at hst3
 go_region
 go_wp2_with (at_builtin; refine wpList_que_push rowInt rfl _ _ rfl B _ (s.todo.map intV) rfl ?c0 ⟨w3.heap.size, 0, none⟩ 1 (intV z) rfl ?c1 ?c2 ?c3 ?c4 ?c5 ?_)
 case c0 => exact (HL2.out.qu.kept (w' := w3) (fun k hk => HG3.out.block k (HL2.out.vlt k hk) (fun e => HL2.out.nvM (by rw [hk, Option.some.inj e])))).below (bl_alloc (Below.refl _ _) _)
 first | (case c1 => rw [World.cell?_alloc_new]; rfl) | skip
 case c2 => rfl
 case c3 => have := HT.out; simp; omega
 case c4 => have := HT.out; simp; omega
 case c5 => have := HL2.out.bK; simp; omega
 intro v4 w4 hq4 hg4 ho4
 have HQ4 := Hd hq4
 have HG4 := Hd hg4
 have HO4 := Hd ho4
 have HV4 := Hd (show VUp w2 (.slice av s.todo.length cv) v4 from by
   rcases ho4 with h | h
   · exact Or.inl h
   · exact Or.inr (fun k hk => by rw [h] at hk; cases hk; first | omega | (simp; omega)))
 have hk4 : Blk w4 K 146 (lkArr b m p MB (.slice av s.todo.length cv)) := (hg4.block K (by simp; omega) (fun e => HL2.out.nvK e.symm)).trans ((HK3.out.alloc (.cells #[intV z] 3)))
 have k8 := hk4.cell 10
 have k9 := hk4.frozen 10
 have k10 := hk4.lt
 obtain ⟨a4, c4, hv4, _⟩ := hq4.form
 simp only [List.length_append, List.length_map, List.length_cons, List.length_nil] at hv4
 obtain ⟨hl9, hk9⟩ := LkAt.push (W3 := w4.setCell ⟨K, 10, none⟩ v4) HL2.out HF3.out rfl (HI3.out.below (bl_alloc (Below.refl _ _) (.cells #[intV z] 3))) (gb_alloc (gb_trans (gb_drew (gb_refl w2 MB)) HG3.out) (.cells #[intV z] 3)) HFG.out HFAR.out HQ4.out HG4.out HV4.out rfl
 have HL9 := Hd hl9
 have HK9 := Hd ((KbR.of_below HB2.out).trans hk9 (.refl _ _))
 have HV9 := Hd ((VUp.refl w _).trans HV4.out hs2)
 clear hq4 hg4 ho4 hk4 hl9 hk9 k3 k4 k5 k6 k7 b0 b1 b2 hst3
 subst hv4
 unfold lkArr at k8
 go_wp2_with fail
 go_ret
 exact ⟨HL0.out.k2b HK9.out, HK9.out, Or.inr ⟨_, _, HE.out, rfl, HL9.out, HV9.out⟩⟩
def slc (a : Option Addr) (n c : Nat) (b : Option Addr) (n2 c2 : Nat) : Array Value := #[.slice a n c, .slice b n2 c2]
theorem info_frame : (Tryz.prog.info? 67).map (·.size) = some 2 := by kernel_rfl
theorem slc_one (a : Option Addr) (n c : Nat) (b : Option Addr) (n2 c2 : Nat) : (slc a n c b n2 c2).all (·.oneCell') = true := by simp [slc, Value.oneCell']
theorem fstore_new (w4 : World) (a : Option Addr) (n c : Nat) (b : Option Addr) (n2 c2 : Nat) : ∃ w5, (storeCells ⟨w4.heap.size, 0, none⟩ (slc a n c b n2 c2).toList).run Tryz.prog (w4.alloc (.cells #[.slice none 0 0, .slice none 0 0] 67)) = .ok () w5 ∧ Below w4.heap.size w4 w5 ∧ Blk w5 w4.heap.size 67 (slc a n c b n2 c2) :=
 ⟨_, run_storeCells_new (P := Tryz.prog) w4 67 _ (slc a n c b n2 c2) info_frame rfl (slc_one _ _ _ _ _ _), bl_alloc (Below.refl _ _) _, blk_new _ _ _ _ rfl⟩
theorem fstore_old (w4 : World) (g : Nat) (a : Option Addr) (n c : Nat) (b : Option Addr) (n2 c2 : Nat) (hk : Blk w4 g 67 #[.slice none 0 0, .slice none 0 0]) : ∃ w5, (storeCells ⟨g, 0, none⟩ (slc a n c b n2 c2).toList).run Tryz.prog w4 = .ok () w5 ∧ w4.grownBy w5 (some g) ∧ Blk w5 g 67 (slc a n c b n2 c2) :=
 ⟨_, run_storeCells_from (P := Tryz.prog) g 67 (slc a n c b n2 c2).toList 0 _ w4 hk rfl (fun v hv => (Array.all_eq_true_iff_forall_mem.1 (slc_one a n c b n2 c2)) v (by simpa using hv)), setRow_grown _ _ _, setRow_heap _ _ _ _ _ _ hk⟩
theorem bothres {l : List ClassR} {fa fb : FrR} {w w' : World} {e : Ending} (h : BothResN l fa fb w e w') : ∃ (a b : Option Addr) (n1 c1 n2 c2 : Nat) (is : Bool), e = .returned (.tuple #[.agg (slc a n1 c1 b n2 c2), .bool is]) ∧ Below w.heap.size w w' ∧
   ((is = false ∧ ¬ sameSh fa fb) ∨ (is = true ∧ sameSh fa fb ∧ n1 = (joinF (wl l) fa fb).loc.length ∧ n2 = (joinF (wl l) fa fb).st.length ∧ FrAt w' (joinF (wl l) fa fb) ⟨a, c1, b, c2⟩ ∧ FNew w.heap.size ⟨a, c1, b, c2⟩)) := by
 obtain ⟨hb, ⟨h1, rfl⟩ | ⟨h1, q, rfl, h2, h3⟩⟩ := h
 · exact ⟨none, none, 0, 0, 0, 0, false, rfl, hb, Or.inl ⟨rfl, h1⟩⟩
 · exact ⟨q.la, q.sa, _, q.lc, _, q.sc, true, rfl, hb, Or.inr ⟨rfl, h1, rfl, rfl, h2, h3⟩⟩
theorem meet_old (l : List ClassR) (LC : List CP) (B K MB b : Nat) (m : MethR) (p : MAddr) (s : LkSt) (v : Value) (z : Nat) (f : FrR) (q : FAddr) (was : FrR) (w : World) (hW : WOk w b l LC) (hL : LkAt w B K MB b m p s v) (hz : z ≤ 1000000) (hf : FrAt w f q) (hkf : KOk (wl l) f) (hkw : KOk (wl l) was) (ht : s.todo.length ≤ 1000000) (hn : s.fr z = some was) :
   Calls Tryz.prog 73 #[.pointer (some ⟨K, 0, none⟩), .int .i64 z, frV f q] w (MeetRes B K MB b m p v (meetF (wl l) s z f) w) := by
 obtain ⟨av, cv, hv, _⟩ := hL.qu.form
 rw [List.length_map] at hv
 subst hv
 have HL0 := Hd hL
 obtain ⟨w1, hw1⟩ : ∃ w1, w1 = w.alloc (.cells #[.slice q.la f.loc.length q.lc, .slice q.sa f.st.length q.sc] 67) := ⟨_, rfl⟩
 have hb1 : Below w.heap.size w w1 := by rw [hw1]; exact bl_alloc (Below.refl _ _) _
 have hs1 : w1.heap.size = w.heap.size + 1 := by rw [hw1]; simp
 have HT1 := Hd (show Blk w1 w.heap.size 67 #[.slice q.la f.loc.length q.lc, .slice q.sa f.st.length q.sc] by rw [hw1]; exact blk_new _ _ _ _ rfl)
 have HL1 := Hd (hL.below hb1)
 obtain ⟨n1, F1, hI1, hF1⟩ := HL1.out.at_ (z : Int)
 rw [hn] at hF1
 obtain ⟨qw, hq1, hq2, hq3⟩ := hF1
 have hlk := IMap.look_some (P := Tryz.prog) (w := w1) (k := 3) (t := 106) (e := 67) Tryz.underlying3 Tryz.underlying106 hI1 (wf_nat z hz) hq1 true
 simp only [if_true] at hlk
 obtain ⟨u2, hw2⟩ : ∃ w2, w2 = w1.alloc (.cells #[.slice qw.la was.loc.length qw.lc, .slice qw.sa was.st.length qw.sc] 67) := ⟨_, rfl⟩
 have hb12 : Below w1.heap.size w1 u2 := by rw [hw2]; exact bl_alloc (Below.refl _ _) _
 have hs2' : u2.heap.size = w.heap.size + 1 + 1 := by rw [hw2]; simp; omega
 have HB2' := Hd (bl_trans hb1 hb12)
 have HT2 := Hd (HT1.out.below hb12)
 have HU2 := Hd (show Blk u2 (w.heap.size + 1) 67 #[.slice qw.la was.loc.length qw.lc, .slice qw.sa was.st.length qw.sc] by rw [hw2]; exact blk_new _ _ _ _ hs1.symm)
 have HL2' := Hd (HL1.out.below hb12)
 have HFW := Hd (hq2.below hb12)
 have HFF := Hd (hf.below HB2'.out)
 have HZ := Hd hz
 have HT := Hd ht
 have HN := Hd hn
 have HKW := Hd hkw
 have HG8 := Hd (show (joinF (wl l) was f).loc.length ≤ 100000 ∧ (joinF (wl l) was f).st.length ≤ 100000 from by
   have h1 : (joinF (wl l) was f).loc.length ≤ was.loc.length := by unfold joinF; simp; omega
   have h2 : (joinF (wl l) was f).st.length ≤ was.st.length := by unfold joinF; simp; omega
   have := hkw.loc; have := hkw.st
   omega)
 have hwl8 := hkw.loc
 have hws8 := hkw.st
 have HBO := Hd (fun W (hw : Below u2.heap.size u2 W) => (both_callsN l LC b was f qw q W ((hW.below HB2'.out).below hw) (HFW.out.below hw) (HFF.out.below hw) hkw.chk hkf.chk).mono (fun e w' h => bothres h))
 have HSC := Hd (fun W (hw : Below u2.heap.size u2 W) => (show W.cell? ⟨K, 0, none⟩ = some (.map (some b)) ∧ W.cell? ⟨w.heap.size + 1, 0, none⟩ = some (.slice qw.la was.loc.length qw.lc) ∧ W.cell? ⟨w.heap.size + 1, 1, none⟩ = some (.slice qw.sa was.st.length qw.sc) ∧ W.cell? ⟨w.heap.size, 0, none⟩ = some (.slice q.la f.loc.length q.lc) ∧ W.cell? ⟨w.heap.size, 1, none⟩ = some (.slice q.sa f.st.length q.sc) from
   ⟨(HL2'.out.below hw).blk.cell 0, (HU2.out.below hw).cell 0, (HU2.out.below hw).cell 1, (HT2.out.below hw).cell 0, (HT2.out.below hw).cell 1⟩))
 have HAL := Hd (show Below u2.heap.size u2 (u2.alloc (.cells #[.slice none 0 0, .slice none 0 0] 67)).drew from (bl_alloc (Below.refl _ _) _).drew)
 have HZ1 := Hd (show Blk (u2.alloc (.cells #[.slice none 0 0, .slice none 0 0] 67)).drew (w.heap.size + 1 + 1) 67 #[.slice none 0 0, .slice none 0 0] from by have h := blk_new u2 u2.heap.size 67 #[.slice none 0 0, .slice none 0 0] rfl; rw [hs2'] at h; exact h)
 have c1 := HL1.out.blk.cell 9
 have c2 := HL1.out.klt
 have c3 := HL2'.out.klt
 unfold lkArr at c1
 unfold frV at hlk HBO
 unfold frV
 clear hL hz hf hkf hkw ht hn hb1 hb12 hI1 hq1 hq2 hq3 hW
 go_enter Tryz.func73, Tryz.ntmps73
 go_upto_region 1 with fail
 rw [← hw1]
 clear hw1
 go_upto_region 3 with fail
 rw [← hw2]
 clear hw2 c1 c2 hlk
 go_region_held3 (fun W' => W'.cell? ⟨K, 0, none⟩ = some (.map (some b)) ∧ W'.cell? ⟨w.heap.size + 1, 0, none⟩ = some (.slice qw.la was.loc.length qw.lc) ∧ W'.cell? ⟨w.heap.size + 1, 1, none⟩ = some (.slice qw.sa was.st.length qw.sc) ∧ W'.cell? ⟨w.heap.size, 0, none⟩ = some (.slice q.la f.loc.length q.lc) ∧ W'.cell? ⟨w.heap.size, 1, none⟩ = some (.slice q.sa f.st.length q.sc))
   (first | exact HSC.out _ (Below.refl _ _) | exact HSC.out _ (Below.refl _ _).drew | exact HSC.out _ HAL.out | exact HSC.out _ (bl_alloc (Below.refl _ _) _) | exact HSC.out _ (bl_alloc (Below.refl _ _).drew _) | exact HSC.out _ hb5 | exact HSC.out _ hb5.drew | exact HSC.out _ hbA | exact HSC.out _ (bl_alloc hbA _))
   ((first
   | (go_at_call 38
      with_reducible refine (HBO.out u2.drew (Below.refl _ _).drew).mono ?_
      rintro e wb ⟨ga, gb, n1, gc1, n2, gc2, is, rfl, hbb, hor⟩
      have hbA := bl_trans (Below.refl u2.heap.size u2).drew hbb
      obtain ⟨w5, hst5, hb5', hk5⟩ := fstore_new wb ga n1 gc1 gb n2 gc2
      have hb5 := bl_trans hbA hb5'
      have hfa : ∀ g q, FrAt wb g q → FNew u2.drew.heap.size q → FrAt w5 g q := fun g q h _ => h.below hb5'
      have hnw : ∀ q, FNew u2.drew.heap.size q → FNew u2.heap.size q := fun q h => h
      have hsb5 : wb.heap.size ≤ w5.heap.size := hb5'.size
      have ht5 : u2.heap.size ≤ wb.heap.size := hbA.size
      obtain ⟨T9, hT9⟩ : ∃ T, T = wb.heap.size := ⟨_, rfl⟩)
   | (go_at_call 38
      with_reducible refine (HBO.out (u2.alloc (.cells #[.slice none 0 0, .slice none 0 0] 67)).drew HAL.out).mono ?_
      rintro e wb ⟨ga, gb, n1, gc1, n2, gc2, is, rfl, hbb, hor⟩
      have hbA := bl_trans HAL.out hbb
      obtain ⟨w5, hst5, hg5, hk5⟩ := fstore_old wb (w.heap.size + 1 + 1) ga n1 gc1 gb n2 gc2 (HZ1.out.below hbb)
      have hb5 := gb_to_below hbA hg5 (by omega)
      have hfa : ∀ g q, FrAt wb g q → FNew (u2.alloc (.cells #[.slice none 0 0, .slice none 0 0] 67)).drew.heap.size q → FrAt w5 g q := fun g q h hn => by
        have e9 : (u2.alloc (.cells #[.slice none 0 0, .slice none 0 0] 67)).drew.heap.size = u2.heap.size + 1 := by show (u2.alloc _).heap.size = _; simp
        rw [e9] at hn
        exact ⟨gb_srow hg5 h.1 (fun ad e => by have := hn.1 ad e; omega), gb_srow hg5 h.2 (fun ad e => by have := hn.2 ad e; omega)⟩
      have hnw : ∀ q, FNew (u2.alloc (.cells #[.slice none 0 0, .slice none 0 0] 67)).drew.heap.size q → FNew u2.heap.size q := fun q hn => by
        have e9 : (u2.alloc (.cells #[.slice none 0 0, .slice none 0 0] 67)).drew.heap.size = u2.heap.size + 1 := by show (u2.alloc _).heap.size = _; simp
        rw [e9] at hn
        exact ⟨fun ad e => by have := hn.1 ad e; omega, fun ad e => by have := hn.2 ad e; omega⟩
      have ht5 : u2.heap.size ≤ w.heap.size + 1 + 1 := by omega
      obtain ⟨T9, hT9⟩ : ∃ T, T = w.heap.size + 1 + 1 := ⟨_, rfl⟩)))
 · rw [← hT9]
   have ht9 : u2.heap.size ≤ T9 := by omega
   have HK5 := Hd (show Blk w5 T9 67 (slc ga n1 gc1 gb n2 gc2) by rw [hT9]; exact hk5)
   have HB5 := Hd hb5
   have HL5 := Hd (HL2'.out.below hb5)
   have HT5' := Hd (HT2.out.below hb5)
   have HU5 := Hd (HU2.out.below hb5)
   have HFA := Hd hfa
   have HNW := Hd hnw
   have HBW := Hd (bl_trans HB2'.out hb5)
   have hsu : u2.heap.size ≤ w5.heap.size := hb5.size
   clear hT9 hst5 hb5 hk5 hbA hbb hfa hnw c3
   rcases hor with ⟨rfl, hns⟩ | ⟨rfl, hss, rfl, rfl, hga, hgn⟩
   · have HE := Hd (meetF_bad (L := wl l) HN.out hns)
     have HKB := Hd (KbR.of_below (K := K) (MB := MB) (v := .slice av s.todo.length cv) HBW.out)
     clear hns
     go_wp2_with fail
     go_ret
     exact ⟨HL0.out.k2b HKB.out, HKB.out, Or.inl ⟨HE.out, rfl⟩⟩
   · have HFG5 := Hd (HFA.out _ _ hga hgn)
     have HGN := Hd (HNW.out _ hgn)
     have HFW5 := Hd (HFW.out.below HB5.out)
     have hj := meetF_same (L := wl l) HN.out hss
     have hj2 := meetF_up (L := wl l) HN.out hss
     clear hga hgn HFA HNW HBO
     generalize hGG : joinF (wl l) was f = G at *
     clear hGG
     have HJ := Hd hj
     have HJ2 := Hd hj2
     have hG8 : G.loc.length ≤ 100000 ∧ G.st.length ≤ 100000 := HG8.out
     have HSA := Hd (same_any G was ⟨ga, gc1, gb, gc2⟩ qw w5 HFG5.out HFW5.out hG8.1 hG8.2)
     unfold frV at HSA
     have x0 := HK5.out.cell 0
     have x1 := HK5.out.cell 1
     have x2 := HK5.out.lt
     have x3 := HU5.out.cell 0
     have x4 := HU5.out.cell 1
     have x5 := HU5.out.lt
     unfold slc at x0 x1
     clear hj hj2 hss
     cases hsb : sameB G was with
     | true =>
       rw [hsb] at HSA
       have HE := Hd (HJ.out (sameB_true.1 hsb))
       clear hsb
       go_wp2_with fail
       refine HSA.out.mono ?_
       rintro e w6 ⟨rfl, hb6⟩
       have HB6 := Hd (bl_trans HBW.out hb6)
       have HKB := Hd (KbR.of_below (K := K) (MB := MB) (v := .slice av s.todo.length cv) HB6.out)
       have HL6 := Hd (HL0.out.below HB6.out)
       clear hb6
       go_wp2_with fail
       go_ret
       exact ⟨HL0.out.k2b HKB.out, HKB.out, Or.inr ⟨_, _, HE.out, rfl, HL6.out, .refl _ _⟩⟩
     | false =>
       rw [hsb] at HSA
       have HE := Hd (HJ2.out (fun e => by rw [sameB_true.2 e] at hsb; cases hsb))
       clear hsb
       go_wp2_with fail
       refine HSA.out.mono ?_
       rintro e w6 ⟨rfl, hb6⟩
       have HB6 := Hd (bl_trans HBW.out hb6)
       have HT6 := Hd (HT5'.out.below hb6)
       have HK6 := Hd (HK5.out.below hb6)
       have hs6 := hb6.size
       clear x0 x1 x2 x3 x4 x5
       have x0 := HK6.out.cell 0
       have x1 := HK6.out.cell 1
       have x2 := HK6.out.lt
       have x3 := HT6.out.cell 0
       have x4 := HT6.out.cell 1
       have x5 := HT6.out.lt
       have x6 := HT6.out.frozen 0
       have x7 := HT6.out.frozen 1
       unfold slc at x0 x1
       obtain ⟨w2, hw2⟩ : ∃ w2, w2 = (w6.setCell ⟨w.heap.size, 0, none⟩ (.slice ga G.loc.length gc1)).setCell ⟨w.heap.size, 1, none⟩ (.slice gb G.st.length gc2) := ⟨_, rfl⟩
       have HT5 := Hd (show Blk w2 w.heap.size 67 #[.slice ga G.loc.length gc1, .slice gb G.st.length gc2] by rw [hw2]; exact blk_set (blk_set HT6.out 0 _) 1 _)
       have HB2 := Hd (show Below w.heap.size w w2 by rw [hw2]; exact (HB6.out.setCell (p := ⟨w.heap.size, 0, none⟩) (Nat.le_refl _) _).setCell (p := ⟨w.heap.size, 1, none⟩) (Nat.le_refl _) _)
       have HL2 := Hd (HL0.out.below HB2.out)
       have hfg6 := HFG5.out.below hb6
       have hgb : w6.grownBy w2 (some w.heap.size) := by rw [hw2]; exact gb_set (gb_set (gb_refl w6 w.heap.size) 0 _) 1 _
       have HFG := Hd (show FrAt w2 G ⟨ga, gc1, gb, gc2⟩ from ⟨gb_srow hgb hfg6.1 (fun ad e => by have := HGN.out.1 ad e; omega), gb_srow hgb hfg6.2 (fun ad e => by have := HGN.out.2 ad e; omega)⟩)
       have HFAR := Hd (show FarF K MB (.slice av s.todo.length cv) G ⟨ga, gc1, gb, gc2⟩ from FarF.new (n := w.heap.size) HL0.out.klt HL0.out.mlt HL0.out.vlt ⟨fun ad e => by have := HGN.out.1 ad e; omega, fun ad e => by have := HGN.out.2 ad e; omega⟩)
       clear hb6 hfg6 hgb
       go_upto_region 7 with fail
       rw [← hw2]
       clear hw2 x0 x1 x2 x3 x4 x5 x6 x7
       obtain ⟨n3, F3, hI3, hF3⟩ := HL2.out.fr
       obtain ⟨w3, hst3, hI3', hg3⟩ := IMap.set (P := Tryz.prog) (w := w2.drew) (k := 3) (t := 106) (e := 67) Tryz.underlying3 Tryz.underlying106 (show IMap w2.drew MB n3 F3 from hI3) (wf_nat z HZ.out) (frV G ⟨ga, gc1, gb, gc2⟩)
       have HF3 := Hd hF3
       have HI3 := Hd hI3'
       have HG3 := Hd hg3
       have k3 : (w2.drew).cell? ⟨K, 9, none⟩ = some (.map (some MB)) := HL2.out.blk.cell 9
       have k4 := HL2.out.blk.cell 9
       have k5 := HL2.out.klt
       have HK3 := Hd (show Blk w3 K 146 (lkArr b m p MB (.slice av s.todo.length cv)) from (hg3.block K k5 (by simpa using HL2.out.ne)).trans HL2.out.blk)
       have k6 := HK3.out.cell 10
       have k7 := HK3.out.lt
       have b0 := HT5.out.cell 0
       have b1 := HT5.out.cell 1
       have b2 := HT5.out.lt
       have hs3 : w2.heap.size ≤ w3.heap.size := hg3.size
       have hs2 := HB2.out.size
       clear hI3 hF3 hI3' hg3
       unfold lkArr at k3 k4 k6
       unfold frV at hst3
       go_region
       go_wp2_with (at_builtin; refine wpList_que_push rowInt rfl _ _ rfl B _ (s.todo.map intV) rfl ?c0 ⟨w3.heap.size, 0, none⟩ 1 (intV z) rfl ?c1 ?c2 ?c3 ?c4 ?c5 ?_)
       case c0 => exact (HL2.out.qu.kept (w' := w3) (fun k hk => HG3.out.block k (HL2.out.vlt k hk) (fun e => HL2.out.nvM (by rw [hk, Option.some.inj e])))).below (bl_alloc (Below.refl _ _) _)
       first | (case c1 => rw [World.cell?_alloc_new]; rfl) | skip
       case c2 => rfl
       case c3 => have := HT.out; simp; omega
       case c4 => have := HT.out; simp; omega
       case c5 => have := HL2.out.bK; simp; omega
       intro v4 w4 hq4 hg4 ho4
       have HQ4 := Hd hq4
       have HG4 := Hd hg4
       have HO4 := Hd ho4
       have HV4 := Hd (show VUp w2 (.slice av s.todo.length cv) v4 from by
         rcases ho4 with h | h
         · exact Or.inl h
         · exact Or.inr (fun k hk => by rw [h] at hk; cases hk; first | omega | (simp; omega)))
       have hk4 : Blk w4 K 146 (lkArr b m p MB (.slice av s.todo.length cv)) := (hg4.block K (by simp; omega) (fun e => HL2.out.nvK e.symm)).trans ((HK3.out.alloc (.cells #[intV z] 3)))
       have k8 := hk4.cell 10
       have k9 := hk4.frozen 10
       have k10 := hk4.lt
       obtain ⟨a4, c4, hv4, _⟩ := hq4.form
       simp only [List.length_append, List.length_map, List.length_cons, List.length_nil] at hv4
       obtain ⟨hl9, hk9⟩ := LkAt.push (W3 := w4.setCell ⟨K, 10, none⟩ v4) HL2.out HF3.out rfl (HI3.out.below (bl_alloc (Below.refl _ _) (.cells #[intV z] 3))) (gb_alloc (gb_trans (gb_drew (gb_refl w2 MB)) HG3.out) (.cells #[intV z] 3)) HFG.out HFAR.out HQ4.out HG4.out HV4.out rfl
       have HL9 := Hd hl9
       have HK9 := Hd ((KbR.of_below HB2.out).trans hk9 (.refl _ _))
       have HV9 := Hd ((VUp.refl w _).trans HV4.out hs2)
       clear hq4 hg4 ho4 hk4 hl9 hk9 k3 k4 k5 k6 k7 b0 b1 b2 hst3
       subst hv4
       unfold lkArr at k8
       go_wp2_with fail
       go_ret
       exact ⟨HL0.out.k2b HK9.out, HK9.out, Or.inr ⟨_, _, HE.out, rfl, HL9.out, HV9.out⟩⟩
 · rw [← hT9]
   have ht9 : u2.heap.size ≤ T9 := by omega
   have HK5 := Hd (show Blk w5 T9 67 (slc ga n1 gc1 gb n2 gc2) by rw [hT9]; exact hk5)
   have HB5 := Hd hb5
   have HL5 := Hd (HL2'.out.below hb5)
   have HT5' := Hd (HT2.out.below hb5)
   have HU5 := Hd (HU2.out.below hb5)
   have HFA := Hd hfa
   have HNW := Hd hnw
   have HBW := Hd (bl_trans HB2'.out hb5)
   have hsu : u2.heap.size ≤ w5.heap.size := hb5.size
   clear hT9 hst5 hb5 hk5 hbA hbb hfa hnw c3
   rcases hor with ⟨rfl, hns⟩ | ⟨rfl, hss, rfl, rfl, hga, hgn⟩
   · have HE := Hd (meetF_bad (L := wl l) HN.out hns)
     have HKB := Hd (KbR.of_below (K := K) (MB := MB) (v := .slice av s.todo.length cv) HBW.out)
     clear hns
     go_wp2_with fail
     go_ret
     exact ⟨HL0.out.k2b HKB.out, HKB.out, Or.inl ⟨HE.out, rfl⟩⟩
   · have HFG5 := Hd (HFA.out _ _ hga hgn)
     have HGN := Hd (HNW.out _ hgn)
     have HFW5 := Hd (HFW.out.below HB5.out)
     have hj := meetF_same (L := wl l) HN.out hss
     have hj2 := meetF_up (L := wl l) HN.out hss
     clear hga hgn HFA HNW HBO
     generalize hGG : joinF (wl l) was f = G at *
     clear hGG
     have HJ := Hd hj
     have HJ2 := Hd hj2
     have hG8 : G.loc.length ≤ 100000 ∧ G.st.length ≤ 100000 := HG8.out
     have HSA := Hd (same_any G was ⟨ga, gc1, gb, gc2⟩ qw w5 HFG5.out HFW5.out hG8.1 hG8.2)
     unfold frV at HSA
     have x0 := HK5.out.cell 0
     have x1 := HK5.out.cell 1
     have x2 := HK5.out.lt
     have x3 := HU5.out.cell 0
     have x4 := HU5.out.cell 1
     have x5 := HU5.out.lt
     unfold slc at x0 x1
     clear hj hj2 hss
     cases hsb : sameB G was with
     | true =>
       rw [hsb] at HSA
       have HE := Hd (HJ.out (sameB_true.1 hsb))
       clear hsb
       go_wp2_with fail
       refine HSA.out.mono ?_
       rintro e w6 ⟨rfl, hb6⟩
       have HB6 := Hd (bl_trans HBW.out hb6)
       have HKB := Hd (KbR.of_below (K := K) (MB := MB) (v := .slice av s.todo.length cv) HB6.out)
       have HL6 := Hd (HL0.out.below HB6.out)
       clear hb6
       go_wp2_with fail
       go_ret
       exact ⟨HL0.out.k2b HKB.out, HKB.out, Or.inr ⟨_, _, HE.out, rfl, HL6.out, .refl _ _⟩⟩
     | false =>
       rw [hsb] at HSA
       have HE := Hd (HJ2.out (fun e => by rw [sameB_true.2 e] at hsb; cases hsb))
       clear hsb
       go_wp2_with fail
       refine HSA.out.mono ?_
       rintro e w6 ⟨rfl, hb6⟩
       have HB6 := Hd (bl_trans HBW.out hb6)
       have HT6 := Hd (HT5'.out.below hb6)
       have HK6 := Hd (HK5.out.below hb6)
       have hs6 := hb6.size
       clear x0 x1 x2 x3 x4 x5
       have x0 := HK6.out.cell 0
       have x1 := HK6.out.cell 1
       have x2 := HK6.out.lt
       have x3 := HT6.out.cell 0
       have x4 := HT6.out.cell 1
       have x5 := HT6.out.lt
       have x6 := HT6.out.frozen 0
       have x7 := HT6.out.frozen 1
       unfold slc at x0 x1
       obtain ⟨w2, hw2⟩ : ∃ w2, w2 = (w6.setCell ⟨w.heap.size, 0, none⟩ (.slice ga G.loc.length gc1)).setCell ⟨w.heap.size, 1, none⟩ (.slice gb G.st.length gc2) := ⟨_, rfl⟩
       have HT5 := Hd (show Blk w2 w.heap.size 67 #[.slice ga G.loc.length gc1, .slice gb G.st.length gc2] by rw [hw2]; exact blk_set (blk_set HT6.out 0 _) 1 _)
       have HB2 := Hd (show Below w.heap.size w w2 by rw [hw2]; exact (HB6.out.setCell (p := ⟨w.heap.size, 0, none⟩) (Nat.le_refl _) _).setCell (p := ⟨w.heap.size, 1, none⟩) (Nat.le_refl _) _)
       have HL2 := Hd (HL0.out.below HB2.out)
       have hfg6 := HFG5.out.below hb6
       have hgb : w6.grownBy w2 (some w.heap.size) := by rw [hw2]; exact gb_set (gb_set (gb_refl w6 w.heap.size) 0 _) 1 _
       have HFG := Hd (show FrAt w2 G ⟨ga, gc1, gb, gc2⟩ from ⟨gb_srow hgb hfg6.1 (fun ad e => by have := HGN.out.1 ad e; omega), gb_srow hgb hfg6.2 (fun ad e => by have := HGN.out.2 ad e; omega)⟩)
       have HFAR := Hd (show FarF K MB (.slice av s.todo.length cv) G ⟨ga, gc1, gb, gc2⟩ from FarF.new (n := w.heap.size) HL0.out.klt HL0.out.mlt HL0.out.vlt ⟨fun ad e => by have := HGN.out.1 ad e; omega, fun ad e => by have := HGN.out.2 ad e; omega⟩)
       clear hb6 hfg6 hgb
       go_upto_region 7 with fail
       rw [← hw2]
       clear hw2 x0 x1 x2 x3 x4 x5 x6 x7
       obtain ⟨n3, F3, hI3, hF3⟩ := HL2.out.fr
       obtain ⟨w3, hst3, hI3', hg3⟩ := IMap.set (P := Tryz.prog) (w := w2.drew) (k := 3) (t := 106) (e := 67) Tryz.underlying3 Tryz.underlying106 (show IMap w2.drew MB n3 F3 from hI3) (wf_nat z HZ.out) (frV G ⟨ga, gc1, gb, gc2⟩)
       have HF3 := Hd hF3
       have HI3 := Hd hI3'
       have HG3 := Hd hg3
       have k3 : (w2.drew).cell? ⟨K, 9, none⟩ = some (.map (some MB)) := HL2.out.blk.cell 9
       have k4 := HL2.out.blk.cell 9
       have k5 := HL2.out.klt
       have HK3 := Hd (show Blk w3 K 146 (lkArr b m p MB (.slice av s.todo.length cv)) from (hg3.block K k5 (by simpa using HL2.out.ne)).trans HL2.out.blk)
       have k6 := HK3.out.cell 10
       have k7 := HK3.out.lt
       have b0 := HT5.out.cell 0
       have b1 := HT5.out.cell 1
       have b2 := HT5.out.lt
       have hs3 : w2.heap.size ≤ w3.heap.size := hg3.size
       have hs2 := HB2.out.size
       clear hI3 hF3 hI3' hg3
       unfold lkArr at k3 k4 k6
       unfold frV at hst3
       go_region
       go_wp2_with (at_builtin; refine wpList_que_push rowInt rfl _ _ rfl B _ (s.todo.map intV) rfl ?cc0 ⟨w3.heap.size, 0, none⟩ 1 (intV z) rfl ?cc1 ?cc2 ?cc3 ?cc4 ?cc5 ?_)
       case cc0 => exact (HL2.out.qu.kept (w' := w3) (fun k hk => HG3.out.block k (HL2.out.vlt k hk) (fun e => HL2.out.nvM (by rw [hk, Option.some.inj e])))).below (bl_alloc (Below.refl _ _) _)
       first | (case cc1 => rw [World.cell?_alloc_new]; rfl) | skip
       case cc2 => rfl
       case cc3 => have := HT.out; simp; omega
       case cc4 => have := HT.out; simp; omega
       case cc5 => have := HL2.out.bK; simp; omega
       intro v4 w4 hq4 hg4 ho4
       have HQ4 := Hd hq4
       have HG4 := Hd hg4
       have HO4 := Hd ho4
       have HV4 := Hd (show VUp w2 (.slice av s.todo.length cv) v4 from by
         rcases ho4 with h | h
         · exact Or.inl h
         · exact Or.inr (fun k hk => by rw [h] at hk; cases hk; first | omega | (simp; omega)))
       have hk4 : Blk w4 K 146 (lkArr b m p MB (.slice av s.todo.length cv)) := (hg4.block K (by simp; omega) (fun e => HL2.out.nvK e.symm)).trans ((HK3.out.alloc (.cells #[intV z] 3)))
       have k8 := hk4.cell 10
       have k9 := hk4.frozen 10
       have k10 := hk4.lt
       obtain ⟨a4, c4, hv4, _⟩ := hq4.form
       simp only [List.length_append, List.length_map, List.length_cons, List.length_nil] at hv4
       obtain ⟨hl9, hk9⟩ := LkAt.push (W3 := w4.setCell ⟨K, 10, none⟩ v4) HL2.out HF3.out rfl (HI3.out.below (bl_alloc (Below.refl _ _) (.cells #[intV z] 3))) (gb_alloc (gb_trans (gb_drew (gb_refl w2 MB)) HG3.out) (.cells #[intV z] 3)) HFG.out HFAR.out HQ4.out HG4.out HV4.out rfl
       have HL9 := Hd hl9
       have HK9 := Hd ((KbR.of_below HB2.out).trans hk9 (.refl _ _))
       have HV9 := Hd ((VUp.refl w _).trans HV4.out hs2)
       clear hq4 hg4 ho4 hk4 hl9 hk9 k3 k4 k5 k6 k7 b0 b1 b2 hst3
       subst hv4
       unfold lkArr at k8
       go_wp2_with fail
       go_ret
       exact ⟨HL0.out.k2b HK9.out, HK9.out, Or.inr ⟨_, _, HE.out, rfl, HL9.out, HV9.out⟩⟩
theorem meet_calls (l : List ClassR) (LC : List CP) (B K MB b : Nat) (m : MethR) (p : MAddr) (s : LkSt) (v : Value) (z : Nat) (f : FrR) (q : FAddr) (n : Nat) (w : World) (hW : WOk w b l LC) (hL : LkAt w B K MB b m p s v) (hO : LkOk (wl l) n s) (hz : z ≤ 1000000) (hf : FrAt w f q) (hfar : FarF K MB v f q) (hkf : KOk (wl l) f) (hmu : mu (wl l) n s ≤ 1000000) :
   Calls Tryz.prog 73 #[.pointer (some ⟨K, 0, none⟩), .int .i64 z, frV f q] w (MeetRes B K MB b m p v (meetF (wl l) s z f) w) := by
 have ht : s.todo.length ≤ 1000000 := Nat.le_trans (mu_todo _ _ _) hmu
 cases hn : s.fr z with
 | none => exact meet_new (wl l) B K MB b m p s v z f q w hL hz hf hfar ht hn
 | some was => exact meet_old l LC B K MB b m p s v z f q was w hW hL hz hf hkf (hO.kok _ _ hn).1 ht hn
end Go.Proofs.YtddbnboicmaooaaGreatDoor
