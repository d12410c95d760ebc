import Derived.Test.YtbnkckjdgpiggaaGreatDoorSh
import Derived.Test.YtbnkckjdgpiggaaGreatDoorJa
import Derived.Test.YtbnkckjdgpiggaaGreatDoorIa
namespace Go.Proofs.YtbnkckjdgpiggaaGreatDoor
set_option maxRecDepth 100000
set_option maxHeartbeats 16000000
set_option linter.unusedVariables false
set_option linter.unusedSimpArgs false
open Go.RowKit
theorem ziz : zld Tryz.prog 22 3 1 8 := zld.mk' (z := .int .i64 0) Tryz.underlying22 (by kernel_rfl) rfl (by decide)
open Go.Shelf Go.Lib
abbrev zi6 (n : Nat) : Value := .int .i64 n
theorem zi1 (L : List Nat) : ∀ u ∈ L.map zi6, u.oneCell' = true := by
 intro u hu
 obtain ⟨n, _, rfl⟩ := List.mem_map.1 hu
 rfl
theorem zpi {w : World} (x : zal) {ys : Array Value} {w2 : World} (hg : ((w.alloc (.cells #[.int .i64 x.op, .int .i64 x.a, .int .i64 x.b, .string ⟨⟨x.ty⟩⟩, .string ⟨⟨x.cl⟩⟩, .string ⟨⟨x.nm⟩⟩] 40)).alloc (.cells ys 3)).grownBy w2 (Value.slice none 0 0).ownBlock) :
   w2.cell? ⟨w.heap.size, 0, none⟩ = some (.int .i64 x.op) /\ w2.cell? ⟨w.heap.size, 1, none⟩ = some (.int .i64 x.a) /\ Below w.heap.size w w2 := by
 have hb : Below w.heap.size w w2 := (((Below.refl w.heap.size w).alloc (Nat.le_refl _) _).alloc (by simp) _).grown hg (by simp; omega) (by intro k hk; simp [Value.ownBlock] at hk)
 have hc : ∀ j : Nat, w2.cell? ⟨w.heap.size, j, none⟩ = (#[.int .i64 x.op, .int .i64 x.a, .int .i64 x.b, .string ⟨⟨x.ty⟩⟩, .string ⟨⟨x.cl⟩⟩, .string ⟨⟨x.nm⟩⟩] : Array Value)[j]? := by
   intro j
   have h1 := hg.block w.heap.size (by simp; omega) (by simp [Value.ownBlock])
   rw [World.cell?_of_block (a := ⟨w.heap.size, j, none⟩) h1, World.cell?_alloc_lt _ _ ⟨w.heap.size, j, none⟩ (by simp), World.cell?_alloc_new]
 exact ⟨by rw [hc]; rfl, by rw [hc]; rfl, hb⟩
def z4f (l : List zal) (i : Nat) (w : World) (e : Ending) (w' : World) : Prop :=
 ∃ v, e = .returned v /\ w'.ownsRow w.heap.size 3 1 v (aft l i).length ((aft l i).map zi6) /\ Below w.heap.size w w'
theorem after_calls (l : List zal) (a : Option Addr) (cap : Nat) (i : Nat) (w : World) (hC : zcy w a cap l) (hl : zj6 l) (hi : i < l.length) :
   Calls Tryz.prog 125 #[.slice a l.length cap, .int .i64 i] w fun e w' => z4f l i w e w' := by
 obtain ⟨x, hx⟩ : ∃ x, l[i]? = some x := ⟨_, List.getElem?_eq_getElem hi⟩
 obtain ⟨b, off, rfl, hlt, c0, c1, c2, c3, c4, c5⟩ := hC.cells hx
 have hlen := hl.len
 have hins := hl.ins x (List.mem_of_getElem? hx)
 have haft : aft l i = (if zko x.op then [] else [i + 1]) ++ (if zcb x.op && (x.op == 14 || x.a != ((i : Int) + 1)) then [x.a.toNat] else []) := by unfold aft; rw [hx]
 generalize hA : aft l i = A at haft
 have HA := Hq hA
 have HE := Hq (fun w => zn2 x.op w)
 have HJ := Hq (fun w => zn7 x.op w)
 unfold z4f
 rw [hA]
 cases he : zko x.op with
 | true =>
   cases hj : zcb x.op with
   | false =>
     rw [he] at HE
     rw [hj] at HJ
     have h0 : A = [] := by rw [haft, he, hj]; rfl
     have H0 := Hq h0
     clear haft he hj h0 hx hins hA
     go_enter Tryz.func125, Tryz.ntmps125
     go_wp2_with fail
     refine (HE.out _).mono ?_
     rintro e w1 ⟨rfl, rfl⟩
     go_wp2_with fail
     refine (HJ.out _).mono ?_
     rintro e w1 ⟨rfl, rfl⟩
     go_wp2_with fail
     go_ret
     exact ⟨_, rfl, by rw [H0.out]; exact World.ownsRow_nil _ _ _ _, (Below.refl _ _).alloc (Nat.le_refl _) _⟩
   | true =>
     have h14 : x.op = 14 := by
       simp only [zko, zcb, Bool.or_eq_true, Bool.and_eq_true, beq_iff_eq, decide_eq_true_eq] at he hj
       omega
     have hr := zgx hins hj
     obtain ⟨t, ht⟩ : ∃ t : Nat, x.a = t := ⟨x.a.toNat, by omega⟩
     rw [he] at HE
     rw [hj] at HJ
     have h0 : A = [t] := by rw [haft, he, hj, h14, ht]; rfl
     have H0 := Hq h0
     rw [ht] at c1
     rw [h14] at c0 HE HJ
     clear haft he hj h0 hx hins hA hr h14 ht
     go_enter Tryz.func125, Tryz.ntmps125
     go_wp2_with fail
     refine (HE.out _).mono ?_
     rintro e w1 ⟨rfl, rfl⟩
     go_wp2_with fail
     refine (HJ.out _).mono ?_
     rintro e w1 ⟨rfl, rfl⟩
     go_wp2_with (at_builtin; refine zt ziz rfl _ _ rfl w.heap.size _ 0 [] rfl ?c0 [zi6 t] rfl ?c1 _ rfl ?cg ?c2 ?c3 ?c4 ?_)
     case cg => simp
     case c0 => exact World.ownsRow_nil _ _ _ _
     case c1 => exact zi1 [t]
     case c2 => omega
     case c3 => omega
     case c4 => simp
     intro v1 w2 ho1 hg1
     have hb2 := zbg (B := w.heap.size) (by simp) (World.ownsRow_nil (w.alloc (.cells #[.int .i64 14, .int .i64 t, .int .i64 x.b, .string ⟨⟨x.ty⟩⟩, .string ⟨⟨x.cl⟩⟩, .string ⟨⟨x.nm⟩⟩] 40)) w.heap.size 3 1) hg1
     have HO := Hq ho1
     have HB := Hq (((Below.refl w.heap.size w).alloc (Nat.le_refl _) _).trans hb2)
     clear ho1 hg1 hb2
     go_wp2_with fail
     go_ret
     exact ⟨_, rfl, by rw [H0.out]; exact HO.out, HB.out⟩
 | false =>
   rw [he] at HE
   cases hj : zcb x.op with
   | false =>
     rw [hj] at HJ
     have h0 : A = [i + 1] := by rw [haft, he, hj]; rfl
     have H0 := Hq h0
     clear haft he hj h0 hx hins hA
     go_enter Tryz.func125, Tryz.ntmps125
     go_wp2_with fail
     refine (HE.out _).mono ?_
     rintro e w1 ⟨rfl, rfl⟩
     go_wp2_with (at_builtin; refine zt ziz rfl _ _ rfl w.heap.size _ 0 [] rfl ?c0 [zi6 (i + 1)] rfl ?c1 _ rfl ?cg ?c2 ?c3 ?c4 ?_)
     case c0 => exact World.ownsRow_nil _ _ _ _
     case c1 => exact zi1 [i + 1]
     case cg => simp
     case c2 => omega
     case c3 => omega
     case c4 => simp
     intro v1 w2 ho1 hg1
     obtain ⟨d0, d1, d2⟩ := zpi x hg1
     have HO := Hq ho1
     have HB := Hq d2
     clear ho1 hg1 d2
     go_wp2_with fail
     refine (HJ.out _).mono ?_
     rintro e w1 ⟨rfl, rfl⟩
     go_wp2_with fail
     go_ret
     exact ⟨_, rfl, by rw [H0.out]; exact HO.out, HB.out⟩
   | true =>
     rw [hj] at HJ
     have hr := zgx hins hj
     obtain ⟨t, ht⟩ : ∃ t : Nat, x.a = t := ⟨x.a.toNat, by omega⟩
     have h14 : (x.op == 14) = false := by
       simp only [zko, Bool.or_eq_false_iff] at he
       exact he.1.1.1
     by_cases hne : t = i + 1
     . have h0 : A = [i + 1] := by
         rw [haft, he, hj, h14, ht, hne]
         have : (((i + 1 : Nat) : Int) != (i : Int) + 1) = false := by rw [bne_eq_false_iff_eq]; omega
         rw [this]; rfl
       have H0 := Hq h0
       have e1 : ((t : Int) != (i : Int) + 1) = false := by rw [bne_eq_false_iff_eq]; omega
       have e2 : ((t : Int) == (i : Int) + 1) = true := by rw [beq_iff_eq]; omega
       clear haft he hj h0 hx hins hA hne
       go_enter Tryz.func125, Tryz.ntmps125
       go_wp2_with fail
       refine (HE.out _).mono ?_
       rintro e w1 ⟨rfl, rfl⟩
       go_wp2_with (at_builtin; refine zt ziz rfl _ _ rfl w.heap.size _ 0 [] rfl ?c0 [zi6 (i + 1)] rfl ?c1 _ rfl ?cg ?c2 ?c3 ?c4 ?_)
       case c0 => exact World.ownsRow_nil _ _ _ _
       case c1 => exact zi1 [i + 1]
       case cg => simp
       case c2 => omega
       case c3 => omega
       case c4 => simp
       intro v1 w2 ho1 hg1
       rw [<- ht] at hg1
       obtain ⟨d0, d1, d2⟩ := zpi x hg1
       rw [ht] at d1
       have HO := Hq ho1
       have HB := Hq d2
       clear ho1 hg1 d2
       go_wp2_with fail
       refine (HJ.out _).mono ?_
       rintro e w1 ⟨rfl, rfl⟩
       go_wp2_with fail
       go_ret
       exact ⟨_, rfl, by rw [H0.out]; exact HO.out, HB.out⟩
     . have h0 : A = [i + 1, t] := by
         rw [haft, he, hj, h14, ht]
         have : ((t : Int) != (i : Int) + 1) = true := by rw [bne_iff_ne]; omega
         rw [this]; rfl
       have H0 := Hq h0
       have e1 : ((t : Int) != (i : Int) + 1) = true := by rw [bne_iff_ne]; omega
       have e2 : ((t : Int) == (i : Int) + 1) = false := by rw [beq_eq_false_iff_ne]; omega
       clear haft he hj h0 hx hins hA hne
       go_enter Tryz.func125, Tryz.ntmps125
       go_wp2_with fail
       refine (HE.out _).mono ?_
       rintro e w1 ⟨rfl, rfl⟩
       go_wp2_with (at_builtin; refine zt ziz rfl _ _ rfl w.heap.size _ 0 [] rfl ?c0 [zi6 (i + 1)] rfl ?c1 _ rfl ?cg ?c2 ?c3 ?c4 ?_)
       case c0 => exact World.ownsRow_nil _ _ _ _
       case c1 => exact zi1 [i + 1]
       case cg => simp
       case c2 => omega
       case c3 => omega
       case c4 => simp
       intro v1 w2 ho1 hg1
       rw [<- ht] at hg1
       obtain ⟨d0, d1, d2⟩ := zpi x hg1
       rw [ht] at d1
       have HO := Hq ho1
       have HB := Hq d2
       have hs2 := d2.size
       clear ho1 hg1 d2
       go_wp2_with fail
       refine (HJ.out _).mono ?_
       rintro e w1 ⟨rfl, rfl⟩
       go_wp2_with (at_builtin; refine zt ziz rfl _ _ rfl w.heap.size _ 1 [zi6 (i + 1)] rfl ?c0 [zi6 t] rfl ?c1 _ rfl ?cg ?c2 ?c3 ?c4 ?_)
       case c0 => exact HO.out
       case c1 => exact zi1 [t]
       case cg => rfl
       case c2 => omega
       case c3 => omega
       case c4 => exact hs2
       intro v2 w3 ho2 hg2
       have HO2 := Hq ho2
       have HB2 := Hq (HB.out.trans (zbg (B := w.heap.size) hs2 HO.out hg2))
       clear ho2 hg2
       go_wp2_with fail
       go_ret
       exact ⟨_, rfl, by rw [H0.out]; exact HO2.out, HB2.out⟩
structure KbR (K MB : Nat) (v : Value) (W W' : World) : Prop where
 os : W'.os = W.os
 tape : W'.tape = W.tape
 output : W'.output = W.output
 size : W.heap.size <= W'.heap.size
 block : ∀ k, k < W.heap.size -> k ≠ K -> k ≠ MB -> v.ownBlock ≠ some k -> W'.heap[k]? = W.heap[k]?
def VUp (W : World) (v v' : Value) : Prop := v'.ownBlock = v.ownBlock \/ ∀ k, v'.ownBlock = some k -> W.heap.size <= k
theorem VUp.refl (W : World) (v : Value) : VUp W v v := Or.inl rfl
theorem VUp.trans {W W1 : World} {v v1 v2 : Value} (h : VUp W v v1) (k : VUp W1 v1 v2) (hs : W.heap.size <= W1.heap.size) : VUp W v v2 := by
 rcases k with k | k
 . rcases h with h | h
   . exact Or.inl (k.trans h)
   . exact Or.inr (fun g hg => h g (k ▸ hg))
 . exact Or.inr (fun g hg => Nat.le_trans hs (k g hg))
theorem KbR.refl (K MB : Nat) (v : Value) (W : World) : KbR K MB v W W := ⟨rfl, rfl, rfl, Nat.le_refl _, fun _ _ _ _ _ => rfl⟩
theorem KbR.of_below {K MB : Nat} {v : Value} {W W' : World} (h : Below W.heap.size W W') : KbR K MB v W W' := ⟨h.os, h.tape, h.output, h.size, fun k hk _ _ _ => h.block k hk⟩
theorem KbR.trans {K MB : Nat} {v v1 : Value} {W W1 W2 : World} (h : KbR K MB v W W1) (k : KbR K MB v1 W1 W2) (hv : VUp W v v1) : KbR K MB v W W2 :=
 ⟨k.os.trans h.os, k.tape.trans h.tape, k.output.trans h.output, Nat.le_trans h.size k.size, fun i hi h1 h2 h3 => (k.block i (Nat.lt_of_lt_of_le hi h.size) h1 h2 (fun e => by
   rcases hv with hv | hv
   . exact h3 (hv ▸ e)
   . have := hv i e; omega)).trans (h.block i hi h1 h2 h3)⟩
theorem KbR.to_below {K MB B : Nat} {v : Value} {W W' : World} (h : KbR K MB v W W') (hK : B <= K) (hM : B <= MB) (hv : ∀ k, v.ownBlock = some k -> B <= k) (hB : B <= W.heap.size) : Below B W W' :=
 ⟨h.os, h.tape, h.output, h.size, fun k hk => h.block k (by omega) (by omega) (by omega) (fun e => by have := hv k e; omega)⟩
def zv0 (K MB : Nat) (v : Value) (a : Option Addr) (X : List Nm) : Prop := X = [] \/ ∀ ad, a = some ad -> ad.block ≠ K /\ ad.block ≠ MB /\ v.ownBlock ≠ some ad.block
theorem zv0.keep {K MB : Nat} {v : Value} {W W' : World} {a : Option Addr} {c : Nat} {X : List Nm} (hf : zv0 K MB v a X) (hr : zdl W a c X) (h : KbR K MB v W W') : zdl W' a c X := by
 obtain ⟨h1, h2 | ⟨b, off, rfl, hlt, hc⟩⟩ := hr
 . exact ⟨h1, Or.inl h2⟩
 . rcases hf with hf | hf
   . exact ⟨h1, Or.inl hf⟩
   . obtain ⟨n1, n2, n3⟩ := hf _ rfl
     have hb := h.block b hlt n1 n2 n3
     exact ⟨h1, Or.inr ⟨b, off, rfl, Nat.lt_of_lt_of_le hlt h.size, fun j x hx => by rw [World.cell?_of_block (a := ⟨b, off + j, none⟩) hb]; exact hc j x hx⟩⟩
theorem zv0.up {K MB : Nat} {v v' : Value} {W : World} {a : Option Addr} {c : Nat} {X : List Nm} (hf : zv0 K MB v a X) (hr : zdl W a c X) (h : VUp W v v') : zv0 K MB v' a X := by
 obtain ⟨h1, h2 | ⟨b, off, rfl, hlt, hc⟩⟩ := hr
 . exact Or.inl h2
 . rcases hf with hf | hf
   . exact Or.inl hf
   . refine Or.inr fun ad e => ?_
     obtain ⟨n1, n2, n3⟩ := hf ad e
     cases e
     refine ⟨n1, n2, fun e2 => ?_⟩
     rcases h with h | h
     . exact n3 (h ▸ e2)
     . have := h b e2; omega
theorem zv0.new {K MB n : Nat} {v : Value} {a : Option Addr} {X : List Nm} (hK : K < n) (hM : MB < n) (hv : ∀ k, v.ownBlock = some k -> k < n) (h : ∀ ad, a = some ad -> n <= ad.block) : zv0 K MB v a X :=
 Or.inr fun ad e => ⟨by have := h ad e; omega, by have := h ad e; omega, fun e2 => by have := h ad e; have := hv _ e2; omega⟩
def zm0 (K MB : Nat) (v : Value) (f : FrR) (p : zf9) : Prop := zv0 K MB v p.la f.loc /\ zv0 K MB v p.sa f.st
theorem zm0.keep {K MB : Nat} {v : Value} {W W' : World} {f : FrR} {p : zf9} (hf : zm0 K MB v f p) (hr : zfg W f p) (h : KbR K MB v W W') : zfg W' f p := ⟨hf.1.keep hr.1 h, hf.2.keep hr.2 h⟩
theorem zm0.up {K MB : Nat} {v v' : Value} {W : World} {f : FrR} {p : zf9} (hf : zm0 K MB v f p) (hr : zfg W f p) (h : VUp W v v') : zm0 K MB v' f p := ⟨hf.1.up hr.1 h, hf.2.up hr.2 h⟩
theorem zm0.new {K MB n : Nat} {v : Value} {f : FrR} {p : zf9} (hK : K < n) (hM : MB < n) (hv : ∀ k, v.ownBlock = some k -> k < n) (h : zs5 n p) : zm0 K MB v f p := ⟨.new hK hM hv h.1, .new hK hM hv h.2⟩
def zl0 (W : World) (K MB : Nat) (v : Value) : Option FrR -> Option Value -> Prop
 | none, y => y = none
 | some f, y => ∃ q, y = some (frV f q) /\ zfg W f q /\ zm0 K MB v f q
theorem zl0.keep {W W' : World} {K MB : Nat} {v v' : Value} {o : Option FrR} {y : Option Value} (h : zl0 W K MB v o y) (hk : KbR K MB v W W') (hv : VUp W v v') : zl0 W' K MB v' o y := by
 cases o with
 | none => exact h
 | some f =>
   obtain ⟨q, h1, h2, h3⟩ := h
   exact ⟨q, h1, h3.keep h2 hk, h3.up h2 hv⟩
def zde (b : Nat) (m : zo) (p : zaf) (MB : Nat) (v : Value) : Array Value :=
 #[.map (some b), .string ⟨⟨m.nm⟩⟩, .string ⟨⟨m.ty⟩⟩, .bool m.stat, .bool m.abst, .bool m.priv, .int .i64 m.loc, .slice p.ca m.code.length p.cc, .slice p.ha m.hs.length p.hc, .map (some MB), v]
structure ze8 (W : World) (B K MB b : Nat) (m : zo) (p : zaf) (s : zcj) (v : Value) : Prop where
 blk : Blk W K 139 (zde b m p MB v)
 fr : ∃ n F, zc7 W MB n F /\ ∀ z, zl0 W K MB v (s.fr z) (F z)
 qu : ze2 W B 3 v (s.todo.map zi6)
 bK : B <= K
 bM : B <= MB
section
variable {W : World} {B K MB b : Nat} {m : zo} {p : zaf} {s : zcj} {v : Value}
theorem ze8.mlt (h : ze8 W B K MB b m p s v) : MB < W.heap.size := by obtain ⟨n, F, h1, _⟩ := h.fr; exact h1.lt
theorem ze8.klt (h : ze8 W B K MB b m p s v) : K < W.heap.size := h.blk.lt
theorem ze8.vlt (h : ze8 W B K MB b m p s v) : ∀ k, v.ownBlock = some k -> k < W.heap.size := fun k hk => (h.qu.lt k hk).2
theorem ze8.vb (h : ze8 W B K MB b m p s v) : ∀ k, v.ownBlock = some k -> B <= k := fun k hk => (h.qu.lt k hk).1
theorem ze8.ne (h : ze8 W B K MB b m p s v) : K ≠ MB := fun e => by
 obtain ⟨n, F, ⟨es, clock, h1, _⟩, _⟩ := h.fr
 have h2 : W.heap[K]? = some (.cells _ _ (0, 0)) := h.blk
 rw [<- e, h2] at h1
 simp at h1
theorem ze8.nvK (h : ze8 W B K MB b m p s v) : v.ownBlock ≠ some K := fun e => by
 rcases h.qu with ⟨rfl, _⟩ | ⟨g, off, cap, cur, rfl, _, hg, _⟩
 . cases e
 . simp only [Value.ownBlock, Option.some.injEq] at e
   subst e
   rw [show W.heap[g]? = some (.cells _ _ (0, 0)) from h.blk] at hg
   simp at hg
theorem ze8.nvM (h : ze8 W B K MB b m p s v) : v.ownBlock ≠ some MB := fun e => by
 obtain ⟨n, F, ⟨es, clock, h1, _⟩, _⟩ := h.fr
 rcases h.qu with ⟨rfl, _⟩ | ⟨g, off, cap, cur, rfl, _, hg, _⟩
 . cases e
 . simp only [Value.ownBlock, Option.some.injEq] at e
   subst e
   rw [h1] at hg
   simp at hg
theorem ze8.below {W' : World} (h : ze8 W B K MB b m p s v) (hb : Below W.heap.size W W') : ze8 W' B K MB b m p s v := by
 obtain ⟨n, F, h1, h2⟩ := h.fr
 exact ⟨h.blk.below hb, ⟨n, F, h1.below hb, fun z => (h2 z).keep (.of_below hb) (.refl _ _)⟩, h.qu.below hb, h.bK, h.bM⟩
theorem ze8.at_ (h : ze8 W B K MB b m p s v) (z : Int) : ∃ n F, zc7 W MB n F /\ zl0 W K MB v (s.fr z) (F z) := by
 obtain ⟨n, F, h1, h2⟩ := h.fr
 exact ⟨n, F, h1, h2 z⟩
theorem ze8.k2b {W' : World} (h : ze8 W B K MB b m p s v) (hk : KbR K MB v W W') : Below B W W' := hk.to_below h.bK h.bM h.vb (Nat.le_trans h.bK (Nat.le_of_lt h.klt))
theorem ze8.push {W1 W2 W3 : World} {z : Int} {zn : Nat} {f : FrR} {q : zf9} {n : Nat} {F : Int -> Option Value} {v' : Value} (h : ze8 W B K MB b m p s v) (hF : ∀ z, zl0 W K MB v (s.fr z) (F z)) (hz : z = zn)
   (h1 : zc7 W1 MB n (zow F z (frV f q))) (g1 : W.grownBy W1 (some MB)) (hf : zfg W f q) (hfar : zm0 K MB v f q)
   (h2 : ze2 W2 B 3 v' (s.todo.map zi6 ++ [zi6 zn])) (g2 : W1.grownBy W2 v.ownBlock) (hv : VUp W v v')
   (h3 : W3 = W2.setCell ⟨K, 10, none⟩ v') :
   ze8 W3 B K MB b m p ⟨zhw s.fr z f, s.todo ++ [zn]⟩ v' /\ KbR K MB v W W3 := by
 have hkb : KbR K MB v W W3 := by
   rw [h3]
   refine ⟨?_, ?_, ?_, ?_, fun k hk n1 n2 n3 => ?_⟩
   . exact g2.os.trans g1.os
   . exact g2.tape.trans g1.tape
   . exact g2.output.trans g1.output
   . have := g1.size; have := g2.size; simp [World.setCell]; omega
   . rw [Below.heap_setCell _ _ _ _ (by exact n1), g2.block k (Nat.lt_of_lt_of_le hk g1.size) (fun e => n3 e.symm), g1.block k hk (by simpa using n2)]
 have hne := h.ne
 have hqM : v'.ownBlock ≠ some MB := by
   rcases hv with hv | hv
   . rw [hv]; exact h.nvM
   . intro e; have := hv _ e; have := h.mlt; omega
 have hqK : v'.ownBlock ≠ some K := by
   rcases hv with hv | hv
   . rw [hv]; exact h.nvK
   . intro e; have := hv _ e; have := h.klt; omega
 refine ⟨⟨?_, ⟨n, zow F z (frV f q), ?_, fun y => ?_⟩, ?_, h.bK, h.bM⟩, hkb⟩
 . have hb1 : Blk W1 K 139 (zde b m p MB v) := (g1.block K h.klt (by simpa using hne)).trans h.blk
   have hb2 : Blk W2 K 139 (zde b m p MB v) := (g2.block K (Nat.lt_of_lt_of_le h.klt g1.size) (fun e => h.nvK e.symm)).trans hb1
   rw [h3]
   exact zm hb2 10 v'
 . refine h1.kept ?_
   rw [h3, Below.heap_setCell _ _ _ _ (by exact fun e => hne e.symm)]
   exact g2.block MB (Nat.lt_of_lt_of_le h.mlt g1.size) (fun e => h.nvM e.symm)
 . show zl0 W3 K MB v' (zhw s.fr z f y) (zow F z (frV f q) y)
   by_cases e : y = z
   . subst e
     rw [zik, zlj]
     exact ⟨q, rfl, hfar.keep hf hkb, hfar.up hf hv⟩
   . rw [zj0 _ _ _ e, zfi _ _ _ e]
     exact (hF y).keep hkb hv
 . rw [List.map_append]
   refine h2.kept (fun g hg => ?_)
   rw [h3]
   exact Below.heap_setCell _ _ _ _ (fun e => hqK (by rw [hg, e]))
end
def zpf (B K MB b : Nat) (m : zo) (p : zaf) (v : Value) (r : Option zcj) (w : World) (e : Ending) (w' : World) : Prop :=
 Below B w w' /\ KbR K MB v w w' /\ ((r = none /\ e = .returned (.bool false)) \/ ∃ s' v', r = some s' /\ e = .returned (.bool true) /\ ze8 w' B K MB b m p s' v' /\ VUp w v v')
theorem zwe (w : World) : (zeroValue 141).run Tryz.prog w = .ok (.agg #[.slice none 0 0, .slice none 0 0]) w := by kernel_rfl
theorem znw (z : Nat) (h : z <= 1000000) : (Lit.int .i64 (z : Int)).wf = true := by
 simp [Lit.wf, IntKind.min, IntKind.max, IntKind.signed, IntKind.bits]; omega
theorem z5y (L : List zd) (n : Nat) (s : zcj) : s.todo.length <= mu L n s := by unfold mu; omega
theorem zu3 (L : List zd) (B K MB b : Nat) (m : zo) (p : zaf) (s : zcj) (v : Value) (z : Nat) (g : FrR) (pg : zf9) (w : World) (hL : ze8 w B K MB b m p s v) (hz : z <= 1000000) (hf : zfg w g pg) (hfar : zm0 K MB v g pg) (ht : s.todo.length <= 1000000) (hn : s.fr z = none) :
   Calls Tryz.prog 82 #[.pointer (some ⟨K, 0, none⟩), .int .i64 z, frV g pg] w (zpf B K MB b m p v (ze0 L s z g) w) := by
 obtain ⟨av, cv, hv, _⟩ := hL.qu.form
 rw [List.length_map] at hv
 subst hv
 have HL0 := Hq hL
 obtain ⟨w1, hw1⟩ : ∃ w1, w1 = w.alloc (.cells #[.slice pg.la g.loc.length pg.lc, .slice pg.sa g.st.length pg.sc] 141) := ⟨_, rfl⟩
 have hb1 : Below w.heap.size w w1 := by rw [hw1]; exact ze (Below.refl _ _) _
 have hs1 : w1.heap.size = w.heap.size + 1 := by rw [hw1]; simp
 have HT1 := Hq (show Blk w1 w.heap.size 141 #[.slice pg.la g.loc.length pg.lc, .slice pg.sa g.st.length pg.sc] by rw [hw1]; exact zg _ _ _ _ rfl)
 have HL1 := Hq (hL.below hb1)
 obtain ⟨n1, F1, hI1, hF1⟩ := HL1.out.fr
 have hF0 : F1 (z : Int) = none := by
   have := hF1 z
   rw [hn] at this
   exact this
 have hlk := zc7.look_none (P := Tryz.prog) (w := w1) (k := 3) (t := 106) (e := 141) Tryz.underlying3 Tryz.underlying106 hI1 (znw z hz) hF0 (zwe _) true
 simp only [if_true] at hlk
 obtain ⟨w2, hw2⟩ : ∃ w2, w2 = w1.alloc (.cells #[.slice none 0 0, .slice none 0 0] 141) := ⟨_, rfl⟩
 have hb12 : Below w1.heap.size w1 w2 := by rw [hw2]; exact ze (Below.refl _ _) _
 have HB2 := Hq (zc hb1 hb12)
 have HT5 := Hq (HT1.out.below hb12)
 have HL2 := Hq (HL1.out.below hb12)
 have HFG := Hq (hf.below HB2.out)
 have HFAR := Hq hfar
 have HE := Hq (zet (L := L) (f := g) hn)
 have HZ := Hq hz
 have HT := Hq ht
 have c1 := HL1.out.blk.cell 9
 have c2 := HL1.out.klt
 unfold zde at c1
 unfold frV
 clear hL hz hf hfar ht hn hb1 hb12 hI1 hF1 hF0
 go_enter Tryz.func82, Tryz.ntmps82
 go_upto_region 1 with fail
 rw [<- hw1]
 clear hw1
 go_upto_region 7 with fail
 rw [<- hw2]
 clear hw2 c1 c2 hlk
 obtain ⟨n3, F3, hI3, hF3⟩ := HL2.out.fr
 obtain ⟨w3, hst3, hI3', hg3⟩ := zc7.set (P := Tryz.prog) (w := w2.drew) (k := 3) (t := 106) (e := 141) Tryz.underlying3 Tryz.underlying106 (show zc7 w2.drew MB n3 F3 from hI3) (znw z HZ.out) (frV g pg)
 have HF3 := Hq hF3
 have HI3 := Hq hI3'
 have HG3 := Hq hg3
 have k3 : (w2.drew).cell? ⟨K, 9, none⟩ = some (.map (some MB)) := HL2.out.blk.cell 9
 have k4 := HL2.out.blk.cell 9
 have k5 := HL2.out.klt
 have HK3 := Hq (show Blk w3 K 139 (zde b m p MB (.slice av s.todo.length cv)) from (hg3.block K k5 (by simpa using HL2.out.ne)).trans HL2.out.blk)
 have k6 := HK3.out.cell 10
 have k7 := HK3.out.lt
 have b0 := HT5.out.cell 0
 have b1 := HT5.out.cell 1
 have b2 := HT5.out.lt
 have hs3 : w2.heap.size <= w3.heap.size := hg3.size
 have hs2 := HB2.out.size
 clear hI3 hF3 hI3' hg3
 unfold zde at k3 k4 k6
 unfold frV at hst3
 go_region
 go_wp2_with (at_builtin; refine zek ziz rfl _ _ rfl B _ (s.todo.map zi6) rfl ?c0 ⟨w3.heap.size, 0, none⟩ 1 (zi6 z) rfl ?c1 ?c2 ?c3 ?c4 ?c5 ?_)
 case c0 => exact (HL2.out.qu.kept (w' := w3) (fun k hk => HG3.out.block k (HL2.out.vlt k hk) (fun e => HL2.out.nvM (by rw [hk, Option.some.inj e])))).below (ze (Below.refl _ _) _)
 first | (case c1 => rw [World.cell?_alloc_new]; rfl) | skip
 case c2 => rfl
 case c3 => have := HT.out; simp; omega
 case c4 => have := HT.out; simp; omega
 case c5 => have := HL2.out.bK; simp; omega
 intro v4 w4 hq4 hg4 ho4
 have HQ4 := Hq hq4
 have HG4 := Hq hg4
 have HO4 := Hq ho4
 have HV4 := Hq (show VUp w2 (.slice av s.todo.length cv) v4 from by
   rcases ho4 with h | h
   . exact Or.inl h
   . exact Or.inr (fun k hk => by rw [h] at hk; cases hk; first | omega | (simp; omega)))
 have hk4 : Blk w4 K 139 (zde b m p MB (.slice av s.todo.length cv)) := (hg4.block K (by simp; omega) (fun e => HL2.out.nvK e.symm)).trans ((HK3.out.alloc (.cells #[zi6 z] 3)))
 have k8 := hk4.cell 10
 have k9 := hk4.frozen 10
 have k10 := hk4.lt
 obtain ⟨a4, c4, hv4, _⟩ := hq4.form
 simp only [List.length_append, List.length_map, List.length_cons, List.length_nil] at hv4
 obtain ⟨hl9, hk9⟩ := ze8.push (W3 := w4.setCell ⟨K, 10, none⟩ v4) HL2.out HF3.out rfl (HI3.out.below (ze (Below.refl _ _) (.cells #[zi6 z] 3))) (zds (zc0 (zb9 (zp w2 MB)) HG3.out) (.cells #[zi6 z] 3)) HFG.out HFAR.out HQ4.out HG4.out HV4.out rfl
 have HL9 := Hq hl9
 have HK9 := Hq ((KbR.of_below HB2.out).trans hk9 (.refl _ _))
 have HV9 := Hq ((VUp.refl w _).trans HV4.out hs2)
 clear hq4 hg4 ho4 hk4 hl9 hk9 k3 k4 k5 k6 k7 b0 b1 b2 hst3
 subst hv4
 unfold zde at k8
 go_wp2_with fail
 go_ret
 exact ⟨HL0.out.k2b HK9.out, HK9.out, Or.inr ⟨_, _, HE.out, rfl, HL9.out, HV9.out⟩⟩
def slc (a : Option Addr) (n c : Nat) (b : Option Addr) (n2 c2 : Nat) : Array Value := #[.slice a n c, .slice b n2 c2]
theorem zw1 : (Tryz.prog.info? 141).map (·.size) = some 2 := by kernel_rfl
theorem z0e (a : Option Addr) (n c : Nat) (b : Option Addr) (n2 c2 : Nat) : (slc a n c b n2 c2).all (·.oneCell') = true := by simp [slc, Value.oneCell']
theorem zjn (w4 : World) (a : Option Addr) (n c : Nat) (b : Option Addr) (n2 c2 : Nat) : ∃ w5, (storeCells ⟨w4.heap.size, 0, none⟩ (slc a n c b n2 c2).toList).run Tryz.prog (w4.alloc (.cells #[.slice none 0 0, .slice none 0 0] 141)) = .ok () w5 /\ Below w4.heap.size w4 w5 /\ Blk w5 w4.heap.size 141 (slc a n c b n2 c2) :=
 ⟨_, run_storeCells_new (P := Tryz.prog) w4 141 _ (slc a n c b n2 c2) zw1 rfl (z0e _ _ _ _ _ _), ze (Below.refl _ _) _, zg _ _ _ _ rfl⟩
theorem zjm (w4 : World) (g : Nat) (a : Option Addr) (n c : Nat) (b : Option Addr) (n2 c2 : Nat) (hk : Blk w4 g 141 #[.slice none 0 0, .slice none 0 0]) : ∃ w5, (storeCells ⟨g, 0, none⟩ (slc a n c b n2 c2).toList).run Tryz.prog w4 = .ok () w5 /\ w4.grownBy w5 (some g) /\ Blk w5 g 141 (slc a n c b n2 c2) :=
 ⟨_, run_storeCells_from (P := Tryz.prog) g 141 (slc a n c b n2 c2).toList 0 _ w4 hk rfl (fun v hv => (Array.all_eq_true_iff_forall_mem.1 (z0e a n c b n2 c2)) v (by simpa using hv)), zj7 _ _ _, setRow_heap _ _ _ _ _ _ hk⟩
theorem z57 {l : List zd} {fa fb : FrR} {w w' : World} {e : Ending} (h : zpg l fa fb w e w') : ∃ (a b : Option Addr) (n1 c1 n2 c2 : Nat) (is : Bool), e = .returned (.tuple #[.agg (slc a n1 c1 b n2 c2), .bool is]) /\ Below w.heap.size w w' /\
   ((is = false /\ ¬ zey fa fb) \/ (is = true /\ zey fa fb /\ n1 = (zdz (wl l) fa fb).loc.length /\ n2 = (zdz (wl l) fa fb).st.length /\ zfg w' (zdz (wl l) fa fb) ⟨a, c1, b, c2⟩ /\ zs5 w.heap.size ⟨a, c1, b, c2⟩)) := by
 obtain ⟨hb, ⟨h1, rfl⟩ | ⟨h1, q, rfl, h2, h3⟩⟩ := h
 . exact ⟨none, none, 0, 0, 0, 0, false, rfl, hb, Or.inl ⟨rfl, h1⟩⟩
 . exact ⟨q.la, q.sa, _, q.lc, _, q.sc, true, rfl, hb, Or.inr ⟨rfl, h1, rfl, rfl, h2, h3⟩⟩
theorem z18 (l : List zd) (LC : List CP) (B K MB b : Nat) (m : zo) (p : zaf) (s : zcj) (v : Value) (z : Nat) (f : FrR) (q : zf9) (was : FrR) (w : World) (hW : WOk w b l LC) (hL : ze8 w B K MB b m p s v) (hz : z <= 1000000) (hf : zfg w f q) (hkf : KOk (wl l) f) (hkw : KOk (wl l) was) (ht : s.todo.length <= 1000000) (hn : s.fr z = some was) :
   Calls Tryz.prog 82 #[.pointer (some ⟨K, 0, none⟩), .int .i64 z, frV f q] w (zpf B K MB b m p v (ze0 (wl l) s z f) w) := by
 obtain ⟨av, cv, hv, _⟩ := hL.qu.form
 rw [List.length_map] at hv
 subst hv
 have HL0 := Hq hL
 obtain ⟨w1, hw1⟩ : ∃ w1, w1 = w.alloc (.cells #[.slice q.la f.loc.length q.lc, .slice q.sa f.st.length q.sc] 141) := ⟨_, rfl⟩
 have hb1 : Below w.heap.size w w1 := by rw [hw1]; exact ze (Below.refl _ _) _
 have hs1 : w1.heap.size = w.heap.size + 1 := by rw [hw1]; simp
 have HT1 := Hq (show Blk w1 w.heap.size 141 #[.slice q.la f.loc.length q.lc, .slice q.sa f.st.length q.sc] by rw [hw1]; exact zg _ _ _ _ rfl)
 have HL1 := Hq (hL.below hb1)
 obtain ⟨n1, F1, hI1, hF1⟩ := HL1.out.at_ (z : Int)
 rw [hn] at hF1
 obtain ⟨qw, hq1, hq2, hq3⟩ := hF1
 have hlk := zc7.look_some (P := Tryz.prog) (w := w1) (k := 3) (t := 106) (e := 141) Tryz.underlying3 Tryz.underlying106 hI1 (znw z hz) hq1 true
 simp only [if_true] at hlk
 obtain ⟨u2, hw2⟩ : ∃ w2, w2 = w1.alloc (.cells #[.slice qw.la was.loc.length qw.lc, .slice qw.sa was.st.length qw.sc] 141) := ⟨_, rfl⟩
 have hb12 : Below w1.heap.size w1 u2 := by rw [hw2]; exact ze (Below.refl _ _) _
 have hs2' : u2.heap.size = w.heap.size + 1 + 1 := by rw [hw2]; simp; omega
 have HB2' := Hq (zc hb1 hb12)
 have HT2 := Hq (HT1.out.below hb12)
 have HU2 := Hq (show Blk u2 (w.heap.size + 1) 141 #[.slice qw.la was.loc.length qw.lc, .slice qw.sa was.st.length qw.sc] by rw [hw2]; exact zg _ _ _ _ hs1.symm)
 have HL2' := Hq (HL1.out.below hb12)
 have HFW := Hq (hq2.below hb12)
 have HFF := Hq (hf.below HB2'.out)
 have HZ := Hq hz
 have HT := Hq ht
 have HN := Hq hn
 have HKW := Hq hkw
 have HG8 := Hq (show (zdz (wl l) was f).loc.length <= 100000 /\ (zdz (wl l) was f).st.length <= 100000 from by
   have h1 : (zdz (wl l) was f).loc.length <= was.loc.length := by unfold zdz; simp; omega
   have h2 : (zdz (wl l) was f).st.length <= was.st.length := by unfold zdz; simp; omega
   have := hkw.loc; have := hkw.st
   omega)
 have hwl8 := hkw.loc
 have hws8 := hkw.st
 have HBO := Hq (fun W (hw : Below u2.heap.size u2 W) => (zr4 l LC b was f qw q W ((hW.below HB2'.out).below hw) (HFW.out.below hw) (HFF.out.below hw) hkw.chk hkf.chk).mono (fun e w' h => z57 h))
 have HSC := Hq (fun W (hw : Below u2.heap.size u2 W) => (show W.cell? ⟨K, 0, none⟩ = some (.map (some b)) /\ W.cell? ⟨w.heap.size + 1, 0, none⟩ = some (.slice qw.la was.loc.length qw.lc) /\ W.cell? ⟨w.heap.size + 1, 1, none⟩ = some (.slice qw.sa was.st.length qw.sc) /\ W.cell? ⟨w.heap.size, 0, none⟩ = some (.slice q.la f.loc.length q.lc) /\ W.cell? ⟨w.heap.size, 1, none⟩ = some (.slice q.sa f.st.length q.sc) from
   ⟨(HL2'.out.below hw).blk.cell 0, (HU2.out.below hw).cell 0, (HU2.out.below hw).cell 1, (HT2.out.below hw).cell 0, (HT2.out.below hw).cell 1⟩))
 have HAL := Hq (show Below u2.heap.size u2 (u2.alloc (.cells #[.slice none 0 0, .slice none 0 0] 141)).drew from (ze (Below.refl _ _) _).drew)
 have HZ1 := Hq (show Blk (u2.alloc (.cells #[.slice none 0 0, .slice none 0 0] 141)).drew (w.heap.size + 1 + 1) 141 #[.slice none 0 0, .slice none 0 0] from by have h := zg u2 u2.heap.size 141 #[.slice none 0 0, .slice none 0 0] rfl; rw [hs2'] at h; exact h)
 have c1 := HL1.out.blk.cell 9
 have c2 := HL1.out.klt
 have c3 := HL2'.out.klt
 unfold zde at c1
 unfold frV at hlk HBO
 unfold frV
 clear hL hz hf hkf hkw ht hn hb1 hb12 hI1 hq1 hq2 hq3 hW
 go_enter Tryz.func82, Tryz.ntmps82
 go_upto_region 1 with fail
 rw [<- hw1]
 clear hw1
 go_upto_region 3 with fail
 rw [<- hw2]
 clear hw2 c1 c2 hlk
 go_region_held3 (fun W' => W'.cell? ⟨K, 0, none⟩ = some (.map (some b)) /\ W'.cell? ⟨w.heap.size + 1, 0, none⟩ = some (.slice qw.la was.loc.length qw.lc) /\ W'.cell? ⟨w.heap.size + 1, 1, none⟩ = some (.slice qw.sa was.st.length qw.sc) /\ W'.cell? ⟨w.heap.size, 0, none⟩ = some (.slice q.la f.loc.length q.lc) /\ W'.cell? ⟨w.heap.size, 1, none⟩ = some (.slice q.sa f.st.length q.sc))
   (first | exact HSC.out _ (Below.refl _ _) | exact HSC.out _ (Below.refl _ _).drew | exact HSC.out _ HAL.out | exact HSC.out _ (ze (Below.refl _ _) _) | exact HSC.out _ (ze (Below.refl _ _).drew _) | exact HSC.out _ hb5 | exact HSC.out _ hb5.drew | exact HSC.out _ hbA | exact HSC.out _ (ze hbA _))
   ((first
   | (go_at_call 121
      with_reducible refine (HBO.out u2.drew (Below.refl _ _).drew).mono ?_
      rintro e wb ⟨ga, gb, n1, gc1, n2, gc2, is, rfl, hbb, hor⟩
      have hbA := zc (Below.refl u2.heap.size u2).drew hbb
      obtain ⟨w5, hst5, hb5', hk5⟩ := zjn wb ga n1 gc1 gb n2 gc2
      have hb5 := zc hbA hb5'
      have hfa : ∀ g q, zfg wb g q -> zs5 u2.drew.heap.size q -> zfg w5 g q := fun g q h _ => h.below hb5'
      have hnw : ∀ q, zs5 u2.drew.heap.size q -> zs5 u2.heap.size q := fun q h => h
      have hsb5 : wb.heap.size <= w5.heap.size := hb5'.size
      have ht5 : u2.heap.size <= wb.heap.size := hbA.size
      obtain ⟨T9, hT9⟩ : ∃ T, T = wb.heap.size := ⟨_, rfl⟩)
   | (go_at_call 121
      with_reducible refine (HBO.out (u2.alloc (.cells #[.slice none 0 0, .slice none 0 0] 141)).drew HAL.out).mono ?_
      rintro e wb ⟨ga, gb, n1, gc1, n2, gc2, is, rfl, hbb, hor⟩
      have hbA := zc HAL.out hbb
      obtain ⟨w5, hst5, hg5, hk5⟩ := zjm wb (w.heap.size + 1 + 1) ga n1 gc1 gb n2 gc2 (HZ1.out.below hbb)
      have hb5 := zj hbA hg5 (by omega)
      have hfa : ∀ g q, zfg wb g q -> zs5 (u2.alloc (.cells #[.slice none 0 0, .slice none 0 0] 141)).drew.heap.size q -> zfg w5 g q := fun g q h hn => by
        have e9 : (u2.alloc (.cells #[.slice none 0 0, .slice none 0 0] 141)).drew.heap.size = u2.heap.size + 1 := by show (u2.alloc _).heap.size = _; simp
        rw [e9] at hn
        exact ⟨zcs hg5 h.1 (fun ad e => by have := hn.1 ad e; omega), zcs hg5 h.2 (fun ad e => by have := hn.2 ad e; omega)⟩
      have hnw : ∀ q, zs5 (u2.alloc (.cells #[.slice none 0 0, .slice none 0 0] 141)).drew.heap.size q -> zs5 u2.heap.size q := fun q hn => by
        have e9 : (u2.alloc (.cells #[.slice none 0 0, .slice none 0 0] 141)).drew.heap.size = u2.heap.size + 1 := by show (u2.alloc _).heap.size = _; simp
        rw [e9] at hn
        exact ⟨fun ad e => by have := hn.1 ad e; omega, fun ad e => by have := hn.2 ad e; omega⟩
      have ht5 : u2.heap.size <= w.heap.size + 1 + 1 := by omega
      obtain ⟨T9, hT9⟩ : ∃ T, T = w.heap.size + 1 + 1 := ⟨_, rfl⟩)))
 . rw [<- hT9]
   have ht9 : u2.heap.size <= T9 := by omega
   have HK5 := Hq (show Blk w5 T9 141 (slc ga n1 gc1 gb n2 gc2) by rw [hT9]; exact hk5)
   have HB5 := Hq hb5
   have HL5 := Hq (HL2'.out.below hb5)
   have HT5' := Hq (HT2.out.below hb5)
   have HU5 := Hq (HU2.out.below hb5)
   have HFA := Hq hfa
   have HNW := Hq hnw
   have HBW := Hq (zc HB2'.out hb5)
   have hsu : u2.heap.size <= w5.heap.size := hb5.size
   clear hT9 hst5 hb5 hk5 hbA hbb hfa hnw c3
   rcases hor with ⟨rfl, hns⟩ | ⟨rfl, hss, rfl, rfl, hga, hgn⟩
   . have HE := Hq (zk8 (L := wl l) HN.out hns)
     have HKB := Hq (KbR.of_below (K := K) (MB := MB) (v := .slice av s.todo.length cv) HBW.out)
     clear hns
     go_wp2_with fail
     go_ret
     exact ⟨HL0.out.k2b HKB.out, HKB.out, Or.inl ⟨HE.out, rfl⟩⟩
   . have HFG5 := Hq (HFA.out _ _ hga hgn)
     have HGN := Hq (HNW.out _ hgn)
     have HFW5 := Hq (HFW.out.below HB5.out)
     have hj := zjs (L := wl l) HN.out hss
     have hj2 := zoq (L := wl l) HN.out hss
     clear hga hgn HFA HNW HBO
     generalize hGG : zdz (wl l) was f = G at *
     clear hGG
     have HJ := Hq hj
     have HJ2 := Hq hj2
     have hG8 : G.loc.length <= 100000 /\ G.st.length <= 100000 := HG8.out
     have HSA := Hq (zt1 G was ⟨ga, gc1, gb, gc2⟩ qw w5 HFG5.out HFW5.out hG8.1 hG8.2)
     unfold frV at HSA
     have x0 := HK5.out.cell 0
     have x1 := HK5.out.cell 1
     have x2 := HK5.out.lt
     have x3 := HU5.out.cell 0
     have x4 := HU5.out.cell 1
     have x5 := HU5.out.lt
     unfold slc at x0 x1
     clear hj hj2 hss
     cases hsb : zwj G was with
     | true =>
       rw [hsb] at HSA
       have HE := Hq (HJ.out (zho.1 hsb))
       clear hsb
       go_wp2_with fail
       refine HSA.out.mono ?_
       rintro e w6 ⟨rfl, hb6⟩
       have HB6 := Hq (zc HBW.out hb6)
       have HKB := Hq (KbR.of_below (K := K) (MB := MB) (v := .slice av s.todo.length cv) HB6.out)
       have HL6 := Hq (HL0.out.below HB6.out)
       clear hb6
       go_wp2_with fail
       go_ret
       exact ⟨HL0.out.k2b HKB.out, HKB.out, Or.inr ⟨_, _, HE.out, rfl, HL6.out, .refl _ _⟩⟩
     | false =>
       rw [hsb] at HSA
       have HE := Hq (HJ2.out (fun e => by rw [zho.2 e] at hsb; cases hsb))
       clear hsb
       go_wp2_with fail
       refine HSA.out.mono ?_
       rintro e w6 ⟨rfl, hb6⟩
       have HB6 := Hq (zc HBW.out hb6)
       have HT6 := Hq (HT5'.out.below hb6)
       have HK6 := Hq (HK5.out.below hb6)
       have hs6 := hb6.size
       clear x0 x1 x2 x3 x4 x5
       have x0 := HK6.out.cell 0
       have x1 := HK6.out.cell 1
       have x2 := HK6.out.lt
       have x3 := HT6.out.cell 0
       have x4 := HT6.out.cell 1
       have x5 := HT6.out.lt
       have x6 := HT6.out.frozen 0
       have x7 := HT6.out.frozen 1
       unfold slc at x0 x1
       obtain ⟨w2, hw2⟩ : ∃ w2, w2 = (w6.setCell ⟨w.heap.size, 0, none⟩ (.slice ga G.loc.length gc1)).setCell ⟨w.heap.size, 1, none⟩ (.slice gb G.st.length gc2) := ⟨_, rfl⟩
       have HT5 := Hq (show Blk w2 w.heap.size 141 #[.slice ga G.loc.length gc1, .slice gb G.st.length gc2] by rw [hw2]; exact zm (zm HT6.out 0 _) 1 _)
       have HB2 := Hq (show Below w.heap.size w w2 by rw [hw2]; exact (HB6.out.setCell (p := ⟨w.heap.size, 0, none⟩) (Nat.le_refl _) _).setCell (p := ⟨w.heap.size, 1, none⟩) (Nat.le_refl _) _)
       have HL2 := Hq (HL0.out.below HB2.out)
       have hfg6 := HFG5.out.below hb6
       have hgb : w6.grownBy w2 (some w.heap.size) := by rw [hw2]; exact zai (zai (zp w6 w.heap.size) 0 _) 1 _
       have HFG := Hq (show zfg w2 G ⟨ga, gc1, gb, gc2⟩ from ⟨zcs hgb hfg6.1 (fun ad e => by have := HGN.out.1 ad e; omega), zcs hgb hfg6.2 (fun ad e => by have := HGN.out.2 ad e; omega)⟩)
       have HFAR := Hq (show zm0 K MB (.slice av s.todo.length cv) G ⟨ga, gc1, gb, gc2⟩ from zm0.new (n := w.heap.size) HL0.out.klt HL0.out.mlt HL0.out.vlt ⟨fun ad e => by have := HGN.out.1 ad e; omega, fun ad e => by have := HGN.out.2 ad e; omega⟩)
       clear hb6 hfg6 hgb
       go_upto_region 7 with fail
       rw [<- hw2]
       clear hw2 x0 x1 x2 x3 x4 x5 x6 x7
       obtain ⟨n3, F3, hI3, hF3⟩ := HL2.out.fr
       obtain ⟨w3, hst3, hI3', hg3⟩ := zc7.set (P := Tryz.prog) (w := w2.drew) (k := 3) (t := 106) (e := 141) Tryz.underlying3 Tryz.underlying106 (show zc7 w2.drew MB n3 F3 from hI3) (znw z HZ.out) (frV G ⟨ga, gc1, gb, gc2⟩)
       have HF3 := Hq hF3
       have HI3 := Hq hI3'
       have HG3 := Hq hg3
       have k3 : (w2.drew).cell? ⟨K, 9, none⟩ = some (.map (some MB)) := HL2.out.blk.cell 9
       have k4 := HL2.out.blk.cell 9
       have k5 := HL2.out.klt
       have HK3 := Hq (show Blk w3 K 139 (zde b m p MB (.slice av s.todo.length cv)) from (hg3.block K k5 (by simpa using HL2.out.ne)).trans HL2.out.blk)
       have k6 := HK3.out.cell 10
       have k7 := HK3.out.lt
       have b0 := HT5.out.cell 0
       have b1 := HT5.out.cell 1
       have b2 := HT5.out.lt
       have hs3 : w2.heap.size <= w3.heap.size := hg3.size
       have hs2 := HB2.out.size
       clear hI3 hF3 hI3' hg3
       unfold zde at k3 k4 k6
       unfold frV at hst3
       go_region
       go_wp2_with (at_builtin; refine zek ziz rfl _ _ rfl B _ (s.todo.map zi6) rfl ?c0 ⟨w3.heap.size, 0, none⟩ 1 (zi6 z) rfl ?c1 ?c2 ?c3 ?c4 ?c5 ?_)
       case c0 => exact (HL2.out.qu.kept (w' := w3) (fun k hk => HG3.out.block k (HL2.out.vlt k hk) (fun e => HL2.out.nvM (by rw [hk, Option.some.inj e])))).below (ze (Below.refl _ _) _)
       first | (case c1 => rw [World.cell?_alloc_new]; rfl) | skip
       case c2 => rfl
       case c3 => have := HT.out; simp; omega
       case c4 => have := HT.out; simp; omega
       case c5 => have := HL2.out.bK; simp; omega
       intro v4 w4 hq4 hg4 ho4
       have HQ4 := Hq hq4
       have HG4 := Hq hg4
       have HO4 := Hq ho4
       have HV4 := Hq (show VUp w2 (.slice av s.todo.length cv) v4 from by
         rcases ho4 with h | h
         . exact Or.inl h
         . exact Or.inr (fun k hk => by rw [h] at hk; cases hk; first | omega | (simp; omega)))
       have hk4 : Blk w4 K 139 (zde b m p MB (.slice av s.todo.length cv)) := (hg4.block K (by simp; omega) (fun e => HL2.out.nvK e.symm)).trans ((HK3.out.alloc (.cells #[zi6 z] 3)))
       have k8 := hk4.cell 10
       have k9 := hk4.frozen 10
       have k10 := hk4.lt
       obtain ⟨a4, c4, hv4, _⟩ := hq4.form
       simp only [List.length_append, List.length_map, List.length_cons, List.length_nil] at hv4
       obtain ⟨hl9, hk9⟩ := ze8.push (W3 := w4.setCell ⟨K, 10, none⟩ v4) HL2.out HF3.out rfl (HI3.out.below (ze (Below.refl _ _) (.cells #[zi6 z] 3))) (zds (zc0 (zb9 (zp w2 MB)) HG3.out) (.cells #[zi6 z] 3)) HFG.out HFAR.out HQ4.out HG4.out HV4.out rfl
       have HL9 := Hq hl9
       have HK9 := Hq ((KbR.of_below HB2.out).trans hk9 (.refl _ _))
       have HV9 := Hq ((VUp.refl w _).trans HV4.out hs2)
       clear hq4 hg4 ho4 hk4 hl9 hk9 k3 k4 k5 k6 k7 b0 b1 b2 hst3
       subst hv4
       unfold zde at k8
       go_wp2_with fail
       go_ret
       exact ⟨HL0.out.k2b HK9.out, HK9.out, Or.inr ⟨_, _, HE.out, rfl, HL9.out, HV9.out⟩⟩
 . rw [<- hT9]
   have ht9 : u2.heap.size <= T9 := by omega
   have HK5 := Hq (show Blk w5 T9 141 (slc ga n1 gc1 gb n2 gc2) by rw [hT9]; exact hk5)
   have HB5 := Hq hb5
   have HL5 := Hq (HL2'.out.below hb5)
   have HT5' := Hq (HT2.out.below hb5)
   have HU5 := Hq (HU2.out.below hb5)
   have HFA := Hq hfa
   have HNW := Hq hnw
   have HBW := Hq (zc HB2'.out hb5)
   have hsu : u2.heap.size <= w5.heap.size := hb5.size
   clear hT9 hst5 hb5 hk5 hbA hbb hfa hnw c3
   rcases hor with ⟨rfl, hns⟩ | ⟨rfl, hss, rfl, rfl, hga, hgn⟩
   . have HE := Hq (zk8 (L := wl l) HN.out hns)
     have HKB := Hq (KbR.of_below (K := K) (MB := MB) (v := .slice av s.todo.length cv) HBW.out)
     clear hns
     go_wp2_with fail
     go_ret
     exact ⟨HL0.out.k2b HKB.out, HKB.out, Or.inl ⟨HE.out, rfl⟩⟩
   . have HFG5 := Hq (HFA.out _ _ hga hgn)
     have HGN := Hq (HNW.out _ hgn)
     have HFW5 := Hq (HFW.out.below HB5.out)
     have hj := zjs (L := wl l) HN.out hss
     have hj2 := zoq (L := wl l) HN.out hss
     clear hga hgn HFA HNW HBO
     generalize hGG : zdz (wl l) was f = G at *
     clear hGG
     have HJ := Hq hj
     have HJ2 := Hq hj2
     have hG8 : G.loc.length <= 100000 /\ G.st.length <= 100000 := HG8.out
     have HSA := Hq (zt1 G was ⟨ga, gc1, gb, gc2⟩ qw w5 HFG5.out HFW5.out hG8.1 hG8.2)
     unfold frV at HSA
     have x0 := HK5.out.cell 0
     have x1 := HK5.out.cell 1
     have x2 := HK5.out.lt
     have x3 := HU5.out.cell 0
     have x4 := HU5.out.cell 1
     have x5 := HU5.out.lt
     unfold slc at x0 x1
     clear hj hj2 hss
     cases hsb : zwj G was with
     | true =>
       rw [hsb] at HSA
       have HE := Hq (HJ.out (zho.1 hsb))
       clear hsb
       go_wp2_with fail
       refine HSA.out.mono ?_
       rintro e w6 ⟨rfl, hb6⟩
       have HB6 := Hq (zc HBW.out hb6)
       have HKB := Hq (KbR.of_below (K := K) (MB := MB) (v := .slice av s.todo.length cv) HB6.out)
       have HL6 := Hq (HL0.out.below HB6.out)
       clear hb6
       go_wp2_with fail
       go_ret
       exact ⟨HL0.out.k2b HKB.out, HKB.out, Or.inr ⟨_, _, HE.out, rfl, HL6.out, .refl _ _⟩⟩
     | false =>
       rw [hsb] at HSA
       have HE := Hq (HJ2.out (fun e => by rw [zho.2 e] at hsb; cases hsb))
       clear hsb
       go_wp2_with fail
       refine HSA.out.mono ?_
       rintro e w6 ⟨rfl, hb6⟩
       have HB6 := Hq (zc HBW.out hb6)
       have HT6 := Hq (HT5'.out.below hb6)
       have HK6 := Hq (HK5.out.below hb6)
       have hs6 := hb6.size
       clear x0 x1 x2 x3 x4 x5
       have x0 := HK6.out.cell 0
       have x1 := HK6.out.cell 1
       have x2 := HK6.out.lt
       have x3 := HT6.out.cell 0
       have x4 := HT6.out.cell 1
       have x5 := HT6.out.lt
       have x6 := HT6.out.frozen 0
       have x7 := HT6.out.frozen 1
       unfold slc at x0 x1
       obtain ⟨w2, hw2⟩ : ∃ w2, w2 = (w6.setCell ⟨w.heap.size, 0, none⟩ (.slice ga G.loc.length gc1)).setCell ⟨w.heap.size, 1, none⟩ (.slice gb G.st.length gc2) := ⟨_, rfl⟩
       have HT5 := Hq (show Blk w2 w.heap.size 141 #[.slice ga G.loc.length gc1, .slice gb G.st.length gc2] by rw [hw2]; exact zm (zm HT6.out 0 _) 1 _)
       have HB2 := Hq (show Below w.heap.size w w2 by rw [hw2]; exact (HB6.out.setCell (p := ⟨w.heap.size, 0, none⟩) (Nat.le_refl _) _).setCell (p := ⟨w.heap.size, 1, none⟩) (Nat.le_refl _) _)
       have HL2 := Hq (HL0.out.below HB2.out)
       have hfg6 := HFG5.out.below hb6
       have hgb : w6.grownBy w2 (some w.heap.size) := by rw [hw2]; exact zai (zai (zp w6 w.heap.size) 0 _) 1 _
       have HFG := Hq (show zfg w2 G ⟨ga, gc1, gb, gc2⟩ from ⟨zcs hgb hfg6.1 (fun ad e => by have := HGN.out.1 ad e; omega), zcs hgb hfg6.2 (fun ad e => by have := HGN.out.2 ad e; omega)⟩)
       have HFAR := Hq (show zm0 K MB (.slice av s.todo.length cv) G ⟨ga, gc1, gb, gc2⟩ from zm0.new (n := w.heap.size) HL0.out.klt HL0.out.mlt HL0.out.vlt ⟨fun ad e => by have := HGN.out.1 ad e; omega, fun ad e => by have := HGN.out.2 ad e; omega⟩)
       clear hb6 hfg6 hgb
       go_upto_region 7 with fail
       rw [<- hw2]
       clear hw2 x0 x1 x2 x3 x4 x5 x6 x7
       obtain ⟨n3, F3, hI3, hF3⟩ := HL2.out.fr
       obtain ⟨w3, hst3, hI3', hg3⟩ := zc7.set (P := Tryz.prog) (w := w2.drew) (k := 3) (t := 106) (e := 141) Tryz.underlying3 Tryz.underlying106 (show zc7 w2.drew MB n3 F3 from hI3) (znw z HZ.out) (frV G ⟨ga, gc1, gb, gc2⟩)
       have HF3 := Hq hF3
       have HI3 := Hq hI3'
       have HG3 := Hq hg3
       have k3 : (w2.drew).cell? ⟨K, 9, none⟩ = some (.map (some MB)) := HL2.out.blk.cell 9
       have k4 := HL2.out.blk.cell 9
       have k5 := HL2.out.klt
       have HK3 := Hq (show Blk w3 K 139 (zde b m p MB (.slice av s.todo.length cv)) from (hg3.block K k5 (by simpa using HL2.out.ne)).trans HL2.out.blk)
       have k6 := HK3.out.cell 10
       have k7 := HK3.out.lt
       have b0 := HT5.out.cell 0
       have b1 := HT5.out.cell 1
       have b2 := HT5.out.lt
       have hs3 : w2.heap.size <= w3.heap.size := hg3.size
       have hs2 := HB2.out.size
       clear hI3 hF3 hI3' hg3
       unfold zde at k3 k4 k6
       unfold frV at hst3
       go_region
       go_wp2_with (at_builtin; refine zek ziz rfl _ _ rfl B _ (s.todo.map zi6) rfl ?cc0 ⟨w3.heap.size, 0, none⟩ 1 (zi6 z) rfl ?cc1 ?cc2 ?cc3 ?cc4 ?cc5 ?_)
       case cc0 => exact (HL2.out.qu.kept (w' := w3) (fun k hk => HG3.out.block k (HL2.out.vlt k hk) (fun e => HL2.out.nvM (by rw [hk, Option.some.inj e])))).below (ze (Below.refl _ _) _)
       first | (case cc1 => rw [World.cell?_alloc_new]; rfl) | skip
       case cc2 => rfl
       case cc3 => have := HT.out; simp; omega
       case cc4 => have := HT.out; simp; omega
       case cc5 => have := HL2.out.bK; simp; omega
       intro v4 w4 hq4 hg4 ho4
       have HQ4 := Hq hq4
       have HG4 := Hq hg4
       have HO4 := Hq ho4
       have HV4 := Hq (show VUp w2 (.slice av s.todo.length cv) v4 from by
         rcases ho4 with h | h
         . exact Or.inl h
         . exact Or.inr (fun k hk => by rw [h] at hk; cases hk; first | omega | (simp; omega)))
       have hk4 : Blk w4 K 139 (zde b m p MB (.slice av s.todo.length cv)) := (hg4.block K (by simp; omega) (fun e => HL2.out.nvK e.symm)).trans ((HK3.out.alloc (.cells #[zi6 z] 3)))
       have k8 := hk4.cell 10
       have k9 := hk4.frozen 10
       have k10 := hk4.lt
       obtain ⟨a4, c4, hv4, _⟩ := hq4.form
       simp only [List.length_append, List.length_map, List.length_cons, List.length_nil] at hv4
       obtain ⟨hl9, hk9⟩ := ze8.push (W3 := w4.setCell ⟨K, 10, none⟩ v4) HL2.out HF3.out rfl (HI3.out.below (ze (Below.refl _ _) (.cells #[zi6 z] 3))) (zds (zc0 (zb9 (zp w2 MB)) HG3.out) (.cells #[zi6 z] 3)) HFG.out HFAR.out HQ4.out HG4.out HV4.out rfl
       have HL9 := Hq hl9
       have HK9 := Hq ((KbR.of_below HB2.out).trans hk9 (.refl _ _))
       have HV9 := Hq ((VUp.refl w _).trans HV4.out hs2)
       clear hq4 hg4 ho4 hk4 hl9 hk9 k3 k4 k5 k6 k7 b0 b1 b2 hst3
       subst hv4
       unfold zde at k8
       go_wp2_with fail
       go_ret
       exact ⟨HL0.out.k2b HK9.out, HK9.out, Or.inr ⟨_, _, HE.out, rfl, HL9.out, HV9.out⟩⟩
theorem zhh (l : List zd) (LC : List CP) (B K MB b : Nat) (m : zo) (p : zaf) (s : zcj) (v : Value) (z : Nat) (f : FrR) (q : zf9) (n : Nat) (w : World) (hW : WOk w b l LC) (hL : ze8 w B K MB b m p s v) (hO : znf (wl l) n s) (hz : z <= 1000000) (hf : zfg w f q) (hfar : zm0 K MB v f q) (hkf : KOk (wl l) f) (hmu : mu (wl l) n s <= 1000000) :
   Calls Tryz.prog 82 #[.pointer (some ⟨K, 0, none⟩), .int .i64 z, frV f q] w (zpf B K MB b m p v (ze0 (wl l) s z f) w) := by
 have ht : s.todo.length <= 1000000 := Nat.le_trans (z5y _ _ _) hmu
 cases hn : s.fr z with
 | none => exact zu3 (wl l) B K MB b m p s v z f q w hL hz hf hfar ht hn
 | some was => exact z18 l LC B K MB b m p s v z f q was w hW hL hz hf hkf (hO.kok _ _ hn).1 ht hn
end Go.Proofs.YtbnkckjdgpiggaaGreatDoor
