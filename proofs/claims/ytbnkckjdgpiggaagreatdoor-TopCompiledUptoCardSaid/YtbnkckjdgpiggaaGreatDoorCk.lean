import Derived.Test.YtbnkckjdgpiggaaGreatDoorRr
import Derived.Test.YtbnkckjdgpiggaaGreatDoorPk
import Derived.Test.YtbnkckjdgpiggaaGreatDoorRe
namespace Go.Proofs.YtbnkckjdgpiggaaGreatDoor
set_option maxRecDepth 100000
set_option maxHeartbeats 16000000
set_option linter.unusedVariables false
set_option linter.unusedSimpArgs false
open Go.RowKit Go.Shelf Go.Lib Go.Sort
abbrev CQ := List zal × (Option Addr × Nat)
def slV (p : CQ) : Value := .slice p.2.1 p.1.length p.2.2
def zft (w : World) (a : Option Addr) (cap : Nat) (l : List zal) : Prop := zcy w a cap l /\ ∀ ad, a = some ad -> ∃ cs, Blk w ad.block 40 cs
theorem zft.below {w w' : World} {a : Option Addr} {cap : Nat} {l : List zal} (h : zft w a cap l) (hb : Below w.heap.size w w') : zft w' a cap l :=
 ⟨h.1.below hb, fun ad e => by obtain ⟨cs, hk⟩ := h.2 ad e; exact ⟨cs, hk.below hb⟩⟩
theorem zft.grown {w w' : World} {a : Option Addr} {cap : Nat} {l : List zal} (h : zft w a cap l) {B n : Nat} {v : Value} {xs : List Value} (ho : w.ownsRow B 41 1 v n xs) (hg : w.grownBy w' v.ownBlock) : zft w' a cap l := by
 have key : ∀ ad, a = some ad -> w'.heap[ad.block]? = w.heap[ad.block]? := fun ad e => by
   obtain ⟨cs, hk⟩ := h.2 ad e
   refine hg.block _ hk.lt fun e2 => ?_
   rcases ho.2 with ⟨rfl, _⟩ | ⟨g, c, cur, rfl, _, hgb, _⟩
   . cases e2
   . have : g = ad.block := by have := e2; simp [Value.ownBlock] at this; omega
     subst this
     have := hk.symm.trans hgb
     simp at this
 refine ⟨?_, fun ad e => by obtain ⟨cs, hk⟩ := h.2 ad e; exact ⟨cs, (key ad e).trans hk⟩⟩
 obtain ⟨h1, h2 | ⟨b, off, rfl, hlt, hc⟩⟩ := h.1
 . exact ⟨h1, Or.inl h2⟩
 . have hk := key _ rfl
   exact ⟨h1, Or.inr ⟨b, off, rfl, Nat.lt_of_lt_of_le hlt hg.size, fun k cs hx j u hu => by rw [World.cell?_of_block (w := w) (a := ⟨b, off + k * 6 + j, none⟩) hk]; exact hc k cs hx j u hu⟩⟩
theorem zha {w : World} {B : Nat} {v : Value} {l : List zal} (h : w.ownsRow B 40 6 v l.length (l.map z6).flatten) : ∃ a cap, v = .slice a l.length cap /\ zft w a cap l := by
 obtain ⟨a, cap, rfl, hc⟩ := zsv h
 refine ⟨a, cap, rfl, hc, fun ad e => ?_⟩
 subst e
 rcases h.2 with ⟨e, _⟩ | ⟨g, c, cur, e, _, hgb, _⟩
 . cases e
 . simp only [Value.slice.injEq, Option.some.injEq] at e
   obtain ⟨rfl, _, _⟩ := e
   exact ⟨cur, hgb⟩
def zb5 (w : World) (a : Option Addr) (cap : Nat) (cq : List CQ) : Prop := zab w a cap (cq.map slV) /\ ∀ p ∈ cq, zft w p.2.1 p.2.2 p.1
theorem zb5.below {w w' : World} {a : Option Addr} {cap : Nat} {cq : List CQ} (h : zb5 w a cap cq) (hb : Below w.heap.size w w') : zb5 w' a cap cq := ⟨h.1.below hb, fun p hp => (h.2 p hp).below hb⟩
theorem zb5.cell {w : World} {a : Option Addr} {cap : Nat} {cq : List CQ} (h : zb5 w a cap cq) {j : Nat} {p : CQ} (hp : cq[j]? = some p) : ∃ b off, a = some ⟨b, off, none⟩ /\ b < w.heap.size /\ w.cell? ⟨b, off + j, none⟩ = some (.slice p.2.1 p.1.length p.2.2) := by
 obtain ⟨⟨_, h2 | ⟨b, off, rfl, hlt, hc⟩⟩, _⟩ := h
 . have : cq = [] := by simpa using h2
   subst this; simp at hp
 . exact ⟨b, off, rfl, hlt, hc j _ (by rw [List.getElem?_map, hp]; rfl)⟩
def zcv (c : List zal) (w : World) (e : Ending) (w' : World) : Prop := Below w.heap.size w w' /\ ∃ a cap, e = .returned (.slice a c.length cap) /\ zft w' a cap c
theorem zzf (cq : List CQ) : ∀ u ∈ cq.map slV, u.oneCell' = true := by
 intro u hu
 obtain ⟨p, _, rfl⟩ := List.mem_map.1 hu
 rfl
theorem zrg : zld Tryz.prog 38 41 1 24 := zld.mk' (z := .slice none 0 0) Tryz.underlying38 (by kernel_rfl) rfl (by decide)
theorem zq3 (W : World) : (sizeOf 41).run Tryz.prog W = .ok 1 W := Tryz.sizeOf41 W
theorem zvq (h : Hd) (hk : h.kind = 1) (v : Value) (w : World) : Calls Tryz.prog 9 #[hdV h, v] w (zcv [zd6 h.ty h.a] w) := by
 have HB := Hq (fun o p => ze (ze (Below.refl w.heap.size w) o) p)
 unfold hdV
 rw [hk]
 go_enter Tryz.func9, Tryz.ntmps9
 go_wp2_with fail
 go_ret
 refine ⟨HB.out _ _, _, _, rfl, ?_⟩
 exact ⟨zck (L := [z6 (zd6 h.ty h.a)]) (zg _ _ _ _ (by simp)) (Nat.le_refl _) (by intro c hc; rw [List.mem_singleton.1 hc]; rfl), fun ad e => ⟨_, by cases e; exact zg _ _ _ _ (by simp)⟩⟩
theorem zzh (h : Hd) (hk : h.kind = 2) (p : CQ) (a : Option Addr) (cap : Nat) (w : World) (hA : zb5 w a cap [p]) : Calls Tryz.prog 9 #[hdV h, .slice a 1 cap] w (zcv p.1 w) := by
 obtain ⟨b, off, rfl, hlt, hc⟩ := hA.cell (j := 0) rfl
 have HC := Hq (hA.2 p (by simp))
 simp only [Nat.add_zero] at hc
 have HB := Hq (fun o => ze (Below.refl w.heap.size w) o)
 clear hA
 unfold hdV
 rw [hk]
 go_enter Tryz.func9, Tryz.ntmps9
 go_wp2_with fail
 go_ret
 exact ⟨HB.out _, _, _, rfl, HC.out.below (HB.out _)⟩
theorem z29 (A B : List zal) : ((A ++ B).map z6).flatten = (A.map z6).flatten ++ (B.map z6).flatten := by simp
theorem z2c (h : Hd) (hk : h.kind = 3) (ha : h.a = 12) (p : CQ) (hp : p.1.length <= 100000) (a : Option Addr) (cap : Nat) (w : World) (hA : zb5 w a cap [p]) : Calls Tryz.prog 9 #[hdV h, .slice a 1 cap] w (zcv (p.1 ++ [zgz h.ty 12]) w) := by
 obtain ⟨b, off, rfl, hlt, hc⟩ := hA.cell (j := 0) rfl
 have HC := Hq (hA.2 p (by simp))
 simp only [Nat.add_zero] at hc
 obtain ⟨W, hW⟩ : ∃ W, W = (w.alloc (.cells #[.int .i64 3, .string ⟨⟨h.ty⟩⟩, .int .i64 12, .slice h.pa h.pos.length h.pc, .slice h.sa h.subs.length h.sc] 25)).alloc (.cells #[] 40) := ⟨_, rfl⟩
 have HB := Hq (show Below w.heap.size w W by rw [hW]; exact ze (ze (Below.refl _ _) _) _)
 have HX := Hq (show Blk W w.heap.size 25 #[.int .i64 3, .string ⟨⟨h.ty⟩⟩, .int .i64 12, .slice h.pa h.pos.length h.pc, .slice h.sa h.subs.length h.sc] by rw [hW]; exact (zg _ _ _ _ rfl).alloc _)
 have HO := Hq (show W.ownsRow (w.heap.size + 1) 40 6 (.slice (some ⟨w.heap.size + 1, 0, none⟩) 0 0) 0 [] by
   rw [hW]
   have := World.ownsRow_made (base := w.heap.size + 1) (e := 40) (size := 6) (w.alloc (.cells #[.int .i64 3, .string ⟨⟨h.ty⟩⟩, .int .i64 12, .slice h.pa h.pos.length h.pc, .slice h.sa h.subs.length h.sc] 25)) #[] 0 (by simp) (by unfold maxLen; omega) rfl
   simpa using this)
 have hws : w.heap.size + 1 <= W.heap.size := by rw [hW]; simp
 have hcW : W.cell? ⟨b, off, none⟩ = some (.slice p.2.1 p.1.length p.2.2) := (HB.out.cell (p := ⟨b, off, none⟩) hlt).trans hc
 have hltW : b < W.heap.size := by omega
 have HCW := Hq (HC.out.below HB.out)
 have e1 := HX.out.cell 1
 have e2 := HX.out.cell 2
 have e9 := HX.out.lt
 clear hA
 unfold hdV
 rw [hk, ha]
 go_enter Tryz.func9, Tryz.ntmps9
 go_wp2_with (at_builtin; rw [<- hW]; refine z8 zmy rfl _ _ rfl (w.heap.size + 1) _ 0 [] rfl HO.out _ p.1.length (p.1.map z6).flatten rfl (zf5 HCW.out.1) (by omega) (by omega) hws ?_)
 intro v5 w5 ho5 hg5
 rw [<- hW] at hg5
 have HB5 := Hq (show Below (w.heap.size + 1) W w5 from (Below.refl _ _).grown hg5 hws (fun q hq => (HO.out.lt q hq).1))
 have HO5 := Hq (show w5.ownsRow (w.heap.size + 1) 40 6 v5 p.1.length (p.1.map z6).flatten by simpa using ho5)
 have hs5 := HB5.out.size
 have hX5 : Blk w5 w.heap.size 25 #[.int .i64 3, .string ⟨⟨h.ty⟩⟩, .int .i64 12, .slice h.pa h.pos.length h.pc, .slice h.sa h.subs.length h.sc] := by
   have := HB5.out.block w.heap.size (by omega)
   exact this.trans HX.out
 clear ho5 hg5 hW e1 e2 e9
 have e1 := hX5.cell 1
 have e2 := hX5.cell 2
 have e9 := hX5.lt
 clear hX5
 go_wp2_with (at_builtin; refine zt zmy rfl _ _ rfl (w.heap.size + 1) _ p.1.length (p.1.map z6).flatten rfl HO5.out (z6 (zgz h.ty 12)) rfl (ze9 _) _ rfl (by simp) (by omega) (by omega) (by omega) ?_)
 intro v6 w6 ho6 hg6
 have hb6 := zbg (B := w.heap.size + 1) (by omega) HO5.out hg6
 obtain ⟨a6, c6, rfl, hc6⟩ := zha (l := p.1 ++ [zgz h.ty 12]) (by rw [List.length_append, zmo]; exact ho6)
 have HC6 := Hq hc6
 have HB6 := Hq (show Below w.heap.size w w6 from HB.out.trans ((HB5.out.trans hb6).mono (by omega)))
 have HL := Hq (show (p.1 ++ [zgz h.ty 12]).length = p.1.length + 1 by simp)
 clear ho6 hg6 hb6 hc6
 go_wp2_with fail
 go_ret
 exact ⟨HB6.out, _, _, rfl, HC6.out⟩
theorem z1s (h : Hd) (hk : h.kind = 3) (h12 : h.a ≠ 12) (p q : CQ) (hp : p.1.length <= 100000) (hq : q.1.length <= 100000) (a : Option Addr) (cap : Nat) (w : World) (hA : zb5 w a cap [p, q]) : Calls Tryz.prog 9 #[hdV h, .slice a 2 cap] w (zcv (p.1 ++ q.1 ++ [zgz h.ty h.a]) w) := by
 obtain ⟨D, hD⟩ : ∃ D, D = p.1 ++ q.1 := ⟨_, rfl⟩
 rw [<- hD]
 have HDD := Hq hD
 have hlpq : D.length <= 200000 := by rw [hD, List.length_append]; omega
 clear hD
 obtain ⟨b, off, rfl, hlt, hc⟩ := hA.cell (j := 0) rfl
 obtain ⟨b', off', hbo, _, hc'⟩ := hA.cell (j := 1) rfl
 simp only [Option.some.injEq, Addr.mk.injEq] at hbo
 obtain ⟨rfl, rfl, _⟩ := hbo
 have HC := Hq (hA.2 p (by simp))
 have HD := Hq (hA.2 q (by simp))
 simp only [Nat.add_zero] at hc
 have q1 : (h.a == 12) = false := by rw [beq_eq_false_iff_ne]; exact h12
 have q2 : (h.a != 12) = true := by rw [bne, q1]; rfl
 clear h12
 obtain ⟨W, hW⟩ : ∃ W, W = (w.alloc (.cells #[.int .i64 3, .string ⟨⟨h.ty⟩⟩, .int .i64 h.a, .slice h.pa h.pos.length h.pc, .slice h.sa h.subs.length h.sc] 25)).alloc (.cells #[] 40) := ⟨_, rfl⟩
 have HB := Hq (show Below w.heap.size w W by rw [hW]; exact ze (ze (Below.refl _ _) _) _)
 have HX := Hq (show Blk W w.heap.size 25 #[.int .i64 3, .string ⟨⟨h.ty⟩⟩, .int .i64 h.a, .slice h.pa h.pos.length h.pc, .slice h.sa h.subs.length h.sc] by rw [hW]; exact (zg _ _ _ _ rfl).alloc _)
 have HO := Hq (show W.ownsRow (w.heap.size + 1) 40 6 (.slice (some ⟨w.heap.size + 1, 0, none⟩) 0 0) 0 [] by
   rw [hW]
   have := World.ownsRow_made (base := w.heap.size + 1) (e := 40) (size := 6) (w.alloc (.cells #[.int .i64 3, .string ⟨⟨h.ty⟩⟩, .int .i64 h.a, .slice h.pa h.pos.length h.pc, .slice h.sa h.subs.length h.sc] 25)) #[] 0 (by simp) (by unfold maxLen; omega) rfl
   simpa using this)
 have hws : w.heap.size + 1 <= W.heap.size := by rw [hW]; simp
 have hcW : W.cell? ⟨b, off, none⟩ = some (.slice p.2.1 p.1.length p.2.2) := (HB.out.cell (p := ⟨b, off, none⟩) hlt).trans hc
 have hltW : b < W.heap.size := by omega
 have hcW' : W.cell? ⟨b, off + 1, none⟩ = some (.slice q.2.1 q.1.length q.2.2) := (HB.out.cell (p := ⟨b, off + 1, none⟩) hlt).trans hc'
 have HCW := Hq (HC.out.below HB.out)
 have HDW := Hq (HD.out.below HB.out)
 have e1 := HX.out.cell 1
 have e2 := HX.out.cell 2
 have e9 := HX.out.lt
 clear hA
 unfold hdV
 rw [hk]
 go_enter Tryz.func9, Tryz.ntmps9
 go_wp2_with (at_builtin; rw [<- hW]; refine z8 zmy rfl _ _ rfl (w.heap.size + 1) _ 0 [] rfl HO.out _ p.1.length (p.1.map z6).flatten rfl (zf5 HCW.out.1) (by omega) (by omega) hws ?_)
 intro v5 w5 ho5 hg5
 rw [<- hW] at hg5
 have HB5 := Hq (show Below (w.heap.size + 1) W w5 from (Below.refl _ _).grown hg5 hws (fun q hq => (HO.out.lt q hq).1))
 have HO5 := Hq (show w5.ownsRow (w.heap.size + 1) 40 6 v5 p.1.length (p.1.map z6).flatten by simpa using ho5)
 have hs5 := HB5.out.size
 have hX5 : Blk w5 w.heap.size 25 #[.int .i64 3, .string ⟨⟨h.ty⟩⟩, .int .i64 h.a, .slice h.pa h.pos.length h.pc, .slice h.sa h.subs.length h.sc] := by
   have := HB5.out.block w.heap.size (by omega)
   exact this.trans HX.out
 clear ho5 hg5 hW e1 e2 e9
 have e1 := hX5.cell 1
 have e2 := hX5.cell 2
 have e9 := hX5.lt
 clear hX5
 have hc5 : w5.cell? ⟨b, off + 1, none⟩ = some (.slice q.2.1 q.1.length q.2.2) := by
   rw [World.cell?_of_block (w := W) (by exact HB5.out.block b (by show b < w.heap.size + 1; omega))]
   exact hcW'
 have hlt5 : b < w5.heap.size := by omega
 have HD5 := Hq (show zft w5 q.2.1 q.2.2 q.1 from HD.out.below (HB.out.trans (HB5.out.mono (by omega))))
 clear hcW hcW' hltW hc hc'
 go_wp2_with (at_builtin; refine z8 zmy rfl _ _ rfl (w.heap.size + 1) _ p.1.length (p.1.map z6).flatten rfl HO5.out _ q.1.length (q.1.map z6).flatten rfl (zf5 HD5.out.1) (by omega) (by omega) (by omega) ?_)
 intro v7 w7 ho7 hg7
 have HB7 := Hq (show Below (w.heap.size + 1) W w7 from HB5.out.grown hg7 (by omega) (fun q hq => (HO5.out.lt q hq).1))
 have HO7 := Hq (show w7.ownsRow (w.heap.size + 1) 40 6 v7 D.length (D.map z6).flatten by rw [HDD.out, z29, List.length_append]; exact ho7)
 have hs7 := HB7.out.size
 have hX7 : Blk w7 w.heap.size 25 #[.int .i64 3, .string ⟨⟨h.ty⟩⟩, .int .i64 h.a, .slice h.pa h.pos.length h.pc, .slice h.sa h.subs.length h.sc] := by
   have := HB7.out.block w.heap.size (by omega)
   exact this.trans HX.out
 clear ho7 hg7 e1 e2 e9 hc5 hlt5
 have e1 := hX7.cell 1
 have e2 := hX7.cell 2
 have e9 := hX7.lt
 clear hX7
 go_wp2_with (at_builtin; refine zt zmy rfl _ _ rfl (w.heap.size + 1) _ D.length (D.map z6).flatten rfl HO7.out (z6 (zgz h.ty h.a)) rfl (ze9 _) _ rfl (by simp) (by omega) (by omega) (by omega) ?_)
 intro v6 w6 ho6 hg6
 have hb6 := zbg (B := w.heap.size + 1) (by omega) HO7.out hg6
 obtain ⟨a6, c6, rfl, hc6⟩ := zha (l := D ++ [zgz h.ty h.a]) (by rw [List.length_append, zmo]; exact ho6)
 have HC6 := Hq hc6
 have HB6 := Hq (show Below w.heap.size w w6 from HB.out.trans ((HB7.out.trans hb6).mono (by omega)))
 have HL := Hq (show (D ++ [zgz h.ty h.a]).length = D.length + 1 by simp)
 clear ho6 hg6 hb6 hc6
 go_wp2_with fail
 go_ret
 exact ⟨HB6.out, _, _, rfl, HC6.out⟩
theorem zf7 {w : World} {a : Option Addr} {cap n : Nat} {cq : List CQ} (h : zab w a cap (cq.map slV)) (hn : n = cq.length) : z4k w 1 (.slice a n cap) n (cq.map slV) := by
 have := zka h (zzf cq)
 rw [List.length_map] at this
 rw [hn]; exact this
theorem zel {w : World} {B n : Nat} {v : Value} {cq : List CQ} (h : w.ownsRow B 41 1 v n (cq.map slV)) (hc : ∀ p ∈ cq, zft w p.2.1 p.2.2 p.1) : ∃ a cap, v = .slice a n cap /\ n = cq.length /\ zb5 w a cap cq := by
 obtain ⟨a, cap, h1, h2, h3⟩ := zmd h
 rw [List.length_map] at h2
 exact ⟨a, cap, h1, h2.symm, h3, hc⟩
theorem z01 (h s : Hd) (hk : h.kind = 4) (i : Nat) (ha : h.a = i) (hs : h.subs = [s]) (cq : List CQ) (hi : i < cq.length) (hl : cq.length <= 1000) (a : Option Addr) (cap : Nat) (w : World) (hA : zb5 w a cap cq) (hS : za6 w 5 h.sa h.sc (h.subs.map zc3)) (c : List zal)
   (hM : ∀ a' c' w', Below w.heap.size w w' -> zb5 w' a' c' (cq.eraseIdx i) -> Calls Tryz.prog 9 #[hdV s, .slice a' (cq.eraseIdx i).length c'] w' (zcv c w')) :
   Calls Tryz.prog 9 #[hdV h, .slice a cq.length cap] w (zcv c w) := by
 have hsl : h.subs.length = 1 := by rw [hs]; rfl
 obtain ⟨sb, so, hsa, hslt, x0, x1, x2, x3, x4⟩ := zbe hS (k := 0) (x := s) (by rw [hs]; rfl)
 simp only [Nat.zero_mul, Nat.add_zero] at x0 x1 x2 x3 x4
 obtain ⟨W, hW⟩ : ∃ W, W = w.alloc (.cells #[.int .i64 4, .string ⟨⟨h.ty⟩⟩, .int .i64 i, .slice h.pa h.pos.length h.pc, .slice (some ⟨sb, so, none⟩) 1 h.sc] 25) := ⟨_, rfl⟩
 have HB := Hq (show Below w.heap.size w W by rw [hW]; exact ze (Below.refl _ _) _)
 have HX := Hq (show Blk W w.heap.size 25 #[.int .i64 4, .string ⟨⟨h.ty⟩⟩, .int .i64 i, .slice h.pa h.pos.length h.pc, .slice (some ⟨sb, so, none⟩) 1 h.sc] by rw [hW]; exact zg _ _ _ _ rfl)
 have hce : ∀ W', Below W.heap.size W W' -> ∀ j v, w.cell? ⟨sb, j, none⟩ = some v -> W'.cell? ⟨sb, j, none⟩ = some v := fun W' hb j v hv => ((zc HB.out hb).cell (p := ⟨sb, j, none⟩) hslt).trans hv
 have HSC0 := Hq (fun W' (hb : Below W.heap.size W W') => show W'.cell? ⟨w.heap.size, 2, none⟩ = some (.int .i64 i) /\ W'.cell? ⟨w.heap.size, 4, none⟩ = some (.slice (some ⟨sb, so, none⟩) 1 h.sc) /\ W'.cell? ⟨sb, so, none⟩ = some (.int .i64 s.kind) /\ W'.cell? ⟨sb, so + 1, none⟩ = some (.string ⟨⟨s.ty⟩⟩) /\ W'.cell? ⟨sb, so + 2, none⟩ = some (.int .i64 s.a) /\ W'.cell? ⟨sb, so + 3, none⟩ = some (.slice s.pa s.pos.length s.pc) /\ W'.cell? ⟨sb, so + 4, none⟩ = some (.slice s.sa s.subs.length s.sc) from ⟨(HX.out.below hb).cell 2, (HX.out.below hb).cell 4, hce W' hb _ _ x0, hce W' hb _ _ x1, hce W' hb _ _ x2, hce W' hb _ _ x3, hce W' hb _ _ x4⟩)
 have hc : cq.length <= cap := by have := hA.1.1; simpa using this
 obtain ⟨a1, ha1⟩ : ∃ a1, a1 = zru a 0 cap := ⟨_, rfl⟩
 obtain ⟨a2, ha2⟩ : ∃ a2, a2 = zru a (i + 1) cap := ⟨_, rfl⟩
 obtain ⟨n2, hn2⟩ : ∃ n2, n2 = cq.length - (i + 1) := ⟨_, rfl⟩
 obtain ⟨c2, hc2⟩ : ∃ c2, c2 = cap - (i + 1) := ⟨_, rfl⟩
 have hs1 : ∀ W, (Instr.slice 38 (.slice a cq.length cap) none (some (.int .i64 (i : Int))) none).run Tryz.prog W = .ok (.slice a1 i cap) W := fun W => by rw [ha1]; exact ze7 Tryz.underlying38 zq3 a cq.length cap i (by omega) .i64 W
 have hs2 : ∀ W, (Instr.slice 38 (.slice a cq.length cap) (some (.int .i64 ((i : Int) + 1))) none none).run Tryz.prog W = .ok (.slice a2 n2 c2) W := fun W => by rw [ha2, hn2, hc2]; exact ze4 Tryz.underlying38 zq3 a cq.length cap (i + 1) (by omega) .i64 W
 have hwr : IntKind.i64.wrap ((i : Int) + 1) = (i : Int) + 1 := by rw [IntKind.wrap_i64]; omega
 have HV1 := Hq (fun W' (hb : Below W.heap.size W W') => show zab W' a1 cap ((cq.take i).map slV) by
   have := zee (hA.1.below (zc HB.out hb)) (lo := 0) (hi := i) (by omega) (by simp; omega)
   rw [ha1, List.map_take]
   simpa using this)
 have HV2 := Hq (fun W' (hb : Below W.heap.size W W') => show zab W' a2 c2 (((cq.drop (i + 1)).take n2).map slV) by
   have := zee (hA.1.below (zc HB.out hb)) (lo := i + 1) (hi := cq.length) (by omega) (by simp)
   rw [ha2, hc2, hn2, List.map_take, List.map_drop]
   exact this)
 have HCA := Hq (fun W' (hb : Below W.heap.size W W') (p : CQ) (hp : p ∈ cq.eraseIdx i) => (hA.2 p (List.mem_of_mem_eraseIdx hp)).below (zc HB.out hb))
 have HE := Hq (show cq.take i ++ (cq.drop (i + 1)).take n2 = cq.eraseIdx i by rw [hn2]; exact zlx cq i)
 have HL := Hq (show ((cq.drop (i + 1)).take n2).length = n2 /\ (cq.take i).length = i /\ (cq.eraseIdx i).length = i + n2 by
   rw [List.length_eraseIdx, if_pos hi]
   refine ⟨?_, ?_, ?_⟩
   . rw [List.length_take, List.length_drop]; omega
   . rw [List.length_take]; omega
   . omega)
 have hb2 : i + n2 <= 1000 := by omega
 have HM := Hq (fun a' c' W' (hb : Below W.heap.size W W') (hz : zb5 W' a' c' (cq.eraseIdx i)) => hM a' c' W' (zc HB.out hb) hz)
 rw [HL.out.2.2] at HM
 unfold hdV at *
 rw [hk, ha, hsl, hsa]
 clear hA hS hM hs hk ha hsl hsa ha1 ha2 hn2 hc2 hce x0 x1 x2 x3 x4 hc
 go_enter Tryz.func9, Tryz.ntmps9
 go_upto_region 12 with fail
 rw [<- hW]
 clear hW
 refine wp_region_held_drew (S := fun W' => W'.cell? ⟨w.heap.size, 2, none⟩ = some (.int .i64 i) /\ W'.cell? ⟨w.heap.size, 4, none⟩ = some (.slice (some ⟨sb, so, none⟩) 1 h.sc) /\ W'.cell? ⟨sb, so, none⟩ = some (.int .i64 s.kind) /\ W'.cell? ⟨sb, so + 1, none⟩ = some (.string ⟨⟨s.ty⟩⟩) /\ W'.cell? ⟨sb, so + 2, none⟩ = some (.int .i64 s.a) /\ W'.cell? ⟨sb, so + 3, none⟩ = some (.slice s.pa s.pos.length s.pc) /\ W'.cell? ⟨sb, so + 4, none⟩ = some (.slice s.sa s.subs.length s.sc)) (by kernel_rfl) ?_ (fun hHeld => ?_)
 . exact HSC0.out _ (Below.refl _ _).drew
 refine wpAnyH_take (i := 0) (oi := { dst := some 50, op := Op.fieldAddr 25 (Operand.tmp 2) 4, type := 0, pos := "top.go:141", after := #[], guard := none }) (v := ?_) rfl (by kernel_rfl) (by kernel_rfl) (by kernel_rfl) (fun _ _ _ h => h) (Or.inl ⟨by rfl, ?_⟩) (by assumption) ?_
 rotate_left
 . (intro w hSw; (try obtain ⟨s0, s1, s2, s3, s4, s5, s6⟩ := hSw); go_simp; try with_reducible rfl)
 refine wpAnyH_take (i := 1) (oi := { dst := some 51, op := Op.load 23 (Operand.tmp 50), type := 23, pos := "top.go:141", after := #[{ on := 0, ground := Ground.data }], guard := none }) (v := ?_) rfl (by kernel_rfl) (by kernel_rfl) (by kernel_rfl) (fun _ _ _ h => h) (Or.inl ⟨by rfl, ?_⟩) (by assumption) ?_
 rotate_left
 . (intro w hSw; (try obtain ⟨s0, s1, s2, s3, s4, s5, s6⟩ := hSw); go_simp; try with_reducible rfl)
 refine wpAnyH_take (i := 2) (oi := { dst := some 52, op := Op.indexAddr 23 (Operand.tmp 51) (Operand.const (Value.int IntKind.i64 0)), type := 0, pos := "top.go:141", after := #[{ on := 1, ground := Ground.data }], guard := none }) (v := ?_) rfl (by kernel_rfl) (by kernel_rfl) (by kernel_rfl) (fun _ _ _ h => h) (Or.inl ⟨by rfl, ?_⟩) (by assumption) ?_
 rotate_left
 . (intro w hSw; (try obtain ⟨s0, s1, s2, s3, s4, s5, s6⟩ := hSw); go_simp; try with_reducible rfl)
 try simp only [Act.put, List.setIfInBounds_toArray, List.set_cons_zero, List.set_cons_succ]
 refine wpAnyH_take (i := 3) (oi := { dst := some 53, op := Op.load 25 (Operand.tmp 52), type := 25, pos := "top.go:141", after := #[{ on := 2, ground := Ground.data }], guard := none }) (v := ?_) rfl (by kernel_rfl) (by kernel_rfl) (by kernel_rfl) (fun _ _ _ h => h) (Or.inl ⟨by rfl, ?_⟩) (by assumption) ?_
 rotate_left
 . (intro w hSw; (try obtain ⟨s0, s1, s2, s3, s4, s5, s6⟩ := hSw); go_simp; try with_reducible rfl)
 refine wpAnyH_take (i := 5) (oi := { dst := some 55, op := Op.move (Operand.tmp 1), type := 38, pos := "top.go:141", after := #[], guard := none }) (v := ?_) rfl (by kernel_rfl) (by kernel_rfl) (by kernel_rfl) (fun _ _ _ h => h) (Or.inl ⟨by rfl, ?_⟩) (by assumption) ?_
 rotate_left
 . (intro w hSw; (try obtain ⟨s0, s1, s2, s3, s4, s5, s6⟩ := hSw); go_simp; try with_reducible rfl)
 refine wpAnyH_take (i := 6) (oi := { dst := some 56, op := Op.fieldAddr 25 (Operand.tmp 2) 2, type := 0, pos := "top.go:141", after := #[], guard := none }) (v := ?_) rfl (by kernel_rfl) (by kernel_rfl) (by kernel_rfl) (fun _ _ _ h => h) (Or.inl ⟨by rfl, ?_⟩) (by assumption) ?_
 rotate_left
 . (intro w hSw; (try obtain ⟨s0, s1, s2, s3, s4, s5, s6⟩ := hSw); go_simp; try with_reducible rfl)
 refine wpAnyH_take (i := 7) (oi := { dst := some 57, op := Op.load 3 (Operand.tmp 56), type := 3, pos := "top.go:141", after := #[{ on := 6, ground := Ground.data }], guard := none }) (v := ?_) rfl (by kernel_rfl) (by kernel_rfl) (by kernel_rfl) (fun _ _ _ h => h) (Or.inl ⟨by rfl, ?_⟩) (by assumption) ?_
 rotate_left
 . (intro w hSw; (try obtain ⟨s0, s1, s2, s3, s4, s5, s6⟩ := hSw); go_simp; try with_reducible rfl)
 try simp only [Act.put, List.setIfInBounds_toArray, List.set_cons_zero, List.set_cons_succ]
 refine wpAnyH_take (i := 8) (oi := { dst := some 58, op := Op.slice 38 (Operand.tmp 55) none (some (Operand.tmp 57)) none, type := 38, pos := "top.go:141", after := #[{ on := 5, ground := Ground.data }, { on := 7, ground := Ground.data }], guard := none }) (v := ?_) rfl (by kernel_rfl) (by kernel_rfl) (by kernel_rfl) (fun _ _ _ h => h) (Or.inl ⟨by rfl, ?_⟩) (by assumption) ?_
 rotate_left
 . (intro w hSw; (try obtain ⟨s0, s1, s2, s3, s4, s5, s6⟩ := hSw); go_simp; try with_reducible rfl)
 refine wpAnyH_take (i := 10) (oi := { dst := some 60, op := Op.move (Operand.tmp 1), type := 38, pos := "top.go:141", after := #[], guard := none }) (v := ?_) rfl (by kernel_rfl) (by kernel_rfl) (by kernel_rfl) (fun _ _ _ h => h) (Or.inl ⟨by rfl, ?_⟩) (by assumption) ?_
 rotate_left
 . (intro w hSw; (try obtain ⟨s0, s1, s2, s3, s4, s5, s6⟩ := hSw); go_simp; try with_reducible rfl)
 refine wpAnyH_take (i := 11) (oi := { dst := some 61, op := Op.fieldAddr 25 (Operand.tmp 2) 2, type := 0, pos := "top.go:141", after := #[], guard := none }) (v := ?_) rfl (by kernel_rfl) (by kernel_rfl) (by kernel_rfl) (fun _ _ _ h => h) (Or.inl ⟨by rfl, ?_⟩) (by assumption) ?_
 rotate_left
 . (intro w hSw; (try obtain ⟨s0, s1, s2, s3, s4, s5, s6⟩ := hSw); go_simp; try with_reducible rfl)
 refine wpAnyH_take (i := 12) (oi := { dst := some 62, op := Op.load 3 (Operand.tmp 61), type := 3, pos := "top.go:141", after := #[{ on := 11, ground := Ground.data }], guard := none }) (v := ?_) rfl (by kernel_rfl) (by kernel_rfl) (by kernel_rfl) (fun _ _ _ h => h) (Or.inl ⟨by rfl, ?_⟩) (by assumption) ?_
 rotate_left
 . (intro w hSw; (try obtain ⟨s0, s1, s2, s3, s4, s5, s6⟩ := hSw); go_simp; try with_reducible rfl)
 try simp only [Act.put, List.setIfInBounds_toArray, List.set_cons_zero, List.set_cons_succ]
 refine wpAnyH_take (i := 13) (oi := { dst := some 63, op := Op.binOp BinOp.add 3 (Operand.tmp 62) (Operand.const (Value.int IntKind.i64 1)) 3, type := 3, pos := "top.go:141", after := #[{ on := 12, ground := Ground.data }], guard := none }) (v := ?_) rfl (by kernel_rfl) (by kernel_rfl) (by kernel_rfl) (fun _ _ _ h => h) (Or.inl ⟨by rfl, ?_⟩) (by assumption) ?_
 rotate_left
 . (intro w hSw; (try obtain ⟨s0, s1, s2, s3, s4, s5, s6⟩ := hSw); go_simp; try with_reducible rfl)
 refine wpAnyH_take (i := 14) (oi := { dst := some 64, op := Op.slice 38 (Operand.tmp 60) (some (Operand.tmp 63)) none none, type := 38, pos := "top.go:141", after := #[{ on := 10, ground := Ground.data }, { on := 13, ground := Ground.data }], guard := none }) (v := ?_) rfl (by kernel_rfl) (by kernel_rfl) (by kernel_rfl) (fun _ _ _ h => h) (Or.inl ⟨by rfl, ?_⟩) (by assumption) ?_
 rotate_left
 . (intro w hSw; (try obtain ⟨s0, s1, s2, s3, s4, s5, s6⟩ := hSw); go_simp; try with_reducible rfl)
 try simp only [Act.put, List.setIfInBounds_toArray, List.set_cons_zero, List.set_cons_succ]
 have HB0 := Hq (show Below W.heap.size W (W.drew.alloc (.cells #[] 41)) from (Below.refl _ _).drew.alloc (Nat.le_refl _) _)
 have HO0 := Hq (show (W.drew.alloc (.cells #[] 41)).ownsRow W.heap.size 41 1 (.slice (some ⟨W.heap.size, 0, none⟩) 0 0) 0 [] from World.ownsRow_made W.drew #[] 0 (Nat.le_refl _) (by unfold maxLen; omega) rfl)
 refine wpAnyH_ready (rs := [4]) (by kernel_rfl) (by simp) ?_
 refine AllReadyH.cons (o := { dst := some 54, op := Op.buildSlice 38 0 #[], type := 38, pos := "top.go:141", after := #[], guard := none }) rfl (fun K hK => ?_) AllReadyH.nil
 go_simp
 try go_wp2_with fail
 refine hK.out _ _ ?_ (fun hHeld => ?_)
 . exact HSC0.out _ HB0.out
 clear hK K
 try simp only [Act.put, List.setIfInBounds_toArray, List.set_cons_zero, List.set_cons_succ]
 refine wpAnyH_ready (rs := [9]) (by kernel_rfl) (by simp) ?_
 refine AllReadyH.cons (o := { dst := some 59, op := Op.call { callee := Callee.builtin Builtin.append, args := #[Operand.tmp 54, Operand.tmp 58], argTypes := #[38, 38] }, type := 38, pos := "top.go:141", after := #[{ on := 4, ground := Ground.data }, { on := 8, ground := Ground.data }], guard := none }) rfl (fun K hK => ?_) AllReadyH.nil
 refine zdt zrg rfl (.tmp 54) (.tmp 58) rfl W.heap.size _ 0 ([]) rfl HO0.out _ i ((cq.take i).map slV) rfl (zf7 (HV1.out _ HB0.out) HL.out.2.1.symm) (by omega) (by omega) HB0.out.size ?_
 intro v1 w1 ho1 hg1 hv1
 have HB1 := Hq (show Below W.heap.size W w1 from Below.grown HB0.out hg1 HB0.out.size hv1)
 have HO1 := Hq (show w1.ownsRow W.heap.size 41 1 v1 i ((cq.take i).map slV) by simpa using ho1)
 clear ho1 hg1 hv1
 refine hK.out _ _ ?_ (fun hHeld => ?_)
 . exact HSC0.out _ HB1.out
 clear hK K
 try simp only [Act.put, List.setIfInBounds_toArray, List.set_cons_zero, List.set_cons_succ]
 refine wpAnyH_ready (rs := [15]) (by kernel_rfl) (by simp) ?_
 refine AllReadyH.cons (o := { dst := some 65, op := Op.call { callee := Callee.builtin Builtin.append, args := #[Operand.tmp 59, Operand.tmp 64], argTypes := #[38, 38] }, type := 38, pos := "top.go:141", after := #[{ on := 9, ground := Ground.data }, { on := 14, ground := Ground.data }, { on := 9, ground := Ground.chain }], guard := none }) rfl (fun K hK => ?_) AllReadyH.nil
 refine zdt zrg rfl (.tmp 59) (.tmp 64) rfl W.heap.size _ i ((cq.take i).map slV) rfl HO1.out _ n2 (((cq.drop (i + 1)).take n2).map slV) rfl (zf7 (HV2.out _ HB1.out) HL.out.1.symm) (by omega) (by omega) HB1.out.size ?_
 intro v2 w2 ho2 hg2 hv2
 have HB2 := Hq (show Below W.heap.size W w2 from Below.grown HB1.out hg2 HB1.out.size hv2)
 have HO2 := Hq (show w2.ownsRow W.heap.size 41 1 v2 (i + n2) ((cq.eraseIdx i).map slV) by rw [<- HE.out, List.map_append]; exact ho2)
 clear ho2 hg2 hv2
 refine hK.out _ _ ?_ (fun hHeld => ?_)
 . exact HSC0.out _ HB2.out
 clear hK K
 try simp only [Act.put, List.setIfInBounds_toArray, List.set_cons_zero, List.set_cons_succ]
 obtain ⟨a4, c4, rfl, hq4, hz4⟩ := zel HO2.out (HCA.out _ HB2.out)
 have HZ4 := Hq hz4
 clear hz4 hq4
 refine wpAnyH_ready (rs := [16]) (by kernel_rfl) (by simp) ?_
 refine AllReadyH.cons (o := { dst := some 66, op := Op.call { callee := Callee.value (Operand.func 9), args := #[Operand.tmp 53, Operand.tmp 65], argTypes := #[25, 38] }, type := 41, pos := "top.go:141", after := #[{ on := 3, ground := Ground.data }, { on := 15, ground := Ground.data }, { on := 15, ground := Ground.chain }], guard := none }) rfl (fun K hK => ?_) AllReadyH.nil
 go_simp
 go_wp2_with ((go_at_call 9; refine (HM.out _ _ _ HB2.out HZ4.out).mono ?_; rintro e w5 ⟨hb5, a5, c5, rfl, hc5⟩; have HB5 := Hq (zc HB2.out hb5); have HC5 := Hq hc5; clear hb5 hc5))
 refine hK.out _ _ ?_ (fun hHeld => ?_)
 . exact HSC0.out _ HB5.out
 clear hK K
 refine wpAnyH_take (i := 17) (oi := { dst := some 4, op := Op.assign (Operand.tmp 66), type := 41, pos := "top.go:141", after := #[{ on := 16, ground := Ground.data }, { on := 16, ground := Ground.chain }, { on := 0, ground := Ground.phase }, { on := 1, ground := Ground.phase }, { on := 2, ground := Ground.phase }, { on := 3, ground := Ground.phase }, { on := 4, ground := Ground.phase }, { on := 5, ground := Ground.phase }, { on := 6, ground := Ground.phase }, { on := 7, ground := Ground.phase }, { on := 8, ground := Ground.phase }, { on := 9, ground := Ground.phase }, { on := 10, ground := Ground.phase }, { on := 11, ground := Ground.phase }, { on := 12, ground := Ground.phase }, { on := 13, ground := Ground.phase }, { on := 14, ground := Ground.phase }, { on := 15, ground := Ground.phase }, { on := 16, ground := Ground.phase }], guard := none }) (v := ?_) rfl (by kernel_rfl) (by kernel_rfl) (by kernel_rfl) (fun _ _ _ h => h) (Or.inl ⟨by rfl, ?_⟩) (by assumption) ?_
 rotate_left
 . (intro w hSw; (try obtain ⟨s0, s1, s2, s3, s4, s5, s6⟩ := hSw); go_simp; try with_reducible rfl)
 try simp only [Act.put, List.setIfInBounds_toArray, List.set_cons_zero, List.set_cons_succ]
 refine wpAnyH_done (by kernel_rfl) ?_ _
 have HB6 := Hq (zc HB.out HB5.out)
 clear hHeld hs1 hs2 HV1 HV2 HM HCA HO0 HO1 HO2 HZ4 HSC0
 go_wp2_with fail
 go_ret
 exact ⟨HB6.out, _, _, rfl, HC5.out⟩
theorem zz8 (h s u : Hd) (hk : h.kind = 5) (i : Nat) (ha : h.a = i) (hs : h.subs = [s, u]) (cq : List CQ) (hi : i <= cq.length) (hl : cq.length <= 1000) (a : Option Addr) (cap : Nat) (w : World) (hA : zb5 w a cap cq) (hS : za6 w 5 h.sa h.sc (h.subs.map zc3)) (d c : List zal)
   (hM2 : ∀ w', Below w.heap.size w w' -> Calls Tryz.prog 9 #[hdV u, .slice none 0 0] w' (zcv d w'))
   (hM : ∀ q a' c' w', Below w.heap.size w w' -> zb5 w' a' c' (cq.take i ++ (d, q) :: cq.drop i) -> Calls Tryz.prog 9 #[hdV s, .slice a' (cq.length + 1) c'] w' (zcv c w')) :
   Calls Tryz.prog 9 #[hdV h, .slice a cq.length cap] w (zcv c w) := by
 have hsl : h.subs.length = 2 := by rw [hs]; rfl
 obtain ⟨sb, so, hsa, hslt, x0, x1, x2, x3, x4⟩ := zbe hS (k := 0) (x := s) (by rw [hs]; rfl)
 simp only [Nat.zero_mul, Nat.add_zero] at x0 x1 x2 x3 x4
 obtain ⟨sb2, so2, hsa2, _, y0, y1, y2, y3, y4⟩ := zbe hS (k := 1) (x := u) (by rw [hs]; rfl)
 rw [hsa] at hsa2
 simp only [Option.some.injEq, Addr.mk.injEq] at hsa2
 obtain ⟨rfl, rfl, _⟩ := hsa2
 simp only [Nat.one_mul] at y0 y1 y2 y3 y4
 obtain ⟨W, hW⟩ : ∃ W, W = w.alloc (.cells #[.int .i64 5, .string ⟨⟨h.ty⟩⟩, .int .i64 i, .slice h.pa h.pos.length h.pc, .slice (some ⟨sb, so, none⟩) 2 h.sc] 25) := ⟨_, rfl⟩
 have HB := Hq (show Below w.heap.size w W by rw [hW]; exact ze (Below.refl _ _) _)
 have HX := Hq (show Blk W w.heap.size 25 #[.int .i64 5, .string ⟨⟨h.ty⟩⟩, .int .i64 i, .slice h.pa h.pos.length h.pc, .slice (some ⟨sb, so, none⟩) 2 h.sc] by rw [hW]; exact zg _ _ _ _ rfl)
 have hce : ∀ W', Below W.heap.size W W' -> ∀ j v, w.cell? ⟨sb, j, none⟩ = some v -> W'.cell? ⟨sb, j, none⟩ = some v := fun W' hb j v hv => ((zc HB.out hb).cell (p := ⟨sb, j, none⟩) hslt).trans hv
 have HSC0 := Hq (fun W' (hb : Below W.heap.size W W') => show W'.cell? ⟨w.heap.size, 2, none⟩ = some (.int .i64 i) /\ W'.cell? ⟨w.heap.size, 4, none⟩ = some (.slice (some ⟨sb, so, none⟩) 2 h.sc) /\ W'.cell? ⟨sb, so, none⟩ = some (.int .i64 s.kind) /\ W'.cell? ⟨sb, so + 1, none⟩ = some (.string ⟨⟨s.ty⟩⟩) /\ W'.cell? ⟨sb, so + 2, none⟩ = some (.int .i64 s.a) /\ W'.cell? ⟨sb, so + 3, none⟩ = some (.slice s.pa s.pos.length s.pc) /\ W'.cell? ⟨sb, so + 4, none⟩ = some (.slice s.sa s.subs.length s.sc) from ⟨(HX.out.below hb).cell 2, (HX.out.below hb).cell 4, hce W' hb _ _ x0, hce W' hb _ _ x1, hce W' hb _ _ x2, hce W' hb _ _ x3, hce W' hb _ _ x4⟩)
 have HSC1 := Hq (fun W' (hb : Below W.heap.size W W') => show W'.cell? ⟨w.heap.size, 2, none⟩ = some (.int .i64 i) /\ W'.cell? ⟨w.heap.size, 4, none⟩ = some (.slice (some ⟨sb, so, none⟩) 2 h.sc) /\ W'.cell? ⟨sb, so + 5, none⟩ = some (.int .i64 u.kind) /\ W'.cell? ⟨sb, so + 5 + 1, none⟩ = some (.string ⟨⟨u.ty⟩⟩) /\ W'.cell? ⟨sb, so + 5 + 2, none⟩ = some (.int .i64 u.a) /\ W'.cell? ⟨sb, so + 5 + 3, none⟩ = some (.slice u.pa u.pos.length u.pc) /\ W'.cell? ⟨sb, so + 5 + 4, none⟩ = some (.slice u.sa u.subs.length u.sc) from ⟨(HX.out.below hb).cell 2, (HX.out.below hb).cell 4, hce W' hb _ _ y0, hce W' hb _ _ y1, hce W' hb _ _ y2, hce W' hb _ _ y3, hce W' hb _ _ y4⟩)
 have hc : cq.length <= cap := by have := hA.1.1; simpa using this
 obtain ⟨a1, ha1⟩ : ∃ a1, a1 = zru a 0 cap := ⟨_, rfl⟩
 obtain ⟨a2, ha2⟩ : ∃ a2, a2 = zru a i cap := ⟨_, rfl⟩
 obtain ⟨n2, hn2⟩ : ∃ n2, n2 = cq.length - i := ⟨_, rfl⟩
 obtain ⟨c2, hc2⟩ : ∃ c2, c2 = cap - i := ⟨_, rfl⟩
 have hs1 : ∀ W, (Instr.slice 38 (.slice a cq.length cap) none (some (.int .i64 (i : Int))) none).run Tryz.prog W = .ok (.slice a1 i cap) W := fun W => by rw [ha1]; exact ze7 Tryz.underlying38 zq3 a cq.length cap i (by omega) .i64 W
 have hs2 : ∀ W, (Instr.slice 38 (.slice a cq.length cap) (some (.int .i64 (i : Int))) none none).run Tryz.prog W = .ok (.slice a2 n2 c2) W := fun W => by rw [ha2, hn2, hc2]; exact ze4 Tryz.underlying38 zq3 a cq.length cap i (by omega) .i64 W
 have HV1 := Hq (fun W' (hb : Below W.heap.size W W') => show zab W' a1 cap ((cq.take i).map slV) by
   have := zee (hA.1.below (zc HB.out hb)) (lo := 0) (hi := i) (by omega) (by simp; omega)
   rw [ha1, List.map_take]
   simpa using this)
 have HV2 := Hq (fun W' (hb : Below W.heap.size W W') => show zab W' a2 c2 ((cq.drop i).map slV) by
   have := zee (hA.1.below (zc HB.out hb)) (lo := i) (hi := cq.length) (by omega) (by simp)
   rw [ha2, hc2, List.map_drop]
   rwa [List.take_of_length_le (by simp)] at this)
 have HCA := Hq (fun W' (hb : Below W.heap.size W W') (p : CQ) (hp : p ∈ cq) => (hA.2 p hp).below (zc HB.out hb))
 have HL := Hq (show (cq.drop i).length = n2 /\ (cq.take i).length = i /\ cq.length + 1 = i + 1 + n2 by
   refine ⟨by rw [List.length_drop, hn2], by rw [List.length_take]; omega, by omega⟩)
 have hb2 : i + 1 + n2 <= 1001 := by omega
 have HM2 := Hq (fun W' (hb : Below W.heap.size W W') => hM2 W' (zc HB.out hb))
 have HM := Hq (fun q a' c' W' (hb : Below W.heap.size W W') (hz : zb5 W' a' c' (cq.take i ++ (d, q) :: cq.drop i)) => hM q a' c' W' (zc HB.out hb) hz)
 rw [HL.out.2.2] at HM
 unfold hdV at *
 rw [hk, ha, hsl, hsa]
 clear hA hS hM hM2 hs hk ha hsl hsa ha1 ha2 hn2 hc2 hce x0 x1 x2 x3 x4 y0 y1 y2 y3 y4 hc
 go_enter Tryz.func9, Tryz.ntmps9
 go_upto_region 21 with fail
 rw [<- hW]
 clear hW
 refine wp_region_held_drew (S := fun W' => W'.cell? ⟨w.heap.size, 2, none⟩ = some (.int .i64 i) /\ W'.cell? ⟨w.heap.size, 4, none⟩ = some (.slice (some ⟨sb, so, none⟩) 2 h.sc) /\ W'.cell? ⟨sb, so + 5, none⟩ = some (.int .i64 u.kind) /\ W'.cell? ⟨sb, so + 5 + 1, none⟩ = some (.string ⟨⟨u.ty⟩⟩) /\ W'.cell? ⟨sb, so + 5 + 2, none⟩ = some (.int .i64 u.a) /\ W'.cell? ⟨sb, so + 5 + 3, none⟩ = some (.slice u.pa u.pos.length u.pc) /\ W'.cell? ⟨sb, so + 5 + 4, none⟩ = some (.slice u.sa u.subs.length u.sc)) (by kernel_rfl) ?_ (fun hHeld => ?_)
 . exact HSC1.out _ (Below.refl _ _).drew
 refine wpAnyH_take (i := 1) (oi := { dst := some 96, op := Op.move (Operand.tmp 1), type := 38, pos := "top.go:149", after := #[], guard := none }) (v := ?_) rfl (by kernel_rfl) (by kernel_rfl) (by kernel_rfl) (fun _ _ _ h => h) (Or.inl ⟨by rfl, ?_⟩) (by assumption) ?_
 rotate_left
 . (intro w hSw; (try obtain ⟨s0, s1, s2, s3, s4, s5, s6⟩ := hSw); go_simp; try with_reducible rfl)
 try simp only [Act.put, List.setIfInBounds_toArray, List.set_cons_zero, List.set_cons_succ]
 refine wpAnyH_take (i := 2) (oi := { dst := some 97, op := Op.fieldAddr 25 (Operand.tmp 2) 2, type := 0, pos := "top.go:149", after := #[], guard := none }) (v := ?_) rfl (by kernel_rfl) (by kernel_rfl) (by kernel_rfl) (fun _ _ _ h => h) (Or.inl ⟨by rfl, ?_⟩) (by assumption) ?_
 rotate_left
 . (intro w hSw; (try obtain ⟨s0, s1, s2, s3, s4, s5, s6⟩ := hSw); go_simp; try with_reducible rfl)
 refine wpAnyH_take (i := 3) (oi := { dst := some 98, op := Op.load 3 (Operand.tmp 97), type := 3, pos := "top.go:149", after := #[{ on := 2, ground := Ground.data }], guard := none }) (v := ?_) rfl (by kernel_rfl) (by kernel_rfl) (by kernel_rfl) (fun _ _ _ h => h) (Or.inl ⟨by rfl, ?_⟩) (by assumption) ?_
 rotate_left
 . (intro w hSw; (try obtain ⟨s0, s1, s2, s3, s4, s5, s6⟩ := hSw); go_simp; try with_reducible rfl)
 refine wpAnyH_take (i := 4) (oi := { dst := some 99, op := Op.slice 38 (Operand.tmp 96) none (some (Operand.tmp 98)) none, type := 38, pos := "top.go:149", after := #[{ on := 1, ground := Ground.data }, { on := 3, ground := Ground.data }], guard := none }) (v := ?_) rfl (by kernel_rfl) (by kernel_rfl) (by kernel_rfl) (fun _ _ _ h => h) (Or.inl ⟨by rfl, ?_⟩) (by assumption) ?_
 rotate_left
 . (intro w hSw; (try obtain ⟨s0, s1, s2, s3, s4, s5, s6⟩ := hSw); go_simp; try with_reducible rfl)
 refine wpAnyH_take (i := 6) (oi := { dst := some 101, op := Op.fieldAddr 25 (Operand.tmp 2) 4, type := 0, pos := "top.go:149", after := #[], guard := none }) (v := ?_) rfl (by kernel_rfl) (by kernel_rfl) (by kernel_rfl) (fun _ _ _ h => h) (Or.inl ⟨by rfl, ?_⟩) (by assumption) ?_
 rotate_left
 . (intro w hSw; (try obtain ⟨s0, s1, s2, s3, s4, s5, s6⟩ := hSw); go_simp; try with_reducible rfl)
 try simp only [Act.put, List.setIfInBounds_toArray, List.set_cons_zero, List.set_cons_succ]
 refine wpAnyH_take (i := 7) (oi := { dst := some 102, op := Op.load 23 (Operand.tmp 101), type := 23, pos := "top.go:149", after := #[{ on := 6, ground := Ground.data }], guard := none }) (v := ?_) rfl (by kernel_rfl) (by kernel_rfl) (by kernel_rfl) (fun _ _ _ h => h) (Or.inl ⟨by rfl, ?_⟩) (by assumption) ?_
 rotate_left
 . (intro w hSw; (try obtain ⟨s0, s1, s2, s3, s4, s5, s6⟩ := hSw); go_simp; try with_reducible rfl)
 refine wpAnyH_take (i := 8) (oi := { dst := some 103, op := Op.indexAddr 23 (Operand.tmp 102) (Operand.const (Value.int IntKind.i64 1)), type := 0, pos := "top.go:149", after := #[{ on := 7, ground := Ground.data }], guard := none }) (v := ?_) rfl (by kernel_rfl) (by kernel_rfl) (by kernel_rfl) (fun _ _ _ h => h) (Or.inl ⟨by rfl, ?_⟩) (by assumption) ?_
 rotate_left
 . (intro w hSw; (try obtain ⟨s0, s1, s2, s3, s4, s5, s6⟩ := hSw); go_simp; try with_reducible rfl)
 refine wpAnyH_take (i := 9) (oi := { dst := some 104, op := Op.load 25 (Operand.tmp 103), type := 25, pos := "top.go:149", after := #[{ on := 8, ground := Ground.data }], guard := none }) (v := ?_) rfl (by kernel_rfl) (by kernel_rfl) (by kernel_rfl) (fun _ _ _ h => h) (Or.inl ⟨by rfl, ?_⟩) (by assumption) ?_
 rotate_left
 . (intro w hSw; (try obtain ⟨s0, s1, s2, s3, s4, s5, s6⟩ := hSw); go_simp; try with_reducible rfl)
 try simp only [Act.put, List.setIfInBounds_toArray, List.set_cons_zero, List.set_cons_succ]
 have HB0 := Hq (show Below W.heap.size W (W.drew.alloc (.cells #[] 41)) from (Below.refl _ _).drew.alloc (Nat.le_refl _) _)
 have HO0 := Hq (show (W.drew.alloc (.cells #[] 41)).ownsRow W.heap.size 41 1 (.slice (some ⟨W.heap.size, 0, none⟩) 0 0) 0 [] from World.ownsRow_made W.drew #[] 0 (Nat.le_refl _) (by unfold maxLen; omega) rfl)
 refine wpAnyH_ready (rs := [0]) (by kernel_rfl) (by simp) ?_
 refine AllReadyH.cons (o := { dst := some 95, op := Op.buildSlice 38 0 #[], type := 38, pos := "top.go:149", after := #[], guard := none }) rfl (fun K hK => ?_) AllReadyH.nil
 go_simp
 try go_wp2_with fail
 refine hK.out _ _ ?_ (fun hHeld => ?_)
 . exact HSC1.out _ HB0.out
 clear hK K
 try simp only [Act.put, List.setIfInBounds_toArray, List.set_cons_zero, List.set_cons_succ]
 refine wpAnyH_ready (rs := [5]) (by kernel_rfl) (by simp) ?_
 refine AllReadyH.cons (o := { dst := some 100, op := Op.call { callee := Callee.builtin Builtin.append, args := #[Operand.tmp 95, Operand.tmp 99], argTypes := #[38, 38] }, type := 38, pos := "top.go:149", after := #[{ on := 0, ground := Ground.data }, { on := 4, ground := Ground.data }], guard := none }) rfl (fun K hK => ?_) AllReadyH.nil
 refine zdt zrg rfl (.tmp 95) (.tmp 99) rfl W.heap.size _ 0 ([]) rfl HO0.out _ i ((cq.take i).map slV) rfl (zf7 (HV1.out _ HB0.out) HL.out.2.1.symm) (by omega) (by omega) HB0.out.size ?_
 intro v1 w1 ho1 hg1 hv1
 have HB1 := Hq (show Below W.heap.size W w1 from Below.grown HB0.out hg1 HB0.out.size hv1)
 have HO1 := Hq (show w1.ownsRow W.heap.size 41 1 v1 i ((cq.take i).map slV) by simpa using ho1)
 clear ho1 hg1 hv1
 refine hK.out _ _ ?_ (fun hHeld => ?_)
 . exact HSC1.out _ HB1.out
 clear hK K
 try simp only [Act.put, List.setIfInBounds_toArray, List.set_cons_zero, List.set_cons_succ]
 refine wpAnyH_ready (rs := [10]) (by kernel_rfl) (by simp) ?_
 refine AllReadyH.cons (o := { dst := some 105, op := Op.call { callee := Callee.value (Operand.func 9), args := #[Operand.tmp 104, Operand.const (Value.slice none 0 0)], argTypes := #[25, 38] }, type := 41, pos := "top.go:149", after := #[{ on := 9, ground := Ground.data }, { on := 5, ground := Ground.chain }], guard := none }) rfl (fun K hK => ?_) AllReadyH.nil
 go_simp
 go_wp2_with ((go_at_call 9; refine (HM2.out _ HB1.out).mono ?_; rintro e w2 ⟨hb2c, qa, qc, rfl, hqc⟩; have HB2 := Hq (zc HB1.out hb2c); have HO2 := Hq (zad HO1.out hb2c); have HQC := Hq hqc; clear hb2c hqc))
 refine hK.out _ _ ?_ (fun hHeld => ?_)
 . exact HSC1.out _ HB2.out
 clear hK K
 try simp only [Act.put, List.setIfInBounds_toArray, List.set_cons_zero, List.set_cons_succ]
 have HB3 := Hq (show Below W.heap.size W (w2.alloc (.cells #[.slice qa d.length qc] 41)) from HB2.out.alloc HB2.out.size _)
 have HO3 := Hq (show (w2.alloc (.cells #[.slice qa d.length qc] 41)).ownsRow W.heap.size 41 1 v1 i ((cq.take i).map slV) from HO2.out.alloc _)
 have HV3 := Hq (show zab (w2.alloc (.cells #[.slice qa d.length qc] 41)) (some ⟨w2.heap.size, 0, none⟩) 1 (([(d, (qa, qc))] : List CQ).map slV) from ⟨by simp, Or.inr ⟨w2.heap.size, 0, rfl, by simp, fun j x hj => by rw [Nat.zero_add]; exact ((zg w2 w2.heap.size 41 #[.slice qa d.length qc] rfl).cell j).trans (by simpa [slV] using hj)⟩⟩)
 have HQ3 := Hq (HQC.out.below (ze (Below.refl w2.heap.size w2) (.cells #[.slice qa d.length qc] 41)))
 refine wpAnyH_ready (rs := [11]) (by kernel_rfl) (by simp) ?_
 refine AllReadyH.cons (o := { dst := some 106, op := Op.buildSlice 38 1 #[(0, Operand.tmp 105)], type := 38, pos := "top.go:149", after := #[{ on := 10, ground := Ground.data }], guard := none }) rfl (fun K hK => ?_) AllReadyH.nil
 go_simp
 try go_wp2_with fail
 refine hK.out _ _ ?_ (fun hHeld => ?_)
 . exact HSC1.out _ HB3.out
 clear hK K
 try simp only [Act.put, List.setIfInBounds_toArray, List.set_cons_zero, List.set_cons_succ]
 refine wpAnyH_ready (rs := [12]) (by kernel_rfl) (by simp) ?_
 refine AllReadyH.cons (o := { dst := some 107, op := Op.call { callee := Callee.builtin Builtin.append, args := #[Operand.tmp 100, Operand.tmp 106], argTypes := #[38, 38] }, type := 38, pos := "top.go:149", after := #[{ on := 5, ground := Ground.data }, { on := 11, ground := Ground.data }, { on := 10, ground := Ground.chain }], guard := none }) rfl (fun K hK => ?_) AllReadyH.nil
 refine zdt zrg rfl (.tmp 100) (.tmp 106) rfl W.heap.size _ i ((cq.take i).map slV) rfl HO3.out _ 1 (([(d, (qa, qc))] : List CQ).map slV) rfl (zf7 HV3.out rfl) (by omega) (by omega) HB3.out.size ?_
 intro v4 w4 ho4 hg4 hv4
 have HB4 := Hq (show Below W.heap.size W w4 from Below.grown HB3.out hg4 HB3.out.size hv4)
 have HO4 := Hq (show w4.ownsRow W.heap.size 41 1 v4 (i + 1) ((cq.take i).map slV ++ ([(d, (qa, qc))] : List CQ).map slV) from ho4)
 have HQ4 := Hq (show zft w4 qa qc d from HQ3.out.grown HO3.out hg4)
 clear ho4 hg4 hv4
 refine hK.out _ _ ?_ (fun hHeld => ?_)
 . exact HSC1.out _ HB4.out
 clear hK K
 refine wpAnyH_take (i := 13) (oi := { dst := some 8, op := Op.assign (Operand.tmp 107), type := 38, pos := "top.go:149", after := #[{ on := 12, ground := Ground.data }, { on := 12, ground := Ground.chain }, { on := 0, ground := Ground.phase }, { on := 1, ground := Ground.phase }, { on := 2, ground := Ground.phase }, { on := 3, ground := Ground.phase }, { on := 4, ground := Ground.phase }, { on := 5, ground := Ground.phase }, { on := 6, ground := Ground.phase }, { on := 7, ground := Ground.phase }, { on := 8, ground := Ground.phase }, { on := 9, ground := Ground.phase }, { on := 10, ground := Ground.phase }, { on := 11, ground := Ground.phase }, { on := 12, ground := Ground.phase }], guard := none }) (v := ?_) rfl (by kernel_rfl) (by kernel_rfl) (by kernel_rfl) (fun _ _ _ h => h) (Or.inl ⟨by rfl, ?_⟩) (by assumption) ?_
 rotate_left
 . (intro w hSw; (try obtain ⟨s0, s1, s2, s3, s4, s5, s6⟩ := hSw); go_simp; try with_reducible rfl)
 try simp only [Act.put, List.setIfInBounds_toArray, List.set_cons_zero, List.set_cons_succ]
 refine wpAnyH_done (by kernel_rfl) ?_ _
 clear hHeld HV1 HO0 HO1 HO2 HO3 HV3 HM2 HSC1 HQC HQ3
 go_upto_region 22 with fail
 refine wp_region_held_drew (S := fun W' => W'.cell? ⟨w.heap.size, 2, none⟩ = some (.int .i64 i) /\ W'.cell? ⟨w.heap.size, 4, none⟩ = some (.slice (some ⟨sb, so, none⟩) 2 h.sc) /\ W'.cell? ⟨sb, so, none⟩ = some (.int .i64 s.kind) /\ W'.cell? ⟨sb, so + 1, none⟩ = some (.string ⟨⟨s.ty⟩⟩) /\ W'.cell? ⟨sb, so + 2, none⟩ = some (.int .i64 s.a) /\ W'.cell? ⟨sb, so + 3, none⟩ = some (.slice s.pa s.pos.length s.pc) /\ W'.cell? ⟨sb, so + 4, none⟩ = some (.slice s.sa s.subs.length s.sc)) (by kernel_rfl) ?_ (fun hHeld => ?_)
 . exact HSC0.out _ HB4.out.drew
 refine wpAnyH_take (i := 0) (oi := { dst := some 108, op := Op.fieldAddr 25 (Operand.tmp 2) 4, type := 0, pos := "top.go:150", after := #[], guard := none }) (v := ?_) rfl (by kernel_rfl) (by kernel_rfl) (by kernel_rfl) (fun _ _ _ h => h) (Or.inl ⟨by rfl, ?_⟩) (by assumption) ?_
 rotate_left
 . (intro w hSw; (try obtain ⟨s0, s1, s2, s3, s4, s5, s6⟩ := hSw); go_simp; try with_reducible rfl)
 refine wpAnyH_take (i := 1) (oi := { dst := some 109, op := Op.load 23 (Operand.tmp 108), type := 23, pos := "top.go:150", after := #[{ on := 0, ground := Ground.data }], guard := none }) (v := ?_) rfl (by kernel_rfl) (by kernel_rfl) (by kernel_rfl) (fun _ _ _ h => h) (Or.inl ⟨by rfl, ?_⟩) (by assumption) ?_
 rotate_left
 . (intro w hSw; (try obtain ⟨s0, s1, s2, s3, s4, s5, s6⟩ := hSw); go_simp; try with_reducible rfl)
 refine wpAnyH_take (i := 2) (oi := { dst := some 110, op := Op.indexAddr 23 (Operand.tmp 109) (Operand.const (Value.int IntKind.i64 0)), type := 0, pos := "top.go:150", after := #[{ on := 1, ground := Ground.data }], guard := none }) (v := ?_) rfl (by kernel_rfl) (by kernel_rfl) (by kernel_rfl) (fun _ _ _ h => h) (Or.inl ⟨by rfl, ?_⟩) (by assumption) ?_
 rotate_left
 . (intro w hSw; (try obtain ⟨s0, s1, s2, s3, s4, s5, s6⟩ := hSw); go_simp; try with_reducible rfl)
 refine wpAnyH_take (i := 3) (oi := { dst := some 111, op := Op.load 25 (Operand.tmp 110), type := 25, pos := "top.go:150", after := #[{ on := 2, ground := Ground.data }], guard := none }) (v := ?_) rfl (by kernel_rfl) (by kernel_rfl) (by kernel_rfl) (fun _ _ _ h => h) (Or.inl ⟨by rfl, ?_⟩) (by assumption) ?_
 rotate_left
 . (intro w hSw; (try obtain ⟨s0, s1, s2, s3, s4, s5, s6⟩ := hSw); go_simp; try with_reducible rfl)
 try simp only [Act.put, List.setIfInBounds_toArray, List.set_cons_zero, List.set_cons_succ]
 refine wpAnyH_take (i := 4) (oi := { dst := some 112, op := Op.move (Operand.tmp 8), type := 38, pos := "top.go:150", after := #[], guard := none }) (v := ?_) rfl (by kernel_rfl) (by kernel_rfl) (by kernel_rfl) (fun _ _ _ h => h) (Or.inl ⟨by rfl, ?_⟩) (by assumption) ?_
 rotate_left
 . (intro w hSw; (try obtain ⟨s0, s1, s2, s3, s4, s5, s6⟩ := hSw); go_simp; try with_reducible rfl)
 refine wpAnyH_take (i := 5) (oi := { dst := some 113, op := Op.move (Operand.tmp 1), type := 38, pos := "top.go:150", after := #[], guard := none }) (v := ?_) rfl (by kernel_rfl) (by kernel_rfl) (by kernel_rfl) (fun _ _ _ h => h) (Or.inl ⟨by rfl, ?_⟩) (by assumption) ?_
 rotate_left
 . (intro w hSw; (try obtain ⟨s0, s1, s2, s3, s4, s5, s6⟩ := hSw); go_simp; try with_reducible rfl)
 refine wpAnyH_take (i := 6) (oi := { dst := some 114, op := Op.fieldAddr 25 (Operand.tmp 2) 2, type := 0, pos := "top.go:150", after := #[], guard := none }) (v := ?_) rfl (by kernel_rfl) (by kernel_rfl) (by kernel_rfl) (fun _ _ _ h => h) (Or.inl ⟨by rfl, ?_⟩) (by assumption) ?_
 rotate_left
 . (intro w hSw; (try obtain ⟨s0, s1, s2, s3, s4, s5, s6⟩ := hSw); go_simp; try with_reducible rfl)
 refine wpAnyH_take (i := 7) (oi := { dst := some 115, op := Op.load 3 (Operand.tmp 114), type := 3, pos := "top.go:150", after := #[{ on := 6, ground := Ground.data }], guard := none }) (v := ?_) rfl (by kernel_rfl) (by kernel_rfl) (by kernel_rfl) (fun _ _ _ h => h) (Or.inl ⟨by rfl, ?_⟩) (by assumption) ?_
 rotate_left
 . (intro w hSw; (try obtain ⟨s0, s1, s2, s3, s4, s5, s6⟩ := hSw); go_simp; try with_reducible rfl)
 try simp only [Act.put, List.setIfInBounds_toArray, List.set_cons_zero, List.set_cons_succ]
 refine wpAnyH_take (i := 8) (oi := { dst := some 116, op := Op.slice 38 (Operand.tmp 113) (some (Operand.tmp 115)) none none, type := 38, pos := "top.go:150", after := #[{ on := 5, ground := Ground.data }, { on := 7, ground := Ground.data }], guard := none }) (v := ?_) rfl (by kernel_rfl) (by kernel_rfl) (by kernel_rfl) (fun _ _ _ h => h) (Or.inl ⟨by rfl, ?_⟩) (by assumption) ?_
 rotate_left
 . (intro w hSw; (try obtain ⟨s0, s1, s2, s3, s4, s5, s6⟩ := hSw); go_simp; try with_reducible rfl)
 try simp only [Act.put, List.setIfInBounds_toArray, List.set_cons_zero, List.set_cons_succ]
 have HB4D := Hq (show Below W.heap.size W w4.drew from HB4.out.drew)
 have HO4D := Hq (show w4.drew.ownsRow W.heap.size 41 1 v4 (i + 1) ((cq.take i).map slV ++ ([(d, (qa, qc))] : List CQ).map slV) from HO4.out)
 have HQ4D := Hq (show zft w4.drew qa qc d from HQ4.out.below (Below.refl _ _).drew)
 refine wpAnyH_ready (rs := [9]) (by kernel_rfl) (by simp) ?_
 refine AllReadyH.cons (o := { dst := some 117, op := Op.call { callee := Callee.builtin Builtin.append, args := #[Operand.tmp 112, Operand.tmp 116], argTypes := #[38, 38] }, type := 38, pos := "top.go:150", after := #[{ on := 4, ground := Ground.data }, { on := 8, ground := Ground.data }], guard := none }) rfl (fun K hK => ?_) AllReadyH.nil
 refine zdt zrg rfl (.tmp 112) (.tmp 116) rfl W.heap.size _ (i + 1) ((cq.take i).map slV ++ ([(d, (qa, qc))] : List CQ).map slV) rfl HO4D.out _ n2 ((cq.drop i).map slV) rfl (zf7 (HV2.out _ HB4D.out) HL.out.1.symm) (by omega) (by omega) HB4D.out.size ?_
 intro v5 w5 ho5 hg5 hv5
 have HB5 := Hq (show Below W.heap.size W w5 from Below.grown HB4D.out hg5 HB4D.out.size hv5)
 have HO5 := Hq (show w5.ownsRow W.heap.size 41 1 v5 (i + 1 + n2) ((cq.take i ++ (d, (qa, qc)) :: cq.drop i).map slV) by simpa using ho5)
 have HQ5 := Hq (show zft w5 qa qc d from HQ4D.out.grown HO4D.out hg5)
 clear ho5 hg5 hv5
 refine hK.out _ _ ?_ (fun hHeld => ?_)
 . exact HSC0.out _ HB5.out
 clear hK K
 try simp only [Act.put, List.setIfInBounds_toArray, List.set_cons_zero, List.set_cons_succ]
 obtain ⟨a6, c6, rfl, hq6, hz6⟩ := zel HO5.out (fun p hp => by
   simp only [List.mem_append, List.mem_cons] at hp
   rcases hp with hp | rfl | hp
   . exact HCA.out _ HB5.out p (List.mem_of_mem_take hp)
   . exact HQ5.out
   . exact HCA.out _ HB5.out p (List.mem_of_mem_drop hp))
 have HZ6 := Hq hz6
 clear hz6 hq6
 refine wpAnyH_ready (rs := [10]) (by kernel_rfl) (by simp) ?_
 refine AllReadyH.cons (o := { dst := some 118, op := Op.call { callee := Callee.value (Operand.func 9), args := #[Operand.tmp 111, Operand.tmp 117], argTypes := #[25, 38] }, type := 41, pos := "top.go:150", after := #[{ on := 3, ground := Ground.data }, { on := 9, ground := Ground.data }, { on := 9, ground := Ground.chain }], guard := none }) rfl (fun K hK => ?_) AllReadyH.nil
 go_simp
 go_wp2_with ((go_at_call 9; refine (HM.out _ _ _ _ HB5.out HZ6.out).mono ?_; rintro e w7 ⟨hb7, a7, c7, rfl, hc7⟩; have HB7 := Hq (zc HB5.out hb7); have HC7 := Hq hc7; clear hb7 hc7))
 refine hK.out _ _ ?_ (fun hHeld => ?_)
 . exact HSC0.out _ HB7.out
 clear hK K
 refine wpAnyH_take (i := 11) (oi := { dst := some 4, op := Op.assign (Operand.tmp 118), type := 41, pos := "top.go:150", after := #[{ on := 10, ground := Ground.data }, { on := 10, ground := Ground.chain }, { on := 0, ground := Ground.phase }, { on := 1, ground := Ground.phase }, { on := 2, ground := Ground.phase }, { on := 3, ground := Ground.phase }, { on := 4, ground := Ground.phase }, { on := 5, ground := Ground.phase }, { on := 6, ground := Ground.phase }, { on := 7, ground := Ground.phase }, { on := 8, ground := Ground.phase }, { on := 9, ground := Ground.phase }, { on := 10, ground := Ground.phase }], guard := none }) (v := ?_) rfl (by kernel_rfl) (by kernel_rfl) (by kernel_rfl) (fun _ _ _ h => h) (Or.inl ⟨by rfl, ?_⟩) (by assumption) ?_
 rotate_left
 . (intro w hSw; (try obtain ⟨s0, s1, s2, s3, s4, s5, s6⟩ := hSw); go_simp; try with_reducible rfl)
 try simp only [Act.put, List.setIfInBounds_toArray, List.set_cons_zero, List.set_cons_succ]
 refine wpAnyH_done (by kernel_rfl) ?_ _
 have HB8 := Hq (zc HB.out HB7.out)
 clear hHeld hs1 hs2 HV2 HM HCA HO4 HO4D HO5 HZ6 HSC0
 go_wp2_with fail
 go_ret
 exact ⟨HB8.out, _, _, rfl, HC7.out⟩
theorem zyr (h s : Hd) (hk : h.kind = 6) (hs : h.subs = [s]) (cq : List CQ) (hl : cq.length <= 1000) (hpl : h.pos.length <= 1000) (hp : ∀ k ∈ h.pos, 0 <= k /\ k.toNat < cq.length) (a : Option Addr) (cap : Nat) (w : World) (hA : zb5 w a cap cq) (hP : zab w h.pa h.pc (h.pos.map (fun k => .int .i64 k))) (hS : za6 w 5 h.sa h.sc (h.subs.map zc3)) (c : List zal)
   (hM : ∀ a' c' w', Below w.heap.size w w' -> zb5 w' a' c' (h.pos.map fun k => cq.getD k.toNat ([], (none, 0))) -> Calls Tryz.prog 9 #[hdV s, .slice a' h.pos.length c'] w' (zcv c w')) :
   Calls Tryz.prog 9 #[hdV h, .slice a cq.length cap] w (zcv c w) := by
 have hsl : h.subs.length = 1 := by rw [hs]; rfl
 obtain ⟨sb, so, hsa, hslt, x0, x1, x2, x3, x4⟩ := zbe hS (k := 0) (x := s) (by rw [hs]; rfl)
 simp only [Nat.zero_mul, Nat.add_zero] at x0 x1 x2 x3 x4
 obtain ⟨W, hW⟩ : ∃ W, W = w.alloc (.cells #[.int .i64 6, .string ⟨⟨h.ty⟩⟩, .int .i64 h.a, .slice h.pa h.pos.length h.pc, .slice (some ⟨sb, so, none⟩) 1 h.sc] 25) := ⟨_, rfl⟩
 have HB := Hq (show Below w.heap.size w W by rw [hW]; exact ze (Below.refl _ _) _)
 have HX := Hq (show Blk W w.heap.size 25 #[.int .i64 6, .string ⟨⟨h.ty⟩⟩, .int .i64 h.a, .slice h.pa h.pos.length h.pc, .slice (some ⟨sb, so, none⟩) 1 h.sc] by rw [hW]; exact zg _ _ _ _ rfl)
 have hce : ∀ W', Below W.heap.size W W' -> ∀ j v, w.cell? ⟨sb, j, none⟩ = some v -> W'.cell? ⟨sb, j, none⟩ = some v := fun W' hb j v hv => ((zc HB.out hb).cell (p := ⟨sb, j, none⟩) hslt).trans hv
 have HSC := Hq (fun W' (hb : Below W.heap.size W W') => show W'.cell? ⟨sb, so, none⟩ = some (.int .i64 s.kind) /\ W'.cell? ⟨sb, so + 1, none⟩ = some (.string ⟨⟨s.ty⟩⟩) /\ W'.cell? ⟨sb, so + 2, none⟩ = some (.int .i64 s.a) /\ W'.cell? ⟨sb, so + 3, none⟩ = some (.slice s.pa s.pos.length s.pc) /\ W'.cell? ⟨sb, so + 4, none⟩ = some (.slice s.sa s.subs.length s.sc) /\ sb < W'.heap.size from ⟨hce W' hb _ _ x0, hce W' hb _ _ x1, hce W' hb _ _ x2, hce W' hb _ _ x3, hce W' hb _ _ x4, Nat.lt_of_lt_of_le hslt (zc HB.out hb).size⟩)
 have HAV := Hq (fun W' (hb : Below W.heap.size W W') => hA.below (zc HB.out hb))
 have HPV := Hq (fun W' (hb : Below W.heap.size W W') => hP.below (zc HB.out hb))
 have HPP := Hq hp
 obtain ⟨L, hL⟩ : ∃ L, L = h.pos.map fun k => cq.getD k.toNat ([], (none, 0)) := ⟨_, rfl⟩
 have HTK := Hq (fun (j : Nat) (k : Int) (hj : h.pos[j]? = some k) => show L.take (j + 1) = L.take j ++ [cq.getD k.toNat ([], (none, 0))] by rw [hL, List.take_add_one, List.getElem?_map, hj]; rfl)
 have HLL := Hq (show L.length = h.pos.length by rw [hL]; simp)
 have HLM := Hq (show ∀ p ∈ L, p ∈ cq by
   rw [hL]
   intro p hp2
   obtain ⟨k, hk2, rfl⟩ := List.mem_map.1 hp2
   obtain ⟨_, h2⟩ := hp k hk2
   rw [List.getD_eq_getElem?_getD, List.getElem?_eq_getElem h2]
   exact List.getElem_mem h2)
 have HM := Hq (fun a' c' W' (hb : Below W.heap.size W W') (hz : zb5 W' a' c' L) => hM a' c' W' (zc HB.out hb) (by rw [<- hL]; exact hz))
 unfold hdV at *
 rw [hk, hsl, hsa]
 clear hA hP hp hS hM hs hk hsl hsa hL hce x0 x1 x2 x3 x4
 go_enter Tryz.func9, Tryz.ntmps9
 go_upto_region 14 with fail
 rw [<- hW]
 clear hW
 go_wp2_with fail
 go_loopw [6, 7] (fun l i wr => ∃ j : Nat, j <= h.pos.length /\ i = .int .i64 j /\ Hid (wr.ownsRow W.heap.size 41 1 l j ((L.take j).map slV)) /\ Below W.heap.size W wr) (fun _ i _ => h.pos.length - (RowKit.intOf i).toNat)
 case atStart => exact ⟨0, by omega, rfl, Hq ⟨by simp, Or.inl ⟨rfl, rfl⟩⟩, Below.refl _ _⟩
 case round =>
   obtain ⟨j, hj, rfl, HO, hbr⟩ := hrel
   obtain ⟨A, C, rfl, _⟩ := zy HO.out
   have HBR := Hq hbr
   have hsr := hbr.size
   have e3 := (HX.out.below hbr).cell 3
   have e4 := (HX.out.below hbr).cell 4
   have e9 := (HX.out.below hbr).lt
   clear hbr
   by_cases hlj : j < h.pos.length
   . obtain ⟨k, hk⟩ : ∃ k, h.pos[j]? = some k := ⟨_, List.getElem?_eq_getElem hlj⟩
     obtain ⟨pb, po, hpa, hplt, hpc⟩ := zom (HPV.out _ HBR.out) hk
     obtain ⟨hk0, hk1⟩ := HPP.out k (List.mem_of_getElem? hk)
     obtain ⟨kk, rfl⟩ : ∃ kk : Nat, k = kk := ⟨k.toNat, by omega⟩
     have HT := Hq (HTK.out j _ hk)
     rw [Int.toNat_natCast] at HT hk1
     obtain ⟨vb, vo, rfl, hvlt, hvc⟩ := (HAV.out _ HBR.out).cell (List.getElem?_eq_getElem hk1)
     obtain ⟨x, hx⟩ : ∃ x, x = cq[kk] := ⟨_, rfl⟩
     rw [<- hx] at hvc
     have HTX := Hq (show L.take (j + 1) = L.take j ++ [x] by rw [HT.out, List.getD_eq_getElem?_getD, List.getElem?_eq_getElem hk1, hx]; rfl)
     have hkl : (kk : Int) < (cq.length : Int) := by omega
     rw [hpa] at e3
     clear hpa hk hx HT hk0
     go_wp2_with (at_builtin; refine zt zrg rfl _ _ rfl W.heap.size _ j ((L.take j).map slV) rfl HO.out [slV x] rfl (zzf [x]) _ rfl (by simp) (by omega) (by omega) hsr ?_)
     intro v5 w5 ho5 hg5
     have HB5 := Hq (HBR.out.trans (zbg hsr HO.out hg5))
     have HO5 := Hq (show w5.ownsRow W.heap.size 41 1 v5 (j + 1) ((L.take (j + 1)).map slV) by rw [HTX.out, List.map_append]; simpa using ho5)
     clear ho5 hg5
     go_wp2_with fail
     go_roundw
     case rel => exact ⟨j + 1, by omega, by go_num, HO5, HB5.out⟩
     case measure => simp [RowKit.intOf]; omega
   . obtain rfl : j = h.pos.length := by omega
     have hown : wr.ownsRow W.heap.size 41 1 (.slice A h.pos.length C) h.pos.length (L.map slV) := by
       have := HO.out
       rw [<- HLL.out, List.take_length] at this
       rw [<- HLL.out]
       exact this
     obtain ⟨a2, c2, hv2, hq2, hz⟩ := zel hown (fun p hp => (HAV.out _ HBR.out).2 p (HLM.out p hp))
     simp only [Value.slice.injEq] at hv2
     obtain ⟨rfl, _, rfl⟩ := hv2
     have HCL := Hq (HM.out _ _ _ HBR.out hz)
     obtain ⟨d0, d1, d2, d3, d4, d9⟩ := HSC.out _ HBR.out
     clear hown hz hlj hq2
     go_wp2_with fail
     refine HCL.out.mono ?_
     rintro e w4 ⟨hb4, a4, c4, rfl, hc4⟩
     have HC4 := Hq hc4
     have HB4 := Hq (zc HB.out (zc HBR.out hb4))
     clear hc4 hb4 HCL HM HAV HPV HTK HPP HLM d0 d1 d2 d3 d4 d9 e3 e4 e9
     go_wp2_with fail
     go_ret
     exact ⟨HB4.out, _, _, rfl, HC4.out⟩
theorem zs9 (h s u : Hd) (hk : h.kind = 7) (i : Nat) (ha : h.a = i) (hs : h.subs = [s, u]) (cq : List CQ) (hi : i < cq.length) (hl : cq.length <= 1000) (p : CQ) (hpi : cq[i]? = some p) (a : Option Addr) (cap : Nat) (w : World) (hA : zb5 w a cap cq) (hS : za6 w 5 h.sa h.sc (h.subs.map zc3)) (d c : List zal)
   (hM2 : ∀ a' c' w', Below w.heap.size w w' -> zb5 w' a' c' [p] -> Calls Tryz.prog 9 #[hdV u, .slice a' 1 c'] w' (zcv d w'))
   (hM : ∀ q a' c' w', Below w.heap.size w w' -> zb5 w' a' c' (cq.set i (d, q)) -> Calls Tryz.prog 9 #[hdV s, .slice a' cq.length c'] w' (zcv c w')) :
   Calls Tryz.prog 9 #[hdV h, .slice a cq.length cap] w (zcv c w) := by
 have hsl : h.subs.length = 2 := by rw [hs]; rfl
 obtain ⟨sb, so, hsa, hslt, x0, x1, x2, x3, x4⟩ := zbe hS (k := 0) (x := s) (by rw [hs]; rfl)
 simp only [Nat.zero_mul, Nat.add_zero] at x0 x1 x2 x3 x4
 obtain ⟨sb2, so2, hsa2, _, y0, y1, y2, y3, y4⟩ := zbe hS (k := 1) (x := u) (by rw [hs]; rfl)
 rw [hsa] at hsa2
 simp only [Option.some.injEq, Addr.mk.injEq] at hsa2
 obtain ⟨rfl, rfl, _⟩ := hsa2
 simp only [Nat.one_mul] at y0 y1 y2 y3 y4
 obtain ⟨W, hW⟩ : ∃ W, W = w.alloc (.cells #[.int .i64 7, .string ⟨⟨h.ty⟩⟩, .int .i64 i, .slice h.pa h.pos.length h.pc, .slice (some ⟨sb, so, none⟩) 2 h.sc] 25) := ⟨_, rfl⟩
 have HB := Hq (show Below w.heap.size w W by rw [hW]; exact ze (Below.refl _ _) _)
 have HX := Hq (show Blk W w.heap.size 25 #[.int .i64 7, .string ⟨⟨h.ty⟩⟩, .int .i64 i, .slice h.pa h.pos.length h.pc, .slice (some ⟨sb, so, none⟩) 2 h.sc] by rw [hW]; exact zg _ _ _ _ rfl)
 have hce : ∀ W', Below W.heap.size W W' -> ∀ j v, w.cell? ⟨sb, j, none⟩ = some v -> W'.cell? ⟨sb, j, none⟩ = some v := fun W' hb j v hv => ((zc HB.out hb).cell (p := ⟨sb, j, none⟩) hslt).trans hv
 have HSC0 := Hq (fun W' (hb : Below W.heap.size W W') => show W'.cell? ⟨w.heap.size, 2, none⟩ = some (.int .i64 i) /\ W'.cell? ⟨w.heap.size, 4, none⟩ = some (.slice (some ⟨sb, so, none⟩) 2 h.sc) /\ W'.cell? ⟨sb, so, none⟩ = some (.int .i64 s.kind) /\ W'.cell? ⟨sb, so + 1, none⟩ = some (.string ⟨⟨s.ty⟩⟩) /\ W'.cell? ⟨sb, so + 2, none⟩ = some (.int .i64 s.a) /\ W'.cell? ⟨sb, so + 3, none⟩ = some (.slice s.pa s.pos.length s.pc) /\ W'.cell? ⟨sb, so + 4, none⟩ = some (.slice s.sa s.subs.length s.sc) from ⟨(HX.out.below hb).cell 2, (HX.out.below hb).cell 4, hce W' hb _ _ x0, hce W' hb _ _ x1, hce W' hb _ _ x2, hce W' hb _ _ x3, hce W' hb _ _ x4⟩)
 have HSC1 := Hq (fun W' (hb : Below W.heap.size W W') => show W'.cell? ⟨w.heap.size, 2, none⟩ = some (.int .i64 i) /\ W'.cell? ⟨w.heap.size, 4, none⟩ = some (.slice (some ⟨sb, so, none⟩) 2 h.sc) /\ W'.cell? ⟨sb, so + 5, none⟩ = some (.int .i64 u.kind) /\ W'.cell? ⟨sb, so + 5 + 1, none⟩ = some (.string ⟨⟨u.ty⟩⟩) /\ W'.cell? ⟨sb, so + 5 + 2, none⟩ = some (.int .i64 u.a) /\ W'.cell? ⟨sb, so + 5 + 3, none⟩ = some (.slice u.pa u.pos.length u.pc) /\ W'.cell? ⟨sb, so + 5 + 4, none⟩ = some (.slice u.sa u.subs.length u.sc) from ⟨(HX.out.below hb).cell 2, (HX.out.below hb).cell 4, hce W' hb _ _ y0, hce W' hb _ _ y1, hce W' hb _ _ y2, hce W' hb _ _ y3, hce W' hb _ _ y4⟩)
 have HSL := Hq (fun W' (hb : Below W.heap.size W W') => show sb < W'.heap.size from Nat.lt_of_lt_of_le hslt (zc HB.out hb).size)
 have hc : cq.length <= cap := by have := hA.1.1; simpa using this
 obtain ⟨a3, ha3⟩ : ∃ a3, a3 = zru a i cap := ⟨_, rfl⟩
 obtain ⟨c3, hc3⟩ : ∃ c3, c3 = cap - i := ⟨_, rfl⟩
 have hs3 : ∀ W, (Instr.slice 38 (.slice a cq.length cap) (some (.int .i64 (i : Int))) (some (.int .i64 ((i : Int) + 1))) none).run Tryz.prog W = .ok (.slice a3 1 c3) W := fun W => by
   have := zn9 Tryz.underlying38 zq3 a cq.length cap i (i + 1) (by omega) (by omega) .i64 .i64 W
   rw [show i + 1 - i = 1 by omega] at this
   rw [ha3, hc3]; exact this
 have hwr : IntKind.i64.wrap ((i : Int) + 1) = (i : Int) + 1 := by rw [IntKind.wrap_i64]; omega
 have HA3 := Hq (fun W' (hb : Below W.heap.size W W') => show zb5 W' a3 c3 [p] from ⟨by
   have := zee (hA.1.below (zc HB.out hb)) (lo := i) (hi := i + 1) (by omega) (by simp; omega)
   rw [<- List.map_drop, <- List.map_take, show i + 1 - i = 1 by omega, List.drop_eq_getElem_cons hi, List.take_succ_cons, List.take_zero, show cq[i] = p by rw [List.getElem?_eq_getElem hi] at hpi; exact Option.some.inj hpi] at this
   rw [ha3, hc3]; exact this, fun x hx => by rw [List.mem_singleton.1 hx]; exact (hA.2 p (List.mem_of_getElem? hpi)).below (zc HB.out hb)⟩)
 have HAA := Hq (fun W' (hb : Below W.heap.size W W') => hA.below (zc HB.out hb))
 have HM2 := Hq (fun a' c' W' (hb : Below W.heap.size W W') (hz : zb5 W' a' c' [p]) => hM2 a' c' W' (zc HB.out hb) hz)
 have HM := Hq (fun q a' c' W' (hb : Below W.heap.size W W') (hz : zb5 W' a' c' (cq.set i (d, q))) => hM q a' c' W' (zc HB.out hb) hz)
 have HB0 := Hq (show Below W.heap.size W (W.alloc (.cells #[] 41)) from ze (Below.refl _ _) _)
 have HO0 := Hq (show (W.alloc (.cells #[] 41)).ownsRow W.heap.size 41 1 (.slice (some ⟨W.heap.size, 0, none⟩) 0 0) 0 [] from World.ownsRow_made W #[] 0 (Nat.le_refl _) (by unfold maxLen; omega) rfl)
 unfold hdV at *
 rw [hk, ha, hsl, hsa]
 clear hA hS hM hM2 hs hk ha hsl hsa ha3 hc3 hce x0 x1 x2 x3 x4 y0 y1 y2 y3 y4 hc hpi
 go_enter Tryz.func9, Tryz.ntmps9
 go_upto_region 23 with fail
 rw [<- hW]
 clear hW
 go_wp2_with (at_builtin; refine z8 zrg rfl _ _ rfl W.heap.size _ 0 [] rfl HO0.out _ cq.length (cq.map slV) rfl (zf7 (HAA.out _ HB0.out).1 rfl) (by omega) (by omega) HB0.out.size ?_)
 intro v1 w1 ho1 hg1
 have HB1 := Hq (show Below W.heap.size W w1 from HB0.out.grown hg1 HB0.out.size (fun q hq => (HO0.out.lt q hq).1))
 have ho1b : w1.ownsRow W.heap.size 41 1 v1 cq.length (cq.map slV) := by simpa using ho1
 obtain ⟨g, c1, rfl⟩ : ∃ g c, v1 = .slice (some ⟨g, 0, none⟩) cq.length c := by
   rcases ho1b.2 with ⟨rfl, h0⟩ | ⟨g, c, cur, h, _⟩
   . omega
   . exact ⟨g, c, h⟩
 have HO1 := Hq ho1b
 have hil : (i : Int) < (cq.length : Int) := by omega
 clear ho1 hg1 ho1b HO0
 go_upto_region 24 with fail
 refine wp_region_held_drew (S := fun W' => W'.cell? ⟨w.heap.size, 2, none⟩ = some (.int .i64 i) /\ W'.cell? ⟨w.heap.size, 4, none⟩ = some (.slice (some ⟨sb, so, none⟩) 2 h.sc) /\ W'.cell? ⟨sb, so + 5, none⟩ = some (.int .i64 u.kind) /\ W'.cell? ⟨sb, so + 5 + 1, none⟩ = some (.string ⟨⟨u.ty⟩⟩) /\ W'.cell? ⟨sb, so + 5 + 2, none⟩ = some (.int .i64 u.a) /\ W'.cell? ⟨sb, so + 5 + 3, none⟩ = some (.slice u.pa u.pos.length u.pc) /\ W'.cell? ⟨sb, so + 5 + 4, none⟩ = some (.slice u.sa u.subs.length u.sc)) (by kernel_rfl) ?_ (fun hHeld => ?_)
 . exact HSC1.out _ HB1.out.drew
 refine wpAnyH_take (i := 0) (oi := { dst := some 122, op := Op.move (Operand.tmp 9), type := 38, pos := "top.go:153", after := #[], guard := none }) (v := ?_) rfl (by kernel_rfl) (by kernel_rfl) (by kernel_rfl) (fun _ _ _ h => h) (Or.inl ⟨by rfl, ?_⟩) (by assumption) ?_
 rotate_left
 . (intro w hSw; (try obtain ⟨s0, s1, s2, s3, s4, s5, s6⟩ := hSw); go_simp; try with_reducible rfl)
 refine wpAnyH_take (i := 1) (oi := { dst := some 123, op := Op.fieldAddr 25 (Operand.tmp 2) 2, type := 0, pos := "top.go:153", after := #[], guard := none }) (v := ?_) rfl (by kernel_rfl) (by kernel_rfl) (by kernel_rfl) (fun _ _ _ h => h) (Or.inl ⟨by rfl, ?_⟩) (by assumption) ?_
 rotate_left
 . (intro w hSw; (try obtain ⟨s0, s1, s2, s3, s4, s5, s6⟩ := hSw); go_simp; try with_reducible rfl)
 try simp only [Act.put, List.setIfInBounds_toArray, List.set_cons_zero, List.set_cons_succ]
 refine wpAnyH_take (i := 2) (oi := { dst := some 124, op := Op.load 3 (Operand.tmp 123), type := 3, pos := "top.go:153", after := #[{ on := 1, ground := Ground.data }], guard := none }) (v := ?_) rfl (by kernel_rfl) (by kernel_rfl) (by kernel_rfl) (fun _ _ _ h => h) (Or.inl ⟨by rfl, ?_⟩) (by assumption) ?_
 rotate_left
 . (intro w hSw; (try obtain ⟨s0, s1, s2, s3, s4, s5, s6⟩ := hSw); go_simp; try with_reducible rfl)
 refine wpAnyH_take (i := 3) (oi := { dst := some 125, op := Op.fieldAddr 25 (Operand.tmp 2) 4, type := 0, pos := "top.go:153", after := #[], guard := none }) (v := ?_) rfl (by kernel_rfl) (by kernel_rfl) (by kernel_rfl) (fun _ _ _ h => h) (Or.inl ⟨by rfl, ?_⟩) (by assumption) ?_
 rotate_left
 . (intro w hSw; (try obtain ⟨s0, s1, s2, s3, s4, s5, s6⟩ := hSw); go_simp; try with_reducible rfl)
 refine wpAnyH_take (i := 4) (oi := { dst := some 126, op := Op.load 23 (Operand.tmp 125), type := 23, pos := "top.go:153", after := #[{ on := 3, ground := Ground.data }], guard := none }) (v := ?_) rfl (by kernel_rfl) (by kernel_rfl) (by kernel_rfl) (fun _ _ _ h => h) (Or.inl ⟨by rfl, ?_⟩) (by assumption) ?_
 rotate_left
 . (intro w hSw; (try obtain ⟨s0, s1, s2, s3, s4, s5, s6⟩ := hSw); go_simp; try with_reducible rfl)
 refine wpAnyH_take (i := 5) (oi := { dst := some 127, op := Op.indexAddr 23 (Operand.tmp 126) (Operand.const (Value.int IntKind.i64 1)), type := 0, pos := "top.go:153", after := #[{ on := 4, ground := Ground.data }], guard := none }) (v := ?_) rfl (by kernel_rfl) (by kernel_rfl) (by kernel_rfl) (fun _ _ _ h => h) (Or.inl ⟨by rfl, ?_⟩) (by assumption) ?_
 rotate_left
 . (intro w hSw; (try obtain ⟨s0, s1, s2, s3, s4, s5, s6⟩ := hSw); go_simp; try with_reducible rfl)
 try simp only [Act.put, List.setIfInBounds_toArray, List.set_cons_zero, List.set_cons_succ]
 refine wpAnyH_take (i := 6) (oi := { dst := some 128, op := Op.load 25 (Operand.tmp 127), type := 25, pos := "top.go:153", after := #[{ on := 5, ground := Ground.data }], guard := none }) (v := ?_) rfl (by kernel_rfl) (by kernel_rfl) (by kernel_rfl) (fun _ _ _ h => h) (Or.inl ⟨by rfl, ?_⟩) (by assumption) ?_
 rotate_left
 . (intro w hSw; (try obtain ⟨s0, s1, s2, s3, s4, s5, s6⟩ := hSw); go_simp; try with_reducible rfl)
 refine wpAnyH_take (i := 7) (oi := { dst := some 129, op := Op.move (Operand.tmp 1), type := 38, pos := "top.go:153", after := #[], guard := none }) (v := ?_) rfl (by kernel_rfl) (by kernel_rfl) (by kernel_rfl) (fun _ _ _ h => h) (Or.inl ⟨by rfl, ?_⟩) (by assumption) ?_
 rotate_left
 . (intro w hSw; (try obtain ⟨s0, s1, s2, s3, s4, s5, s6⟩ := hSw); go_simp; try with_reducible rfl)
 refine wpAnyH_take (i := 8) (oi := { dst := some 130, op := Op.fieldAddr 25 (Operand.tmp 2) 2, type := 0, pos := "top.go:153", after := #[], guard := none }) (v := ?_) rfl (by kernel_rfl) (by kernel_rfl) (by kernel_rfl) (fun _ _ _ h => h) (Or.inl ⟨by rfl, ?_⟩) (by assumption) ?_
 rotate_left
 . (intro w hSw; (try obtain ⟨s0, s1, s2, s3, s4, s5, s6⟩ := hSw); go_simp; try with_reducible rfl)
 refine wpAnyH_take (i := 9) (oi := { dst := some 131, op := Op.load 3 (Operand.tmp 130), type := 3, pos := "top.go:153", after := #[{ on := 8, ground := Ground.data }], guard := none }) (v := ?_) rfl (by kernel_rfl) (by kernel_rfl) (by kernel_rfl) (fun _ _ _ h => h) (Or.inl ⟨by rfl, ?_⟩) (by assumption) ?_
 rotate_left
 . (intro w hSw; (try obtain ⟨s0, s1, s2, s3, s4, s5, s6⟩ := hSw); go_simp; try with_reducible rfl)
 try simp only [Act.put, List.setIfInBounds_toArray, List.set_cons_zero, List.set_cons_succ]
 refine wpAnyH_take (i := 10) (oi := { dst := some 132, op := Op.fieldAddr 25 (Operand.tmp 2) 2, type := 0, pos := "top.go:153", after := #[], guard := none }) (v := ?_) rfl (by kernel_rfl) (by kernel_rfl) (by kernel_rfl) (fun _ _ _ h => h) (Or.inl ⟨by rfl, ?_⟩) (by assumption) ?_
 rotate_left
 . (intro w hSw; (try obtain ⟨s0, s1, s2, s3, s4, s5, s6⟩ := hSw); go_simp; try with_reducible rfl)
 refine wpAnyH_take (i := 11) (oi := { dst := some 133, op := Op.load 3 (Operand.tmp 132), type := 3, pos := "top.go:153", after := #[{ on := 10, ground := Ground.data }], guard := none }) (v := ?_) rfl (by kernel_rfl) (by kernel_rfl) (by kernel_rfl) (fun _ _ _ h => h) (Or.inl ⟨by rfl, ?_⟩) (by assumption) ?_
 rotate_left
 . (intro w hSw; (try obtain ⟨s0, s1, s2, s3, s4, s5, s6⟩ := hSw); go_simp; try with_reducible rfl)
 refine wpAnyH_take (i := 12) (oi := { dst := some 134, op := Op.binOp BinOp.add 3 (Operand.tmp 133) (Operand.const (Value.int IntKind.i64 1)) 3, type := 3, pos := "top.go:153", after := #[{ on := 11, ground := Ground.data }], guard := none }) (v := ?_) rfl (by kernel_rfl) (by kernel_rfl) (by kernel_rfl) (fun _ _ _ h => h) (Or.inl ⟨by rfl, ?_⟩) (by assumption) ?_
 rotate_left
 . (intro w hSw; (try obtain ⟨s0, s1, s2, s3, s4, s5, s6⟩ := hSw); go_simp; try with_reducible rfl)
 refine wpAnyH_take (i := 13) (oi := { dst := some 135, op := Op.slice 38 (Operand.tmp 129) (some (Operand.tmp 131)) (some (Operand.tmp 134)) none, type := 38, pos := "top.go:153", after := #[{ on := 7, ground := Ground.data }, { on := 9, ground := Ground.data }, { on := 12, ground := Ground.data }], guard := none }) (v := ?_) rfl (by kernel_rfl) (by kernel_rfl) (by kernel_rfl) (fun _ _ _ h => h) (Or.inl ⟨by rfl, ?_⟩) (by assumption) ?_
 rotate_left
 . (intro w hSw; (try obtain ⟨s0, s1, s2, s3, s4, s5, s6⟩ := hSw); go_simp; try with_reducible rfl)
 try simp only [Act.put, List.setIfInBounds_toArray, List.set_cons_zero, List.set_cons_succ]
 have HB2 := Hq (show Below W.heap.size W w1.drew from HB1.out.drew)
 have HO2 := Hq (show w1.drew.ownsRow W.heap.size 41 1 (.slice (some ⟨g, 0, none⟩) cq.length c1) cq.length (cq.map slV) from HO1.out)
 refine wpAnyH_ready (rs := [14]) (by kernel_rfl) (by simp) ?_
 refine AllReadyH.cons (o := { dst := some 136, op := Op.call { callee := Callee.value (Operand.func 9), args := #[Operand.tmp 128, Operand.tmp 135], argTypes := #[25, 38] }, type := 41, pos := "top.go:153", after := #[{ on := 6, ground := Ground.data }, { on := 13, ground := Ground.data }], guard := none }) rfl (fun K hK => ?_) AllReadyH.nil
 go_simp
 go_wp2_with ((go_at_call 9; refine (HM2.out _ _ _ HB2.out (HA3.out _ HB2.out)).mono ?_; rintro e w3 ⟨hb3, qa, qc, rfl, hqc⟩; have HB3 := Hq (zc HB2.out hb3); have HO3 := Hq (zad HO2.out hb3); have HQ3 := Hq hqc; clear hb3 hqc))
 refine hK.out _ _ ?_ (fun hHeld => ?_)
 . exact HSC1.out _ HB3.out
 clear hK K
 try simp only [Act.put, List.setIfInBounds_toArray, List.set_cons_zero, List.set_cons_succ]
 refine wpAnyH_take (i := 15) (oi := { dst := some 137, op := Op.indexAddr 38 (Operand.tmp 122) (Operand.tmp 124), type := 0, pos := "top.go:153", after := #[{ on := 0, ground := Ground.data }, { on := 2, ground := Ground.data }, { on := 0, ground := Ground.phase }, { on := 1, ground := Ground.phase }, { on := 2, ground := Ground.phase }, { on := 3, ground := Ground.phase }, { on := 4, ground := Ground.phase }, { on := 5, ground := Ground.phase }, { on := 6, ground := Ground.phase }, { on := 7, ground := Ground.phase }, { on := 8, ground := Ground.phase }, { on := 9, ground := Ground.phase }, { on := 10, ground := Ground.phase }, { on := 11, ground := Ground.phase }, { on := 12, ground := Ground.phase }, { on := 13, ground := Ground.phase }, { on := 14, ground := Ground.phase }], guard := none }) (v := ?_) rfl (by kernel_rfl) (by kernel_rfl) (by kernel_rfl) (fun _ _ _ h => h) (Or.inl ⟨by rfl, ?_⟩) (by assumption) ?_
 rotate_left
 . (intro w hSw; (try obtain ⟨s0, s1, s2, s3, s4, s5, s6⟩ := hSw); go_simp; try with_reducible rfl)
 try simp only [Act.put, List.setIfInBounds_toArray, List.set_cons_zero, List.set_cons_succ]
 have hg3 := (HO3.out.lt g rfl).2
 have hgB := (HO3.out.lt g rfl).1
 have hcg := HO3.out.cellAt i (by omega)
 rw [List.getElem?_map, List.getElem?_eq_getElem hi] at hcg
 have hfg := HO3.out.frozenAt i
 have hst := (HO3.out.stored i (slV (d, (qa, qc)))).1
 have HB4 := Hq (show Below W.heap.size W (w3.setCell ⟨g, i, none⟩ (.slice qa d.length qc)) from HB3.out.setCell (p := ⟨g, i, none⟩) hgB _)
 have HQ4 := Hq (show zft (w3.setCell ⟨g, i, none⟩ (.slice qa d.length qc)) qa qc d from HQ3.out.grown HO3.out (zai (zp _ _) i _))
 have hst2 : (w3.setCell ⟨g, i, none⟩ (.slice qa d.length qc)).ownsRow W.heap.size 41 1 (.slice (some ⟨g, 0, none⟩) cq.length c1) cq.length ((cq.set i (d, (qa, qc))).map slV) := by rw [List.map_set]; exact hst
 obtain ⟨a6, c6, hv6, hq6, hz6⟩ := zel hst2 (fun x hx => by
   rcases List.mem_or_eq_of_mem_set hx with hx | rfl
   . exact (HAA.out _ HB4.out).2 x hx
   . exact HQ4.out)
 simp only [Value.slice.injEq] at hv6
 obtain ⟨rfl, _, rfl⟩ := hv6
 have HZ6 := Hq hz6
 clear hst hst2 hz6 hq6
 refine wpAnyH_ready (rs := [16]) (by kernel_rfl) (by simp) ?_
 refine AllReadyH.cons (o := { dst := none, op := Op.store 41 (Operand.tmp 137) (Operand.tmp 136), type := 0, pos := "top.go:153", after := #[{ on := 15, ground := Ground.data }, { on := 14, ground := Ground.data }, { on := 14, ground := Ground.chain }, { on := 0, ground := Ground.phase }, { on := 1, ground := Ground.phase }, { on := 2, ground := Ground.phase }, { on := 3, ground := Ground.phase }, { on := 4, ground := Ground.phase }, { on := 5, ground := Ground.phase }, { on := 6, ground := Ground.phase }, { on := 7, ground := Ground.phase }, { on := 8, ground := Ground.phase }, { on := 9, ground := Ground.phase }, { on := 10, ground := Ground.phase }, { on := 11, ground := Ground.phase }, { on := 12, ground := Ground.phase }, { on := 13, ground := Ground.phase }, { on := 14, ground := Ground.phase }], guard := none }) rfl (fun K hK => ?_) AllReadyH.nil
 go_simp
 try go_wp2_with fail
 refine hK.out _ _ ?_ (fun hHeld => ?_)
 . exact HSC1.out _ HB4.out
 clear hK K
 try simp only [Act.put, List.setIfInBounds_toArray, List.set_cons_zero, List.set_cons_succ]
 refine wpAnyH_done (by kernel_rfl) ?_ _
 have HCL := Hq (HM.out _ _ _ _ HB4.out HZ6.out)
 obtain ⟨_, e4, d0, d1, d2, d3, d4⟩ := HSC0.out _ HB4.out
 have e9 := (HX.out.below HB4.out).lt
 have d9 := HSL.out _ HB4.out
 clear hHeld hs3 HA3 HM2 HSC1 HSC0 HO1 HO2 HO3 HQ3 HQ4 HAA hcg hfg HM
 generalize w3.setCell ⟨g, i, none⟩ (.slice qa d.length qc) = w4 at *
 go_wp2_with fail
 refine HCL.out.mono ?_
 rintro e w7 ⟨hb7, a7, c7, rfl, hc7⟩
 have HB7 := Hq (zc HB.out (zc HB4.out hb7))
 have HC7 := Hq hc7
 clear hb7 hc7 HCL e4 e9 d0 d1 d2 d3 d4 d9
 go_wp2_with fail
 go_ret
 exact ⟨HB7.out, _, _, rfl, HC7.out⟩
theorem zrc {α β : Type} (f : α -> β) : ∀ (l : List α) (i : Nat), (l.eraseIdx i).map f = (l.map f).eraseIdx i
 | [], _ => rfl
 | _ :: _, 0 => rfl
 | x :: l, i + 1 => by simp [List.eraseIdx, zrc f l i]
theorem z09 (cq : List CQ) (i : Nat) : (cq.getD i ([], (none, 0))).1 = (cq.map Prod.fst).getD i [] := by
 rw [List.getD_eq_getElem?_getD, List.getD_eq_getElem?_getD, List.getElem?_map]
 cases cq[i]? <;> rfl
theorem zf0 {w0 : World} : ∀ (n : Nat) {h : Hd} {A : List Nm} {g : Nm}, RH h A g -> h.size <= n -> zh0 w0 h -> A.length <= 5 -> ∀ (cq : List CQ) (M : Nat) (a : Option Addr) (cap : Nat) (w : World), Below w0.heap.size w0 w -> cq.length = A.length -> zb5 w a cap cq -> (∀ p ∈ cq, p.1.length + 1 <= M) -> 1 <= M -> 2 ^ h.size * M <= 100000 ->
   Calls Tryz.prog 9 #[hdV h, .slice a cq.length cap] w (zcv (zam n h (cq.map Prod.fst)) w)
 | 0, h, A, g, _, hn, _, _, _, _, _, _, _, _, _, _, _, _, _ => by have := zf8 h; omega
 | n + 1, h, A, g, hr, hn, H, hA5, cq, M, a, cap, w, hb, hl, hA, hM, hM1, hMb => by
   have hro := H.row.below hb
   have hbl : ∀ {w'}, Below w.heap.size w w' -> Below w0.heap.size w0 w' := fun hw => hb.trans (hw.mono hb.size)
   have hMle : M <= 100000 := by
     have : 1 * M <= 2 ^ h.size * M := Nat.mul_le_mul_right M Nat.one_le_two_pow
     omega
   cases hr with
   | const _ hk ht hr =>
     have e : zam (n + 1) h (cq.map Prod.fst) = [zd6 h.ty h.a] := by rw [zam.eq_2]; rw [if_pos hk]
     rw [e]
     exact zvq h hk _ w
   | same _ hk ht =>
     match cq, hl with
     | [p], _ =>
       have e : zam (n + 1) h (([p] : List CQ).map Prod.fst) = p.1 := by rw [zam.eq_2]; simp [hk]
       rw [e]
       exact zzh h hk p a cap w hA
   | math _ hk ht ha =>
     by_cases h12 : h.a = 12
     . have hl1 : cq.length = 1 := by rw [hl]; unfold zcf; simp [h12]
       match cq, hl1 with
       | [p], _ =>
         have e : zam (n + 1) h (([p] : List CQ).map Prod.fst) = p.1 ++ [zgz h.ty 12] := by rw [zam.eq_2]; simp [hk, h12]
         rw [e]
         exact z2c h hk h12 p (by have := hM p (by simp); omega) a cap w hA
     . have hl2 : cq.length = 2 := by
         rw [hl]
         unfold zcf
         simp only [h12]
         by_cases h9 : 9 <= h.a /\ h.a <= 11
         . simp [h9]
         . simp [h9]
       match cq, hl2 with
       | [p, q], _ =>
         have e : zam (n + 1) h (([p, q] : List CQ).map Prod.fst) = p.1 ++ q.1 ++ [zgz h.ty h.a] := by rw [zam.eq_2]; simp [hk, h12]
         rw [e]
         exact z1s h hk h12 p q (by have := hM p (by simp); omega) (by have := hM q (by simp); omega) a cap w hA
   | drop _ s A g i hk hs hr h5 hi hil =>
     have e : zam (n + 1) h (cq.map Prod.fst) = zam n s ((cq.eraseIdx i).map Prod.fst) := by rw [zam.eq_2, zrc]; simp [hk, hs, hi]
     rw [e]
     have hsz := zkq hs
     have hl2 : cq.length = A.length + 1 := by rw [hl]; simp; omega
     refine z01 h s hk i hi hs cq (by omega) (by omega) a cap w hA hro _ fun a' c' w' hw hz => ?_
     have h2 : 2 ^ s.size * M <= 2 ^ h.size * M := Nat.mul_le_mul_right M (Nat.pow_le_pow_right (by omega) (by omega))
     exact zf0 n hr (by omega) (H.subs s (by rw [hs]; simp)) h5 _ M a' c' w' (hbl hw) (by rw [List.length_eraseIdx, if_pos (by omega)]; omega) hz (fun p hp => hM p (List.mem_of_mem_eraseIdx hp)) hM1 (by omega)
   | bind _ s u A g g2 i hk hs hr h5 hr2 hi hA2 =>
     have e : zam (n + 1) h (cq.map Prod.fst) = zam n s ((cq.map Prod.fst).take i ++ zam n u [] :: (cq.map Prod.fst).drop i) := by rw [zam.eq_2]; simp [hk, hs, hi]
     rw [e]
     have hsz := zkp hs
     have hiA := (List.getElem?_eq_some_iff.1 hA2).1
     have hl2 : cq.length = A.length - 1 := by rw [hl, List.length_eraseIdx, if_pos hiA]
     have hd := zd8 n hr2 (by omega) (c := []) (M := 1) (by simp) (by omega)
     have hp1 : 1 * M <= 2 ^ u.size * M := Nat.mul_le_mul_right M Nat.one_le_two_pow
     have hp2 : 2 ^ u.size * 1 <= 2 ^ u.size * M := Nat.mul_le_mul_left _ hM1
     have e3 := Nat.mul_le_mul_right M (ziu s.size u.size h.size (by omega))
     have e4 : 2 ^ s.size * 2 ^ u.size * M <= 2 ^ s.size * 2 ^ u.size * 2 * M := Nat.mul_le_mul_right M (by omega)
     have e5 : 2 ^ s.size * (2 ^ u.size * M) <= 100000 := by rw [<- Nat.mul_assoc]; omega
     have e6 : 1 * (2 ^ u.size * M) <= 2 ^ s.size * (2 ^ u.size * M) := Nat.mul_le_mul_right _ Nat.one_le_two_pow
     refine zz8 h s u hk i hi hs cq (by omega) (by omega) a cap w hA hro (zam n u []) _ (fun w' hw => ?_) (fun q a' c' w' hw hz => ?_)
     . exact zf0 n hr2 (by omega) (H.subs u (by rw [hs]; simp)) (by simp) [] 1 none 0 w' (hbl hw) rfl ⟨⟨by simp, Or.inl rfl⟩, by simp⟩ (by simp) (by omega) (by omega)
     . have := zf0 n hr (by omega) (H.subs s (by rw [hs]; simp)) h5 (cq.take i ++ (zam n u [], q) :: cq.drop i) (2 ^ u.size * M) a' c' w' (hbl hw) (by simp; omega) hz (fun p hp => by
         simp only [List.mem_append, List.mem_cons] at hp
         rcases hp with hp | rfl | hp
         . have := hM p (List.mem_of_mem_take hp); omega
         . show (zam n u []).length + 1 <= _; omega
         . have := hM p (List.mem_of_mem_drop hp); omega) (by omega) e5
       rw [show (cq.take i ++ (zam n u [], q) :: cq.drop i).length = cq.length + 1 by simp; omega] at this
       simpa using this
   | perm _ s A g B hk hs hr h5 hpl hpe =>
     have e : zam (n + 1) h (cq.map Prod.fst) = zam n s ((h.pos.map fun k => cq.getD k.toNat ([], (none, 0))).map Prod.fst) := by
       rw [zam.eq_2, List.map_map]
       have hf : (Prod.fst ∘ fun (k : Int) => cq.getD k.toNat ([], (none, 0))) = fun (k : Int) => (cq.map Prod.fst).getD k.toNat [] := by
         funext k
         exact z09 cq k.toNat
       rw [hf]
       simp [hk, hs]
     rw [e]
     have hsz := zkq hs
     have hmem : ∀ k ∈ h.pos, 0 <= k /\ k.toNat < cq.length := fun k hkm => by
       obtain ⟨j, hj⟩ := List.getElem?_of_mem hkm
       obtain ⟨t, ht⟩ : ∃ t, A[j]? = some t := ⟨_, List.getElem?_eq_getElem (by have := (List.getElem?_eq_some_iff.1 hj).1; omega)⟩
       obtain ⟨h0, h1, _⟩ := zhi hpl hpe j k t hj ht
       exact ⟨h0, by omega⟩
     refine zyr h s hk hs cq (by omega) (by omega) hmem a cap w hA (H.pos.below hb) hro _ fun a' c' w' hw hz => ?_
     have h2 : 2 ^ s.size * M <= 2 ^ h.size * M := Nat.mul_le_mul_right M (Nat.pow_le_pow_right (by omega) (by omega))
     have := zf0 n hr (by omega) (H.subs s (by rw [hs]; simp)) h5 (h.pos.map fun k => cq.getD k.toNat ([], (none, 0))) M a' c' w' (hbl hw) (by rw [List.length_map]; exact hpl) hz (fun p hp => by
       obtain ⟨k, hk2, rfl⟩ := List.mem_map.1 hp
       obtain ⟨_, h3⟩ := hmem k hk2
       rw [List.getD_eq_getElem?_getD, List.getElem?_eq_getElem h3]
       exact hM _ (List.getElem_mem h3)) hM1 (by omega)
     rwa [List.length_map] at this
   | filter _ s u A g v g2 i hk hs hr h5 hr2 hi hA2 =>
     have hiA := (List.getElem?_eq_some_iff.1 hA2).1
     have hl2 : cq.length = A.length := by rw [hl, List.length_set]
     have hic : i < cq.length := by omega
     have hpi : cq[i]? = some cq[i] := List.getElem?_eq_getElem hic
     have e : zam (n + 1) h (cq.map Prod.fst) = zam n s ((cq.map Prod.fst).set i (zam n u [(cq[i]).1])) := by
       rw [zam.eq_2]
       simp [hk, hs, hi, List.getElem?_eq_getElem hic]
     rw [e]
     have hsz := zkp hs
     have hMi := hM _ (List.getElem_mem hic)
     have hd := zd8 n hr2 (by omega) (c := [(cq[i]).1]) (M := M) (fun d hd => by rw [List.mem_singleton.1 hd]; exact hMi) hM1
     have hp1 : 1 * M <= 2 ^ u.size * M := Nat.mul_le_mul_right M Nat.one_le_two_pow
     have e3 := Nat.mul_le_mul_right M (ziu s.size u.size h.size (by omega))
     have e4 : 2 ^ s.size * 2 ^ u.size * M <= 2 ^ s.size * 2 ^ u.size * 2 * M := Nat.mul_le_mul_right M (by omega)
     have e5 : 2 ^ s.size * (2 ^ u.size * M) <= 100000 := by rw [<- Nat.mul_assoc]; omega
     have e6 : 1 * (2 ^ u.size * M) <= 2 ^ s.size * (2 ^ u.size * M) := Nat.mul_le_mul_right _ Nat.one_le_two_pow
     refine zs9 h s u hk i hi hs cq hic (by omega) cq[i] hpi a cap w hA hro (zam n u [(cq[i]).1]) _ (fun a' c' w' hw hz => ?_) (fun q a' c' w' hw hz => ?_)
     . exact zf0 n hr2 (by omega) (H.subs u (by rw [hs]; simp)) (by simp) [cq[i]] M a' c' w' (hbl hw) rfl hz (fun p hp => by rw [List.mem_singleton.1 hp]; exact hMi) hM1 (by omega)
     . have := zf0 n hr (by omega) (H.subs s (by rw [hs]; simp)) h5 (cq.set i (zam n u [(cq[i]).1], q)) (2 ^ u.size * M) a' c' w' (hbl hw) (by rw [List.length_set]; exact hl2) hz (fun p hp => by
         rcases List.mem_or_eq_of_mem_set hp with hp | rfl
         . have := hM p hp; omega
         . exact hd) (by omega) e5
       rw [List.length_set] at this
       simpa using this
end Go.Proofs.YtbnkckjdgpiggaaGreatDoor
