import Derived.Test.YtbnkckjdgpiggaaGreatDoorRr
import Derived.Test.YtbnkckjdgpiggaaGreatDoorHc
import Derived.Test.YtbnkckjdgpiggaaGreatDoorPk
namespace Go.Proofs.YtbnkckjdgpiggaaGreatDoor
set_option maxRecDepth 100000
set_option maxHeartbeats 16000000
set_option linter.unusedVariables false
set_option linter.unusedSimpArgs false
open Go.RowKit Go.Shelf Go.Lib Go.Sort
theorem zlk (k : Int) (w : World) : Calls Tryz.prog 40 #[.int .i64 k] w fun e w' => e = .returned (.int .i64 (zb1 k : Int)) /\ w = w' := by
 have hn : zb1 k = if k = 4 \/ k = 6 then 1 else if k = 5 \/ k = 7 then 2 else 0 := rfl
 generalize zb1 k = n at hn |-
 have HN := Hq hn
 clear hn
 by_cases h4 : k = 4
 . subst h4
   obtain rfl : n = 1 := HN.out
   go_enter Tryz.func40, Tryz.ntmps40
   go_wp2_with fail
   go_ret
   exact ⟨rfl, rfl⟩
 by_cases h6 : k = 6
 . subst h6
   obtain rfl : n = 1 := HN.out
   go_enter Tryz.func40, Tryz.ntmps40
   go_wp2_with fail
   go_ret
   exact ⟨rfl, rfl⟩
 by_cases h5 : k = 5
 . subst h5
   obtain rfl : n = 2 := HN.out
   go_enter Tryz.func40, Tryz.ntmps40
   go_wp2_with fail
   go_ret
   exact ⟨rfl, rfl⟩
 by_cases h7 : k = 7
 . subst h7
   obtain rfl : n = 2 := HN.out
   go_enter Tryz.func40, Tryz.ntmps40
   go_wp2_with fail
   go_ret
   exact ⟨rfl, rfl⟩
 . obtain rfl : n = 0 := by rw [HN.out, if_neg (by omega), if_neg (by omega)]
   have q4 : (k == 4) = false := by rw [beq_eq_false_iff_ne]; exact h4
   have q5 : (k == 5) = false := by rw [beq_eq_false_iff_ne]; exact h5
   have q6 : (k == 6) = false := by rw [beq_eq_false_iff_ne]; exact h6
   have q7 : (k == 7) = false := by rw [beq_eq_false_iff_ne]; exact h7
   clear h4 h5 h6 h7
   go_enter Tryz.func40, Tryz.ntmps40
   go_wp2_with fail
   go_ret
   exact ⟨rfl, rfl⟩
theorem zx8 (k : Int) (t : Nm) (a : Int) (pa : Option Addr) (n pc : Nat) (sa : Option Addr) (m sc : Nat) (w : World) (h : zdb t = false) :
   Calls Tryz.prog 41 #[.agg #[.int .i64 k, .string ⟨⟨t⟩⟩, .int .i64 a, .slice pa n pc, .slice sa m sc]] w (zd5 (zak k t a) w) := by
 have HW := Hq (fun W => show Calls Tryz.prog 70 #[.string ⟨⟨t⟩⟩] W fun e w' => e = .returned (.bool false) /\ W = w' by rw [<- h]; exact zae t W)
 generalize zak k t a = r
 clear h
 go_enter Tryz.func41, Tryz.ntmps41
 go_wp2_with fail
 refine (HW.out _).mono ?_
 rintro e w1 ⟨rfl, rfl⟩
 go_wp2_with fail
 go_ret2
 exact .bad (ze (Below.refl _ _) _) (by decide)
theorem zz9 (t : Nm) (ht : t = [73] \/ t = [74]) (a : Int) (pa : Option Addr) (n pc : Nat) (sa : Option Addr) (m sc : Nat) (w : World) :
   Calls Tryz.prog 41 #[.agg #[.int .i64 1, .string ⟨⟨t⟩⟩, .int .i64 a, .slice pa n pc, .slice sa m sc]] w (zd5 (zak 1 t a) w) := by
 have HB := Hq (fun o => ze (Below.refl w.heap.size w) o)
 rcases ht with rfl | rfl
 . have HW := Hq (fun W => zae [73] W)
   have HQ := Hq (fun W => zpo a W)
   cases hq : (a == wrap32 a) with
   | true =>
     have HR := Hq (show zak 1 [73] a = (0, [40, 41, 73]) by unfold zak; simp [zdb, zcf, zaz, bne, hq])
     rw [hq] at HQ
     clear hq
     go_enter Tryz.func41, Tryz.ntmps41
     go_wp2_with fail
     refine (HW.out _).mono ?_
     rintro e w1 ⟨rfl, rfl⟩
     go_wp2_with fail
     refine (HQ.out _).mono ?_
     rintro e w1 ⟨rfl, rfl⟩
     go_wp2_with fail
     go_ret2
     exact ⟨HB.out _, _, 0, rfl, fun _ => HR.out⟩
   | false =>
     rw [hq] at HQ
     generalize zak 1 [73] a = r
     clear hq
     go_enter Tryz.func41, Tryz.ntmps41
     go_wp2_with fail
     refine (HW.out _).mono ?_
     rintro e w1 ⟨rfl, rfl⟩
     go_wp2_with fail
     refine (HQ.out _).mono ?_
     rintro e w1 ⟨rfl, rfl⟩
     go_wp2_with fail
     go_ret2
     exact .bad (HB.out _) (by decide)
 . have HW := Hq (fun W => zae [74] W)
   have HR := Hq (show zak 1 [74] a = (0, [40, 41, 74]) by unfold zak; simp [zdb, zcf, zaz])
   go_enter Tryz.func41, Tryz.ntmps41
   go_wp2_with fail
   refine (HW.out _).mono ?_
   rintro e w1 ⟨rfl, rfl⟩
   go_wp2_with fail
   go_ret2
   exact ⟨HB.out _, _, 0, rfl, fun _ => HR.out⟩
theorem z0p (t : Nm) (ht : t = [73] \/ t = [74]) (a : Int) (pa : Option Addr) (n pc : Nat) (sa : Option Addr) (m sc : Nat) (w : World) :
   Calls Tryz.prog 41 #[.agg #[.int .i64 2, .string ⟨⟨t⟩⟩, .int .i64 a, .slice pa n pc, .slice sa m sc]] w (zd5 (zak 2 t a) w) := by
 have HB := Hq (fun o => ze (Below.refl w.heap.size w) o)
 rcases ht with rfl | rfl
 . have HR := Hq (show zak 2 [73] a = (0, [40, 73, 41, 73]) by unfold zak; simp [zdb, zcf, zaz])
   go_enter Tryz.func41, Tryz.ntmps41
   go_wp2_with fail
   refine (zae [73] _).mono ?_
   rintro e w1 ⟨rfl, rfl⟩
   go_wp2_with fail
   go_ret2
   exact ⟨HB.out _, _, 0, rfl, fun _ => HR.out⟩
 . have HR := Hq (show zak 2 [74] a = (0, [40, 74, 41, 74]) by unfold zak; simp [zdb, zcf, zaz])
   go_enter Tryz.func41, Tryz.ntmps41
   go_wp2_with fail
   refine (zae [74] _).mono ?_
   rintro e w1 ⟨rfl, rfl⟩
   go_wp2_with fail
   go_ret2
   exact ⟨HB.out _, _, 0, rfl, fun _ => HR.out⟩
theorem zr5 (t : Nm) (ht : t = [73] \/ t = [74]) (a : Int) (pa : Option Addr) (n pc : Nat) (sa : Option Addr) (m sc : Nat) (w : World) :
   Calls Tryz.prog 41 #[.agg #[.int .i64 3, .string ⟨⟨t⟩⟩, .int .i64 a, .slice pa n pc, .slice sa m sc]] w (zd5 (zak 3 t a) w) := by
 have HB := Hq (fun o => ze (Below.refl w.heap.size w) o)
 rcases ht with rfl | rfl
 . by_cases h1 : a < 1
   . generalize zak 3 [73] a = r
     go_enter Tryz.func41, Tryz.ntmps41
     go_wp2_with fail
     refine (zae [73] _).mono ?_
     rintro e w1 ⟨rfl, rfl⟩
     go_wp2_with fail
     go_ret2
     exact .bad (HB.out _) (by decide)
   by_cases h2 : 12 < a
   . generalize zak 3 [73] a = r
     go_enter Tryz.func41, Tryz.ntmps41
     go_wp2_with fail
     refine (zae [73] _).mono ?_
     rintro e w1 ⟨rfl, rfl⟩
     go_wp2_with fail
     go_ret2
     exact .bad (HB.out _) (by decide)
   by_cases h12 : a = 12
   . subst h12
     have HR := Hq (show zak 3 [73] 12 = (0, [40, 73, 41, 73]) by unfold zak; simp [zdb, zcf, zaz])
     go_enter Tryz.func41, Tryz.ntmps41
     go_wp2_with fail
     refine (zae [73] _).mono ?_
     rintro e w1 ⟨rfl, rfl⟩
     go_wp2_with fail
     go_ret2
     exact ⟨HB.out _, _, 0, rfl, fun _ => HR.out⟩
   by_cases h9 : a = 9
   . subst h9
     have HR := Hq (show zak 3 [73] 9 = (0, [40, 73, 73, 41, 73]) by unfold zak; simp [zdb, zcf, zaz])
     go_enter Tryz.func41, Tryz.ntmps41
     go_wp2_with fail
     refine (zae [73] _).mono ?_
     rintro e w1 ⟨rfl, rfl⟩
     go_wp2_with fail
     go_ret2
     exact ⟨HB.out _, _, 0, rfl, fun _ => HR.out⟩
   by_cases h10 : a = 10
   . subst h10
     have HR := Hq (show zak 3 [73] 10 = (0, [40, 73, 73, 41, 73]) by unfold zak; simp [zdb, zcf, zaz])
     go_enter Tryz.func41, Tryz.ntmps41
     go_wp2_with fail
     refine (zae [73] _).mono ?_
     rintro e w1 ⟨rfl, rfl⟩
     go_wp2_with fail
     go_ret2
     exact ⟨HB.out _, _, 0, rfl, fun _ => HR.out⟩
   by_cases h11 : a = 11
   . subst h11
     have HR := Hq (show zak 3 [73] 11 = (0, [40, 73, 73, 41, 73]) by unfold zak; simp [zdb, zcf, zaz])
     go_enter Tryz.func41, Tryz.ntmps41
     go_wp2_with fail
     refine (zae [73] _).mono ?_
     rintro e w1 ⟨rfl, rfl⟩
     go_wp2_with fail
     go_ret2
     exact ⟨HB.out _, _, 0, rfl, fun _ => HR.out⟩
   have HR := Hq (show zak 3 [73] a = (0, [40, 73, 73, 41, 73]) by
     have e9 : ¬ (9 <= a /\ a <= 11) := by omega
     unfold zak zcf
     rw [if_neg (by simp [zdb]; omega), if_neg (by simp), if_neg (by omega), if_neg (by omega), if_neg e9]
     rfl)
   have q9 : (a == 9) = false := by rw [beq_eq_false_iff_ne]; exact h9
   have q10 : (a == 10) = false := by rw [beq_eq_false_iff_ne]; exact h10
   have q11 : (a == 11) = false := by rw [beq_eq_false_iff_ne]; exact h11
   have q12 : (a == 12) = false := by rw [beq_eq_false_iff_ne]; exact h12
   clear h9 h10 h11 h12
   go_enter Tryz.func41, Tryz.ntmps41
   go_wp2_with fail
   refine (zae [73] _).mono ?_
   rintro e w1 ⟨rfl, rfl⟩
   go_wp2_with fail
   go_ret2
   exact ⟨HB.out _, _, 0, rfl, fun _ => HR.out⟩
 . by_cases h1 : a < 1
   . generalize zak 3 [74] a = r
     go_enter Tryz.func41, Tryz.ntmps41
     go_wp2_with fail
     refine (zae [74] _).mono ?_
     rintro e w1 ⟨rfl, rfl⟩
     go_wp2_with fail
     go_ret2
     exact .bad (HB.out _) (by decide)
   by_cases h2 : 12 < a
   . generalize zak 3 [74] a = r
     go_enter Tryz.func41, Tryz.ntmps41
     go_wp2_with fail
     refine (zae [74] _).mono ?_
     rintro e w1 ⟨rfl, rfl⟩
     go_wp2_with fail
     go_ret2
     exact .bad (HB.out _) (by decide)
   by_cases h12 : a = 12
   . subst h12
     have HR := Hq (show zak 3 [74] 12 = (0, [40, 74, 41, 74]) by unfold zak; simp [zdb, zcf, zaz])
     go_enter Tryz.func41, Tryz.ntmps41
     go_wp2_with fail
     refine (zae [74] _).mono ?_
     rintro e w1 ⟨rfl, rfl⟩
     go_wp2_with fail
     go_ret2
     exact ⟨HB.out _, _, 0, rfl, fun _ => HR.out⟩
   by_cases h9 : a = 9
   . subst h9
     have HR := Hq (show zak 3 [74] 9 = (0, [40, 74, 73, 41, 74]) by unfold zak; simp [zdb, zcf, zaz])
     go_enter Tryz.func41, Tryz.ntmps41
     go_wp2_with fail
     refine (zae [74] _).mono ?_
     rintro e w1 ⟨rfl, rfl⟩
     go_wp2_with fail
     go_ret2
     exact ⟨HB.out _, _, 0, rfl, fun _ => HR.out⟩
   by_cases h10 : a = 10
   . subst h10
     have HR := Hq (show zak 3 [74] 10 = (0, [40, 74, 73, 41, 74]) by unfold zak; simp [zdb, zcf, zaz])
     go_enter Tryz.func41, Tryz.ntmps41
     go_wp2_with fail
     refine (zae [74] _).mono ?_
     rintro e w1 ⟨rfl, rfl⟩
     go_wp2_with fail
     go_ret2
     exact ⟨HB.out _, _, 0, rfl, fun _ => HR.out⟩
   by_cases h11 : a = 11
   . subst h11
     have HR := Hq (show zak 3 [74] 11 = (0, [40, 74, 73, 41, 74]) by unfold zak; simp [zdb, zcf, zaz])
     go_enter Tryz.func41, Tryz.ntmps41
     go_wp2_with fail
     refine (zae [74] _).mono ?_
     rintro e w1 ⟨rfl, rfl⟩
     go_wp2_with fail
     go_ret2
     exact ⟨HB.out _, _, 0, rfl, fun _ => HR.out⟩
   have HR := Hq (show zak 3 [74] a = (0, [40, 74, 74, 41, 74]) by
     have e9 : ¬ (9 <= a /\ a <= 11) := by omega
     unfold zak zcf
     rw [if_neg (by simp [zdb]; omega), if_neg (by simp), if_neg (by omega), if_neg (by omega), if_neg e9]
     rfl)
   have q9 : (a == 9) = false := by rw [beq_eq_false_iff_ne]; exact h9
   have q10 : (a == 10) = false := by rw [beq_eq_false_iff_ne]; exact h10
   have q11 : (a == 11) = false := by rw [beq_eq_false_iff_ne]; exact h11
   have q12 : (a == 12) = false := by rw [beq_eq_false_iff_ne]; exact h12
   clear h9 h10 h11 h12
   go_enter Tryz.func41, Tryz.ntmps41
   go_wp2_with fail
   refine (zae [74] _).mono ?_
   rintro e w1 ⟨rfl, rfl⟩
   go_wp2_with fail
   go_ret2
   exact ⟨HB.out _, _, 0, rfl, fun _ => HR.out⟩
theorem zvr {h : Hd} (hr : ¬ (h.kind < 1 \/ 7 < h.kind)) (hl : h.subs.length = zb1 h.kind) (h0 : zb1 h.kind = 0) : h.typed = zak h.kind h.ty h.a := by
 rw [zhq, if_neg hr, if_neg (by simpa using hl), if_pos h0]
theorem znq {h : Hd} (hr : ¬ (h.kind < 1 \/ 7 < h.kind)) (hl : h.subs.length = zb1 h.kind) (h0 : zb1 h.kind ≠ 0) (ha : ∀ s ∈ h.subs, s.typed.1 = 0) : h.typed = zme h.kind h.ty h.a h.pos (zpm h.subs) := by
 rw [zhq, if_neg hr, if_neg (by simpa using hl), if_neg h0, zux ha, if_neg (by simp)]
theorem z0v {h s : Hd} {m : Nm} (hs : h.subs = [s]) (ht : s.typed = (0, m)) (hk : h.kind = 4 \/ h.kind = 6) : h.typed = if h.kind = 4 then zne m h.a h.ty else zm2 m h.pos h.ty := by
 have hn : zb1 h.kind = 1 := by unfold zb1; rw [if_pos hk]
 rw [znq (by omega) (by rw [hs, hn]; rfl) (by omega) (by rw [hs]; intro x hx; rw [List.mem_singleton.1 hx, ht]), hs]
 unfold zme zpm
 simp only [List.map_cons, List.map_nil, ht, List.getD_cons_zero]
 rcases hk with e | e
 . rw [if_pos e, if_pos e]
 . rw [if_neg (by omega), if_pos e, if_neg (by omega)]
theorem zvb {m s g g2 : Nm} {A T : List Nm} {k : Nat} (hA : zk m A g) (hT : zk s T g2) (hk : A[k]? = some g2) : zag m s k T.length = (0, T) := by
 have hkl := (List.getElem?_eq_some_iff.1 hk).1
 unfold zag
 rw [zce hA]
 simp only
 rw [if_neg (by omega), zce hT]
 simp only
 rw [if_neg (by simp), if_neg (by rw [Int.toNat_natCast, hk]; simp)]
theorem z0h {h s u : Hd} {m n g g2 : Nm} {A T : List Nm} {k : Nat} (hs : h.subs = [s, u]) (ht : s.typed = (0, m)) (hu : u.typed = (0, n)) (hk : h.kind = 5 /\ T.length = 0 \/ h.kind = 7 /\ T.length = 1) (ha : h.a = k) (hA : zk m A g) (hT : zk n T g2) (hkA : A[k]? = some g2) : h.typed = if h.kind = 5 then zl4 m k else zex m k (T.getD 0 []) := by
 have hn : zb1 h.kind = 2 := by unfold zb1; rw [if_neg (by omega), if_pos (by omega)]
 rw [znq (by omega) (by rw [hs, hn]; rfl) (by omega) (by
   rw [hs]
   intro x hx
   simp only [List.mem_cons, List.not_mem_nil, or_false] at hx
   rcases hx with rfl | rfl
   . rw [ht]
   . rw [hu]), hs]
 have hf := zvb hA hT hkA
 unfold zme zpm
 simp only [List.map_cons, List.map_nil, ht, hu, List.getD_cons_zero, List.getD_cons_succ, ha]
 rcases hk with ⟨e, hl⟩ | ⟨e, hl⟩
 . rw [hl] at hf
   rw [if_neg (by omega), if_neg (by omega), if_pos e, hf, if_neg (by simp), if_pos e]
 . rw [hl] at hf
   rw [if_neg (by omega), if_neg (by omega), if_neg (by omega), hf, if_neg (by simp), if_neg (by omega)]
theorem zj9 {s : Hd} {m : Nm} (ht : s.typed = (0, m)) : ∃ A g, zk m A g := by
 obtain ⟨A, g, h, _⟩ := z4y s.size (Nat.le_refl _) ht
 exact ⟨A, g, h⟩
theorem zw8 {k : Int} (hr : ¬ (k < 1 \/ 7 < k)) : (zb1 k = 0 /\ (k = 1 \/ k = 2 \/ k = 3)) \/ (zb1 k = 1 /\ (k = 4 \/ k = 6)) \/ (zb1 k = 2 /\ (k = 5 \/ k = 7)) := by
 unfold zb1
 by_cases h1 : k = 4 \/ k = 6
 . rw [if_pos h1]; exact Or.inr (Or.inl ⟨rfl, h1⟩)
 . rw [if_neg h1]
   by_cases h2 : k = 5 \/ k = 7
   . rw [if_pos h2]; exact Or.inr (Or.inr ⟨rfl, h2⟩)
   . rw [if_neg h2]; exact Or.inl ⟨rfl, by omega⟩
theorem zs4 (k : Int) (hk : k = 1 \/ k = 2 \/ k = 3) (t : Nm) (a : Int) (pa : Option Addr) (n pc : Nat) (sa : Option Addr) (m sc : Nat) (w : World) :
   Calls Tryz.prog 41 #[.agg #[.int .i64 k, .string ⟨⟨t⟩⟩, .int .i64 a, .slice pa n pc, .slice sa m sc]] w (zd5 (zak k t a) w) := by
 cases hn : zdb t with
 | false => exact zx8 k t a pa n pc sa m sc w hn
 | true =>
   have ht : t = [73] \/ t = [74] := by unfold zdb at hn; simpa using hn
   rcases hk with rfl | rfl | rfl
   . exact zz9 t ht a pa n pc sa m sc w
   . exact z0p t ht a pa n pc sa m sc w
   . exact zr5 t ht a pa n pc sa m sc w
theorem zd5.more {r : Int × Nm} {w w1 w2 : World} {e : Ending} (h : zd5 r w1 e w2) (hb : Below w.heap.size w w1) : zd5 r w e w2 := ⟨zc hb h.1, h.2⟩
theorem zy8 {w0 : World} {h : Hd} (H : zh0 w0 h) : ∀ (w : World), Below w0.heap.size w0 w -> Calls Tryz.prog 19 #[hdV h] w (zd5 h.typed w) := by
 induction H with
 | mk h hp hs ht hl hm hkn haI hsub ih =>
   intro w hb
   have HP := Hq (hp.below hb)
   have HS := Hq (hs.below hb)
   have hs0 := hb.size
   have HIH := Hq (fun (i : Nat) (s : Hd) (hi : h.subs[i]? = some s) (w' : World) (hw : Below w.heap.size w w') => ih s (List.mem_of_getElem? hi) w' (hb.trans (hw.mono hs0)))
   have hty := ht
   clear hp hs ht hm hkn haI hsub ih hb hs0 hl
   obtain ⟨W, hW⟩ : ∃ W, W = w.alloc (.cells #[.int .i64 h.kind, .string ⟨⟨h.ty⟩⟩, .int .i64 h.a, .slice h.pa h.pos.length h.pc, .slice h.sa h.subs.length h.sc] 25) := ⟨_, rfl⟩
   have HB := Hq (show Below w.heap.size w W by rw [hW]; exact ze (Below.refl _ _) _)
   have HX := Hq (show zi7 W w.heap.size h by rw [hW]; exact zg _ _ _ _ rfl)
   obtain ⟨c0, c1, c2, c3, c4⟩ := HX.out.cells
   have c9 := HX.out.lt
   have HSU := Hq (fun k W => zlk k W)
   unfold hdV
   by_cases hr : h.kind < 1 \/ 7 < h.kind
   . generalize h.typed = r
     rcases hr with hr | hr
     . go_enter Tryz.func19, Tryz.ntmps19
       go_upto_region 1 with fail
       rw [<- hW]
       clear hW
       go_wp2_with fail
       go_ret2
       exact .bad HB.out (by decide)
     . by_cases hr1 : h.kind < 1
       . exfalso; omega
       go_enter Tryz.func19, Tryz.ntmps19
       go_upto_region 1 with fail
       rw [<- hW]
       clear hW
       go_wp2_with fail
       go_ret2
       exact .bad HB.out (by decide)
   have HKR := Hq hr
   have hr1 : ¬ h.kind < 1 := by omega
   have hr2 : ¬ 7 < h.kind := by omega
   clear hr
   obtain ⟨n, hn⟩ : ∃ n, n = zb1 h.kind := ⟨_, rfl⟩
   have HNS := Hq hn
   have HSK := Hq (fun W => show Calls Tryz.prog 40 #[.int .i64 h.kind] W fun e w' => e = .returned (.int .i64 (n : Int)) /\ W = w' by rw [hn]; exact zlk h.kind W)
   clear hn HSU
   by_cases hln : h.subs.length = n
   case neg =>
     have hl1 : ((h.subs.length : Int) != (n : Int)) = true := by simp; omega
     have hl2 : (h.subs.length != n) = true := by simp; omega
     have hl3 : (h.subs.length == n) = false := by rw [beq_eq_false_iff_ne]; exact hln
     have hl4 : ((h.subs.length : Int) == (n : Int)) = false := by rw [beq_eq_false_iff_ne]; omega
     generalize h.typed = r
     clear hln
     go_enter Tryz.func19, Tryz.ntmps19
     go_upto_region 1 with fail
     rw [<- hW]
     clear hW
     go_upto_region 3 with fail
     go_quiet (exact (HSK.out _).mono (fun e w1 h => by obtain ⟨rfl, rfl⟩ := h; exact ⟨rfl, _, rfl⟩))
     have HBN := Hq (zbv HB.out nq)
     go_wp2_with fail
     go_ret2
     exact .bad HBN.out (by decide)
   case pos =>
     have hl1 : ((h.subs.length : Int) != (n : Int)) = false := by simp; omega
     have hl2 : (h.subs.length != n) = false := by simp; omega
     have HLN := Hq hln
     clear hln
     go_enter Tryz.func19, Tryz.ntmps19
     go_upto_region 1 with fail
     rw [<- hW]
     clear hW
     go_upto_region 3 with fail
     go_quiet (exact (HSK.out _).mono (fun e w1 h => by obtain ⟨rfl, rfl⟩ := h; exact ⟨rfl, _, rfl⟩))
     obtain ⟨W2, hW2⟩ : ∃ W2, W2 = W.drewN nq := ⟨_, rfl⟩
     have hbn : Below W.heap.size W W2 := by rw [hW2]; exact zbv (Below.refl _ _) nq
     rw [<- hW2]
     have HB2 := Hq (zc HB.out hbn)
     have HX2 := Hq (HX.out.below hbn)
     clear hbn hW2 c0 c1 c2 c3 c4 c9 HSK HX
     obtain ⟨c0, c1, c2, c3, c4⟩ := HX2.out.cells
     have c9 := HX2.out.lt
     have HKC := Hq (zw8 HKR.out)
     have HS2 := Hq (HS.out.below HB2.out)
     have HP2 := Hq (HP.out.below HB2.out)
     rcases HKC.out with ⟨hn0, hk3⟩ | ⟨hn1, hk46⟩ | ⟨hn2, hk57⟩
     . have h0 : h.subs.length = 0 := by rw [HLN.out, HNS.out, hn0]
       have HR := Hq (zvr HKR.out (by rw [h0, hn0]) hn0)
       have HLF := Hq (fun W => zs4 h.kind hk3 h.ty h.a h.pa h.pos.length h.pc h.sa 0 h.sc W)
       rw [h0] at c4
       clear h0 hk3 hn0 HIH HKC HS2 HP2 HP HS
       go_wp2_with fail
       refine (HLF.out _).mono ?_
       rintro e w3 ⟨hb3, t, k, rfl, hk⟩
       have HB3 := Hq (zc HB2.out hb3)
       have HK := Hq hk
       clear hb3 hk
       go_wp2_with fail
       go_ret2
       exact ⟨HB3.out, t, k, rfl, fun e => HR.out.trans (HK.out e)⟩
     . have h1 : h.subs.length = 1 := by rw [HLN.out, HNS.out, hn1]
       obtain ⟨s, hss⟩ := List.length_eq_one_iff.1 h1
       have hx : h.subs[0]? = some s := by rw [hss]; rfl
       obtain ⟨b, off, hsa, hlt, d0, d1, d2, d3, d4⟩ := zbe HS2.out hx
       simp only [Nat.zero_mul, Nat.add_zero] at d0 d1 d2 d3 d4
       have HI := Hq (HIH.out 0 s hx W2 HB2.out)
       have HR := Hq (fun m (ht : s.typed = (0, m)) => z0v hss ht hk46)
       have HSS := Hq (zfh s)
       rw [h1, hsa] at c4
       unfold hdV at HI
       clear h1 hss hx hsa hn1 HIH HKC HS2 HP HS
       go_wp2_with fail
       refine HI.out.mono ?_
       rintro e w3 ⟨hb3, t, k, rfl, hk⟩
       have HB3 := Hq (zc HB2.out hb3)
       by_cases hk0 : k = 0
       case neg =>
         have q1 : (k == 0) = false := by rw [beq_eq_false_iff_ne]; exact hk0
         have q2 : (k != 0) = true := by rw [bne, q1]; rfl
         have HK0 := Hq hk0
         clear hb3 hk hk0
         go_wp2_with fail
         go_ret2
         exact .bad HB3.out HK0.out
       case pos =>
         have HT := Hq (hk hk0)
         have htl : t.length <= 200 := by have := HSS.out; rw [HT.out] at this; exact this
         have HP3 := Hq (HP2.out.below hb3)
         have HX3 := Hq (HX2.out.below hb3)
         subst hk0
         clear hb3 hk c0 c1 c2 c3 c4 c9 d0 d1 d2 d3 d4 hlt
         obtain ⟨c0, c1, c2, c3, c4⟩ := HX3.out.cells
         have c9 := HX3.out.lt
         rcases hk46 with hk4 | hk6
         . have HR4 := Hq (show h.typed = zne t h.a h.ty by rw [HR.out t HT.out, if_pos hk4])
           have HPU := Hq (fun W => z0f t (by omega) h.a h.ty hty W)
           rw [hk4] at c0
           clear hk4 HR hr1 hr2
           go_wp2_with fail
           refine (HPU.out _).mono ?_
           rintro e w4 ⟨hb4, t4, k4, rfl, hk4⟩
           have HB4 := Hq (zc HB3.out hb4)
           have HK4 := Hq hk4
           clear hb4 hk4
           go_wp2_with fail
           go_ret2
           exact ⟨HB4.out, t4, k4, rfl, fun e => HR4.out.trans (HK4.out e)⟩
         . have HR6 := Hq (show h.typed = zm2 t h.pos h.ty by rw [HR.out t HT.out, if_neg (by omega)])
           have HPE := Hq (zxc t (by omega) h.pos h.pa h.pc h.ty hty w3 HP3.out)
           rw [hk6] at c0
           clear hk6 HR hr1 hr2
           go_wp2_with fail
           refine HPE.out.mono ?_
           rintro e w4 ⟨hb4, t4, k4, rfl, hk4⟩
           have HB4 := Hq (zc HB3.out hb4)
           have HK4 := Hq hk4
           clear hb4 hk4
           go_wp2_with fail
           go_ret2
           exact ⟨HB4.out, t4, k4, rfl, fun e => HR6.out.trans (HK4.out e)⟩
     . have h2 : h.subs.length = 2 := by rw [HLN.out, HNS.out, hn2]
       obtain ⟨s, u, hss⟩ : ∃ s u, h.subs = [s, u] := by
         match hq : h.subs, h2 with
         | [s, u], _ => exact ⟨s, u, rfl⟩
       have hx : h.subs[0]? = some s := by rw [hss]; rfl
       have hx1 : h.subs[1]? = some u := by rw [hss]; rfl
       obtain ⟨b, off, hsa, hlt, d0, d1, d2, d3, d4⟩ := zbe HS2.out hx
       simp only [Nat.zero_mul, Nat.add_zero] at d0 d1 d2 d3 d4
       have HI := Hq (HIH.out 0 s hx W2 HB2.out)
       have HU := Hq (fun W (hw : Below w.heap.size w W) => HIH.out 1 u hx1 W hw)
       have HDU := Hq (fun W (hw : Below W2.heap.size W2 W) => (zbe (HS2.out.below hw) hx1))
       have HR := Hq (fun (m n g g2 : Nm) (A T : List Nm) (k : Nat) (ht : s.typed = (0, m)) (hu : u.typed = (0, n)) (hk : h.kind = 5 /\ T.length = 0 \/ h.kind = 7 /\ T.length = 1) (ha : h.a = k) (hA : zk m A g) (hT : zk n T g2) (hkA : A[k]? = some g2) => z0h hss ht hu hk ha hA hT hkA)
       have HSS := Hq (zfh s)
       have HUS := Hq (zfh u)
       have hk4 : (h.kind == 4) = false := by rw [beq_eq_false_iff_ne]; omega
       have hk6 : (h.kind == 6) = false := by rw [beq_eq_false_iff_ne]; omega
       rw [hsa] at c4 HDU
       rw [h2] at c4
       unfold hdV at HI HU
       have HK57 := Hq hk57
       have HSA := Hq hsa
       have HL2 := Hq h2
       clear h2 hss hx hx1 hsa hn2 HIH HKC HP HS HP2 hk57
       go_wp2_with fail
       refine HI.out.mono ?_
       rintro e w3 ⟨hb3, t, k, rfl, hk⟩
       have HB3 := Hq (zc HB2.out hb3)
       by_cases hk0 : k = 0
       case neg =>
         have q1 : (k == 0) = false := by rw [beq_eq_false_iff_ne]; exact hk0
         have q2 : (k != 0) = true := by rw [bne, q1]; rfl
         have HK0 := Hq hk0
         clear hb3 hk hk0
         go_wp2_with fail
         go_ret2
         exact .bad HB3.out HK0.out
       case pos =>
         have HT := Hq (hk hk0)
         have htl : t.length <= 200 := by have := HSS.out; rw [HT.out] at this; exact this
         obtain ⟨b2, off2, hsa2, hlt2, d0', d1', d2', d3', d4'⟩ := HDU.out w3 hb3
         simp only [Option.some.injEq, Addr.mk.injEq] at hsa2
         obtain ⟨rfl, rfl, _⟩ := hsa2
         simp only [Nat.one_mul] at d0' d1' d2' d3' d4'
         have HX3 := Hq (HX2.out.below hb3)
         subst hk0
         clear hb3 hk c0 c1 c2 c3 c4 c9 d0 d1 d2 d3 d4 hlt
         obtain ⟨c0, c1, c2, c3, c4⟩ := HX3.out.cells
         have c9 := HX3.out.lt
         rw [HSA.out, HL2.out] at c4
         go_wp2_with fail
         refine (HU.out w3 HB3.out).mono ?_
         rintro e w4 ⟨hb4, t2, k2, rfl, hk2⟩
         have HB4 := Hq (zc HB3.out hb4)
         by_cases hk20 : k2 = 0
         case neg =>
           have q1 : (k2 == 0) = false := by rw [beq_eq_false_iff_ne]; exact hk20
           have q2 : (k2 != 0) = true := by rw [bne, q1]; rfl
           have HK0 := Hq hk20
           clear hb4 hk2 hk20
           go_wp2_with fail
           go_ret2
           exact .bad HB4.out HK0.out
         case pos =>
           have HT2 := Hq (hk2 hk20)
           have htl2 : t2.length <= 200 := by have := HUS.out; rw [HT2.out] at this; exact this
           have HX4 := Hq (HX3.out.below hb4)
           have HMA := Hq (fun W => zbd t (by omega) W)
           have HMB := Hq (fun W => zbd t2 (by omega) W)
           subst hk20
           clear hb4 hk2 c0 c1 c2 c3 c4 c9 d0' d1' d2' d3' d4' hlt2
           go_wp2_with fail
           refine (HMA.out _).mono ?_
           rintro e w5 ⟨hb5, ⟨rfl, hno⟩ | ⟨v5, A, g, rfl, hok, ho⟩⟩
           . obtain ⟨A, g, hm⟩ := zj9 HT.out
             exact absurd hm (hno A g)
           have HOK := Hq hok
           have hl5 := hok.2.2.1
           obtain ⟨a5, c5, rfl, hs5⟩ := zl ho
           have HS5 := Hq hs5
           have HB5 := Hq (zc HB4.out hb5)
           have HX5 := Hq (HX4.out.below hb5)
           clear hb5 hok ho hs5
           go_wp2_with fail
           refine (HMB.out _).mono ?_
           rintro e w6 ⟨hb6, ⟨rfl, hno⟩ | ⟨v6, T, g2, rfl, hok2, ho2⟩⟩
           . obtain ⟨A, g, hm⟩ := zj9 HT2.out
             exact absurd hm (hno A g)
           have HOK2 := Hq hok2
           have hl6 := hok2.2.2.1
           obtain ⟨a6, c6, rfl, hs6⟩ := zl ho2
           have HS6 := Hq hs6
           have HB6 := Hq (zc HB5.out hb6)
           have HX6 := Hq (HX5.out.below hb6)
           have HS56 := Hq (HS5.out.below hb6)
           clear hb6 hok2 ho2 hs6
           obtain ⟨c0, c1, c2, c3, c4⟩ := HX6.out.cells
           have c9 := HX6.out.lt
           clear hk4 hk6 c1 c3 c4 HMA HMB HU HDU HI
           rcases HK57.out with hk | hk
           . rw [hk] at c0
             have HK := Hq hk
             clear hk hr1 hr2
             by_cases hi : h.a < 0 \/ (A.length : Int) <= h.a
             . rcases hi with hi | hi
               . go_wp2_with fail
                 go_ret2
                 exact .bad HB6.out (by decide)
               . by_cases h0 : h.a < 0
                 . exfalso; omega
                 go_wp2_with fail
                 go_ret2
                 exact .bad HB6.out (by decide)
             obtain ⟨k, hak⟩ : ∃ k : Nat, h.a = k := ⟨h.a.toNat, by omega⟩
             have HAK := Hq hak
             rw [hak] at c2 hi
             have hkA : k < A.length := by omega
             have i1 : ¬ (k : Int) < 0 := by omega
             have i2 : ¬ (A.length : Int) <= (k : Int) := by omega
             have i3 : (k : Int) < (A.length : Int) := by omega
             clear hi hak
             by_cases hTl : T.length = 0
             case neg =>
               have q1 : ((T.length : Int) == 0) = false := by rw [beq_eq_false_iff_ne]; omega
               have q2 : ((T.length : Int) != 0) = true := by rw [bne, q1]; rfl
               have q3 : (T.length == 0) = false := by rw [beq_eq_false_iff_ne]; exact hTl
               clear hTl
               go_wp2_with fail
               go_ret2
               exact .bad HB6.out (by decide)
             have q1 : ((T.length : Int) != 0) = false := by rw [hTl]; rfl
             have HTL := Hq hTl
             obtain ⟨x, hx⟩ : ∃ x, A[k]? = some x := ⟨_, List.getElem?_eq_getElem hkA⟩
             obtain ⟨ab, ao, haa, halt, hac⟩ := zeq HS56.out hx
             rw [haa]
             by_cases hgx : g2 = x
             case neg =>
               have q2 : (g2 == x) = false := by rw [beq_eq_false_iff_ne]; exact hgx
               have q3 : (g2 != x) = true := by rw [bne, q2]; rfl
               clear hgx hx hTl
               go_wp2_with fail
               go_ret2
               exact .bad HB6.out (by decide)
             subst hgx
             have HRR := Hq (show h.typed = zl4 t k by rw [HR.out t t2 g g2 A T k HT.out HT2.out (Or.inl ⟨HK.out, hTl⟩) HAK.out HOK.out HOK2.out hx, if_pos HK.out])
             have HCA := Hq (fun W => ztj t (by omega) k W)
             clear hx hTl HR
             go_wp2_with fail
             refine (HCA.out _).mono ?_
             rintro e w7 ⟨hb7, t7, k7, rfl, hk7⟩
             have HB7 := Hq (zc HB6.out hb7)
             have HK7 := Hq hk7
             clear hb7 hk7
             go_wp2_with fail
             go_ret2
             exact ⟨HB7.out, t7, k7, rfl, fun e => HRR.out.trans (HK7.out e)⟩
           . rw [hk] at c0
             have HK := Hq hk
             clear hk hr1 hr2
             by_cases hi : h.a < 0 \/ (A.length : Int) <= h.a
             . rcases hi with hi | hi
               . go_wp2_with fail
                 go_ret2
                 exact .bad HB6.out (by decide)
               . by_cases h0 : h.a < 0
                 . exfalso; omega
                 go_wp2_with fail
                 go_ret2
                 exact .bad HB6.out (by decide)
             obtain ⟨k, hak⟩ : ∃ k : Nat, h.a = k := ⟨h.a.toNat, by omega⟩
             have HAK := Hq hak
             rw [hak] at c2 hi
             have hkA : k < A.length := by omega
             have i1 : ¬ (k : Int) < 0 := by omega
             have i2 : ¬ (A.length : Int) <= (k : Int) := by omega
             have i3 : (k : Int) < (A.length : Int) := by omega
             clear hi hak
             by_cases hTl : T.length = 1
             case neg =>
               have q1 : ((T.length : Int) == 1) = false := by rw [beq_eq_false_iff_ne]; omega
               have q2 : ((T.length : Int) != 1) = true := by rw [bne, q1]; rfl
               have q3 : (T.length == 1) = false := by rw [beq_eq_false_iff_ne]; exact hTl
               clear hTl
               go_wp2_with fail
               go_ret2
               exact .bad HB6.out (by decide)
             have q1 : ((T.length : Int) != 1) = false := by rw [hTl]; rfl
             have HTL := Hq hTl
             obtain ⟨x, hx⟩ : ∃ x, A[k]? = some x := ⟨_, List.getElem?_eq_getElem hkA⟩
             obtain ⟨ab, ao, haa, halt, hac⟩ := zeq HS56.out hx
             rw [haa]
             by_cases hgx : g2 = x
             case neg =>
               have q2 : (g2 == x) = false := by rw [beq_eq_false_iff_ne]; exact hgx
               have q3 : (g2 != x) = true := by rw [bne, q2]; rfl
               clear hgx hx hTl
               go_wp2_with fail
               go_ret2
               exact .bad HB6.out (by decide)
             subst hgx
             obtain ⟨y, rfl⟩ := List.length_eq_one_iff.1 hTl
             have HRR := Hq (show h.typed = zex t k y by rw [HR.out t t2 g g2 A [y] k HT.out HT2.out (Or.inr ⟨HK.out, rfl⟩) HAK.out HOK.out HOK2.out hx, if_neg (by rw [HK.out]; decide)]; rfl)
             have hyl : y.length <= 25 := (zeb (HOK2.out.2.1 y (by simp))).2
             have HCA := Hq (fun W => zp5 t (by omega) k y (by omega) W)
             obtain ⟨yb, yo, hya, hylt, hyc⟩ := zeq (A := [y]) (j := 0) HS6.out rfl
             rw [hya]
             simp only [Nat.add_zero] at hyc
             have HSC := Hq (fun W (hw : Below w6.heap.size w6 W) => show W.cell? ⟨w.heap.size, 2, none⟩ = some (.int .i64 k) /\ W.cell? ⟨yb, yo, none⟩ = some (.string ⟨⟨y⟩⟩) from ⟨by rw [hw.cell (p := ⟨w.heap.size, 2, none⟩) c9]; exact c2, by rw [hw.cell (p := ⟨yb, yo, none⟩) hylt]; exact hyc⟩)
             clear hx hTl HR
             go_upto_region 30 with fail
             go_region_held3 (fun W => W.cell? ⟨w.heap.size, 2, none⟩ = some (.int .i64 k) /\ W.cell? ⟨yb, yo, none⟩ = some (.string ⟨⟨y⟩⟩))
               (first | exact HSC.out _ (Below.refl _ _) | exact HSC.out _ (Below.refl _ _).drew | exact HSC.out _ hb7)
               ((go_at_call 45
                 refine (HCA.out _).mono ?_
                 rintro e w7 ⟨hb7c, t7, k7, rfl, hk7⟩
                 have hb7 : Below w6.heap.size w6 w7 := (Below.refl _ _).drew.trans hb7c))
             all_goals
               have HB7 := Hq (zc HB6.out hb7)
               have HK7 := Hq hk7
               clear hb7 hb7c hk7
               go_wp2_with fail
               go_ret2
               exact ⟨HB7.out, t7, k7, rfl, fun e => HRR.out.trans (HK7.out e)⟩
def z8n (h : Hd) (w : World) (e : Ending) (w' : World) : Prop := Below w.heap.size w w' /\ ∃ n : Int, e = .returned (.int .i64 n) /\ (h.size <= 30 -> n = h.size)
theorem zls {w0 : World} {h : Hd} (H : zh0 w0 h) : ∀ (w : World), Below w0.heap.size w0 w -> Calls Tryz.prog 7 #[hdV h] w (z8n h w) := by
 induction H with
 | mk h hp hs ht hl hm hkn haI hsub ih =>
   intro w hb
   have HS := Hq (hs.below hb)
   have hs0 := hb.size
   have HIH := Hq (fun (i : Nat) (s : Hd) (hi : h.subs[i]? = some s) (w' : World) (hw : Below w.heap.size w w') => ih s (List.mem_of_getElem? hi) w' (hb.trans (hw.mono hs0)))
   have HSZ := Hq (zmh h)
   clear hp hs ht hm hkn haI hsub ih hb hs0
   obtain ⟨W, hW⟩ : ∃ W, W = w.alloc (.cells #[.int .i64 h.kind, .string ⟨⟨h.ty⟩⟩, .int .i64 h.a, .slice h.pa h.pos.length h.pc, .slice h.sa h.subs.length h.sc] 25) := ⟨_, rfl⟩
   have HB := Hq (show Below w.heap.size w W by rw [hW]; exact ze (Below.refl _ _) _)
   have HX := Hq (show zi7 W w.heap.size h by rw [hW]; exact zg _ _ _ _ rfl)
   unfold hdV
   go_enter Tryz.func7, Tryz.ntmps7
   go_upto_region 1 with fail
   rw [<- hW]
   clear hW
   go_wp2_with fail
   go_loopw [3, 4] (fun n i wr => ∃ j : Nat, j <= h.subs.length /\ i = .int .i64 j /\ (∃ N : Int, n = .int .i64 N /\ Hid (h.size <= 30 -> N = ((1 + zd4 (h.subs.take j) : Nat) : Int))) /\ Below W.heap.size W wr) (fun _ i _ => h.subs.length - (RowKit.intOf i).toNat)
   case atStart => exact ⟨0, by omega, rfl, ⟨1, rfl, Hq (fun _ => by simp [zd4])⟩, Below.refl _ _⟩
   case round =>
     obtain ⟨j, hj, rfl, ⟨N, rfl, HN⟩, hbr⟩ := hrel
     have HBR := Hq hbr
     have HBW := Hq (zc HB.out hbr)
     obtain ⟨_, _, _, _, c4⟩ := (HX.out.below hbr).cells
     have c9 := (HX.out.below hbr).lt
     clear hbr
     by_cases hlj : j < h.subs.length
     . by_cases hN : N <= 30
       . obtain ⟨x, hx⟩ : ∃ x, h.subs[j]? = some x := ⟨_, List.getElem?_eq_getElem hlj⟩
         obtain ⟨b, off, hsa, hlt, d0, d1, d2, d3, d4⟩ := zbe (HS.out.below HBW.out) hx
         have HI := Hq (HIH.out j x hx wr HBW.out)
         have HSS := Hq (zj1 hx)
         have HST := Hq (zhk h.subs (j + 1))
         rw [hsa] at c4
         unfold hdV at HI
         clear hx hsa
         go_wp2_with fail
         refine HI.out.mono ?_
         rintro e w4 ⟨hb4, q, rfl, hq⟩
         have HQ := Hq hq
         have HB4 := Hq (zc HBR.out hb4)
         clear hb4 hq d0 d1 d2 d3 d4 c4 c9 hlt
         go_wp2_with fail
         go_roundw
         case rel =>
           refine ⟨j + 1, by omega, by go_num, ⟨_, rfl, Hq fun h30 => ?_⟩, HB4.out⟩
           have h1 := HN.out h30
           have h2 := HSS.out
           have h3 := HST.out
           have h4 := HSZ.out
           have h5 := HQ.out (by omega)
           rw [h1, h5, h2]
           unfold wrap64
           omega
         case measure => simp [RowKit.intOf]; omega
       . have HNO := Hq (show ¬ h.size <= 30 from fun h30 => by
           have h1 := HN.out h30
           have h2 := zhk h.subs j
           have h3 := HSZ.out
           omega)
         go_wp2_with fail
         go_ret
         exact ⟨HBW.out, _, rfl, fun h30 => absurd h30 HNO.out⟩
     . obtain rfl : j = h.subs.length := by omega
       have HE := Hq (show h.size <= 30 -> N = (h.size : Int) from fun h30 => by
         have h1 := HN.out h30
         rw [List.take_length] at h1
         rw [h1, HSZ.out])
       go_wp2_with fail
       go_ret
       exact ⟨HBW.out, _, rfl, HE.out⟩
theorem zob {w0 : World} {h : Hd} (H : zh0 w0 h) (w : World) (hb : Below w0.heap.size w0 w) : Calls Tryz.prog 6 #[hdV h] w (zd5 h.typed w) := by
 have hs0 := hb.size
 have HSZ := Hq (fun W (hw : Below w.heap.size w W) => zls H W (hb.trans (hw.mono hs0)))
 have HTY := Hq (fun W (hw : Below w.heap.size w W) => zy8 H W (hb.trans (hw.mono hs0)))
 clear H hb hs0
 obtain ⟨W, hW⟩ : ∃ W, W = w.alloc (.cells #[.int .i64 h.kind, .string ⟨⟨h.ty⟩⟩, .int .i64 h.a, .slice h.pa h.pos.length h.pc, .slice h.sa h.subs.length h.sc] 25) := ⟨_, rfl⟩
 have HB := Hq (show Below w.heap.size w W by rw [hW]; exact ze (Below.refl _ _) _)
 have HX := Hq (show zi7 W w.heap.size h by rw [hW]; exact zg _ _ _ _ rfl)
 obtain ⟨c0, c1, c2, c3, c4⟩ := HX.out.cells
 have c9 := HX.out.lt
 unfold hdV at *
 go_enter Tryz.func6, Tryz.ntmps6
 go_upto_region 1 with fail
 rw [<- hW]
 clear hW
 go_wp2_with fail
 refine (HSZ.out W HB.out).mono ?_
 rintro e w2 ⟨hb2, n, rfl, _⟩
 have HB2 := Hq (zc HB.out hb2)
 have HX2 := Hq (HX.out.below hb2)
 clear hb2 c0 c1 c2 c3 c4 c9 HSZ
 obtain ⟨c0, c1, c2, c3, c4⟩ := HX2.out.cells
 have c9 := HX2.out.lt
 by_cases hn : 30 < n
 . go_wp2_with fail
   go_ret2
   exact .bad HB2.out (by decide)
 . go_wp2_with fail
   refine (HTY.out w2 HB2.out).mono ?_
   rintro e w3 ⟨hb3, t, k, rfl, hk⟩
   have HB3 := Hq (zc HB2.out hb3)
   have HK := Hq hk
   clear hb3 hk
   go_wp2_with fail
   go_ret2
   exact ⟨HB3.out, t, k, rfl, HK.out⟩
end Go.Proofs.YtbnkckjdgpiggaaGreatDoor
