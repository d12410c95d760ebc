import Derived.Test.YtbnkckjdgpiggaaGreatDoorRe
import Derived.Test.YtbnkckjdgpiggaaGreatDoorRx
import Derived.Test.YtbnkckjdgpiggaaGreatDoorRy
namespace Go.Proofs.YtbnkckjdgpiggaaGreatDoor
set_option maxRecDepth 100000
set_option maxHeartbeats 16000000
set_option linter.unusedVariables false
set_option linter.unusedSimpArgs false
open Go.RowKit
def adI : List zal := [⟨4, 0, 0, [], [], []⟩, ⟨4, 1, 0, [], [], []⟩, ⟨9, 1, 0, [73], [], []⟩, ⟨27, 0, 0, [], [], []⟩]
def adM : zo := ⟨[97, 100, 100], [40, 73, 73, 41, 73], true, false, false, 2, adI, []⟩
theorem z5q : zk adM.ty [[73], [73]] [73] := ⟨rfl, by intro x hx; simp at hx; subst hx; exact zu6 rfl, by simp, Or.inr (zu6 rfl)⟩
theorem zy4 : zbx adM [] = 0 := by
 have hty := z5q
 have hm : zda adM.ty = 0 := by unfold zda; rw [if_pos ⟨_, _, hty⟩]
 have ha : zgg adM = 2 := by unfold zgg; rw [if_neg (by simp [hm]), if_pos (show adM.stat = true from rfl), zo0 hty]; rfl
 have hf : zj6 adM.code := by
   refine ⟨by simp [adM, adI], fun i hi => ?_, fun i hi => ?_, rfl⟩
   . simp only [adM, adI, List.mem_cons, List.not_mem_nil, or_false] at hi
     rcases hi with rfl | rfl | rfl | rfl <;> simp [zar, zgh, za5, zbc, zcb, zjf]
   . simp only [adM, adI, List.mem_cons, List.not_mem_nil, or_false] at hi
     rcases hi with rfl | rfl | rfl | rfl <;> simp [zcb]
 unfold zbx
 rw [if_neg (by simp only [adM]; decide), if_neg (by simp [hm]), if_neg (by simp), if_neg (by simp [adM])]
 unfold zc2
 rw [if_neg (by simp [adM]), if_neg (by rw [(zj5 _).2 hf]; simp), if_neg (by rw [ha]; simp [adM]), if_neg (by simp [adM, adI, zzc])]
 simp [zd1, adM, zw]
theorem z7f : MOk adM := znh zy4 rfl
theorem zz4 {L : List zd} {c : Nm} {a : Nat} {A : List Nm} (ha : a < 2) (h : A.length < 8) : zb0 L c [73] ⟨4, (a : Int), 0, [], [], []⟩ ⟨[[73], [73]], A⟩ = some ⟨[[73], [73]], A ++ [[73]]⟩ := by
 have : a = 0 \/ a = 1 := by omega
 unfold zb0 za2 zm3
 rcases this with rfl | rfl <;> simp [zk7, h]
theorem z6h {L : List zd} {c : Nm} {lo : List Nm} : zb0 L c [73] ⟨9, 1, 0, [73], [], []⟩ ⟨lo, [[73], [73]]⟩ = some ⟨lo, [[73]]⟩ := by
 have h1 := zog (L := L) (t := [73]) (f := ⟨lo, [[73], [73]]⟩) (A := [[73]]) rfl rfl
 have h2 := zog (L := L) (t := [73]) (f := ⟨lo, [[73]]⟩) (A := []) rfl rfl
 unfold zb0 za2 zm3 zf1
 simp [h1, h2, putO, zk7]
theorem z6k {L : List zd} {c : Nm} {lo : List Nm} : zb0 L c [73] ⟨27, 0, 0, [], [], []⟩ ⟨lo, [[73]]⟩ = some ⟨lo, []⟩ := by
 have h2 := zog (L := L) (t := [73]) (f := ⟨lo, [[73]]⟩) (A := []) rfl rfl
 unfold zb0 za2 zm3
 simp [h2]
theorem z6l : zfb (wl [zdn adM]) [65] adM ≠ none := by
 obtain ⟨ha, hg⟩ := z5x z5q
 have hf : zc8 [65] adM = ⟨[[73], [73]], []⟩ := by unfold zc8 zdv; rw [ha]; rfl
 have hk2 := (zeo (wl [zdn adM]) (t := [73]) rfl).1
 have hks : zcc (wl [zdn adM]) (zc8 [65] adM).loc = 0 := by
   rw [hf]
   exact zdc.2 (fun x hx => by simp at hx; subst hx; exact hk2)
 unfold zfb
 rw [if_neg (by rw [hks]; simp), if_neg (by rw [hg]; rintro ⟨_, e⟩; exact e hk2)]
 have hG := zuk zy4
 have hM := z7f
 have H := zsq (c := [65]) hG hM
 have hF : KOk (wl [zdn adM]) (zc8 [65] adM) := zp0 hM hks
 rw [hf] at hF |-
 have hn : 0 < adM.code.length := by simp [adM, adI]
 obtain ⟨e1, o1, _⟩ := zhc H (zou hF hn) (z := 0) (r := []) rfl
   (zr8 (m := adM) (z := 0) (f := ⟨[[73], [73]], []⟩) (out := ⟨[[73], [73]], [[73]]⟩) (x := ⟨4, 0, 0, [], [], []⟩) (by simp [zcq, zhw]) (by simp [adM]) rfl (by rw [hg]; exact zz4 (a := 0) (A := []) (by omega) (by simp)) rfl (by simp [zcq, zhw]))
 obtain ⟨e2, o2, _⟩ := zhc H o1 (z := 1) (r := []) rfl
   (zr8 (m := adM) (z := 1) (f := ⟨[[73], [73]], [[73]]⟩) (out := ⟨[[73], [73]], [[73], [73]]⟩) (x := ⟨4, 1, 0, [], [], []⟩) (by simp [zhw]) (by simp [adM]) rfl (by rw [hg]; exact zz4 (a := 1) (A := [[73]]) (by omega) (by simp)) rfl (by simp [zcq, zhw]))
 obtain ⟨e3, o3, _⟩ := zhc H o2 (z := 2) (r := []) rfl
   (zr8 (m := adM) (z := 2) (f := ⟨[[73], [73]], [[73], [73]]⟩) (out := ⟨[[73], [73]], [[73]]⟩) (x := ⟨9, 1, 0, [73], [], []⟩) (by simp [zhw]) (by simp [adM]) rfl (by rw [hg]; exact z6h) rfl (by simp [zcq, zhw]))
 obtain ⟨e4, _, _⟩ := zhc H o3 (z := 3) (r := []) rfl
   (z68 (m := adM) (z := 3) (f := ⟨[[73], [73]], [[73]]⟩) (out := ⟨[[73], [73]], []⟩) (x := ⟨27, 0, 0, [], [], []⟩) (by simp [zhw]) (by simp [adM]) rfl (by rw [hg]; exact z6k) rfl)
 rw [e1, e2, e3, e4, zsp rfl]
 simp
theorem z7k : zl9 [zdn adM] := by
 intro c hc
 rw [List.mem_singleton.1 hc]
 refine ⟨⟨by simp [zdn], by simp [zdn], by simp [zdn], fun f hf => by simp [zdn] at hf, fun m hm => ?_⟩, ?_⟩
 . have : m = adM := by simpa [zdn] using hm
   subst this
   refine ⟨by simp [adM], by simp [adM, adI], by simp [adM], fun x hx => ?_⟩
   simp only [adM, adI, List.mem_cons, List.not_mem_nil, or_false] at hx
   rcases hx with rfl | rfl | rfl | rfl <;> simp [OpK]
 . refine ⟨by simp [zdn], by simp [zdn, zbq], fun f hf => by simp [zdn] at hf, fun f hf => by simp [zdn] at hf, fun m hm => ?_⟩
   have : m = adM := by simpa [zdn] using hm
   subst this
   refine ⟨by unfold I64; simp [adM], fun x hx => ?_, fun x hx => by simp [adM] at hx, by simp [adM], by simp [adM]⟩
   simp only [adM, adI, List.mem_cons, List.not_mem_nil, or_false] at hx
   rcases hx with rfl | rfl | rfl | rfl <;> (unfold z88 I64; simp)
open Go.Shelf Go.Lib Go.Sort
theorem z81 (W : World) : Calls Tryz.prog 36 #[.string ⟨⟨[73]⟩⟩, .int .i64 1, .int .i64 2, .int .i64 3] W fun e w' => e = .returned (.tuple #[.int .i64 5, .bool true]) /\ W = w' := by
 have h := z69 2 3 (by unfold wrap32; omega) (by unfold wrap32; omega) W
 rwa [show wrap32 (2 + 3) = 5 by unfold wrap32; omega] at h
theorem z8a (W0 w : World) (K c lb cs cc b : Nat) (cl : Nm) (q : zaf) (lq : HA) (hM : zd7 W0 w K c lb cs cc b (.slice none 0 0) 0 cl adM q 0 [⟨1, 2⟩, ⟨1, 3⟩] [] lq (none, 0)) (hC : zcy W0 q.ca q.cc adM.code) :
   Calls Tryz.prog 27 #[.pointer (some ⟨K, 0, none⟩), .int .i64 10] w fun e w' => e = .returned .nilIface /\ (∃ hv cv, Blk w' K 86 (zbo b hv cv 1 5 [] 4 true)) /\ zci w w' /\ Below W0.heap.size W0 w' := by
 refine zq5 (W0 := W0) (k := ⟨K, c, lb, cs, cc, b, cl, adM, q, lq⟩) 4 (fun i => i) (fun _ => [⟨1, 2⟩, ⟨1, 3⟩]) (fun i => ([[], [⟨1, 2⟩], [⟨1, 2⟩, ⟨1, 3⟩], [⟨1, 5⟩]] : List (List zbz)).getD i []) (fun _ => []) 10 1 5 [] w (by omega) (by omega) (by omega) ⟨_, _, [], hM, ztt.start _ _ _ _⟩ (fun i hi W h => ?_) (fun W h => ?_)
 . obtain rfl | rfl | rfl : i = 0 \/ i = 1 \/ i = 2 := by omega
   . exact zfo (k := ⟨K, c, lb, cs, cc, b, cl, adM, q, lq⟩) (p := 0) (p' := 1) (lo := [⟨1, 2⟩, ⟨1, 3⟩]) (lo' := [⟨1, 2⟩, ⟨1, 3⟩]) (st := []) (st' := [⟨1, 2⟩]) ⟨4, 0, 0, [], [], []⟩ hC rfl (by simp [adM, adI]) rfl rfl rfl rfl rfl
       (fun W' sq hh => zno _ _ _ _ _ _ 0 0 0 [⟨1, 2⟩, ⟨1, 3⟩] [] ⟨1, 2⟩ [] [] [] lq sq W' hh (by omega) (by simp) (by simp) rfl) (fun W' => zup K c 0 0 [] [] [] W') W h
   . exact zfo (k := ⟨K, c, lb, cs, cc, b, cl, adM, q, lq⟩) (p := 1) (p' := 2) (lo := [⟨1, 2⟩, ⟨1, 3⟩]) (lo' := [⟨1, 2⟩, ⟨1, 3⟩]) (st := [⟨1, 2⟩]) (st' := [⟨1, 2⟩, ⟨1, 3⟩]) ⟨4, 1, 0, [], [], []⟩ hC rfl (by simp [adM, adI]) rfl rfl rfl rfl rfl
       (fun W' sq hh => zno _ _ _ _ _ _ 1 1 0 [⟨1, 2⟩, ⟨1, 3⟩] [⟨1, 2⟩] ⟨1, 3⟩ [] [] [] lq sq W' hh (by omega) (by simp) (by simp) rfl) (fun W' => zup K c 1 0 [] [] [] W') W h
   . exact zfo (k := ⟨K, c, lb, cs, cc, b, cl, adM, q, lq⟩) (p := 2) (p' := 3) (lo := [⟨1, 2⟩, ⟨1, 3⟩]) (lo' := [⟨1, 2⟩, ⟨1, 3⟩]) (st := [] ++ [⟨1, 2⟩] ++ [⟨1, 3⟩]) (st' := [] ++ [⟨1, 5⟩]) ⟨9, 1, 0, [73], [], []⟩ hC rfl (by simp [adM, adI]) rfl rfl rfl rfl rfl
       (fun W' sq hh => znl _ _ _ _ _ _ 2 [⟨1, 2⟩, ⟨1, 3⟩] [] ⟨1, 2⟩ ⟨1, 3⟩ 0 [] [] lq sq W' hh (by omega) (by simp) 1 1 5 [73] rfl (fun W => z81 W) (fun W => zrf W)) (fun W' => zpl K c 1 0 [73] [] [] W') W h
 . exact ztq (k := ⟨K, c, lb, cs, cc, b, cl, adM, q, lq⟩) (p := 3) (v := ⟨1, 5⟩) ⟨27, 0, 0, [], [], []⟩ hC rfl (by simp [adM, adI]) rfl W h
theorem z5o (gk gm ga : Nat) (q : zaf) (w : World) (hF : zaw w) (hC : za7 w (some ⟨gk, 0, none⟩) 1 [zdn adM] [zpu gm q]) (ha : zkh w [⟨1, 2⟩, ⟨1, 3⟩] (some ⟨ga, 0, none⟩, 2)) :
   Calls Tryz.prog 12 #[.slice (some ⟨gk, 0, none⟩) 1 1, .string ⟨⟨[65]⟩⟩, .string ⟨⟨[97, 100, 100]⟩⟩, .string ⟨⟨[40, 73, 73, 41, 73]⟩⟩, .slice (some ⟨ga, 0, none⟩) 2 2, .int .i64 10] w fun e w' => e = .returned (.tuple #[zpw 1 5 [] 4, .nilIface]) /\ Below w.heap.size w w' :=
 zlu [zdn adM] [zpu gm q] (some ⟨gk, 0, none⟩) 1 [65] [⟨1, 2⟩, ⟨1, 3⟩] (some ⟨ga, 0, none⟩, 2) 10 w hC hF z7k ha (z67 (zuk zy4) z6l) (by simp)
   (zdn adM, zpu gm q) (z3w _ _) adM [] rfl rfl [[73], [73]] [73] z5q (by simp [adM]) rfl (fun j x y hx hy => by
     match j with
     | 0 => simp at hx hy; subst hx hy; exact Or.inl ⟨rfl, rfl, by dsimp only; unfold wrap32; omega⟩
     | 1 => simp at hx hy; subst hx hy; exact Or.inl ⟨rfl, rfl, by dsimp only; unfold wrap32; omega⟩
     | j + 2 => simp at hx)
   (by omega) (by omega) 2 rfl (by omega) (by simp) (Or.inl (by simp)) 1 5 [] 4
   (fun w5 w6 K c' lb cs cc b lq q' _ hW hM hmac => z8a w5 w6 K c' lb cs cc b [65] q' lq hmac hM.1)
def adW (w : World) : World := (((w.alloc (.cells (adI.map z6).flatten.toArray 40)).alloc (.cells (zj4 adM ⟨some ⟨w.heap.size, 0, none⟩, 4, none, 0⟩) 45)).alloc (.cells (zj4 adM ⟨some ⟨w.heap.size, 0, none⟩, 4, none, 0⟩) 45)).alloc (.cells (zb7 (zdn adM) (zpu (w.heap.size + 1 + 1) ⟨some ⟨w.heap.size, 0, none⟩, 4, none, 0⟩)).toArray 50)
theorem zsm (w : World) : Calls Tryz.prog 13 #[] w fun e w' => e = .returned (.slice (some ⟨w.heap.size + 1 + 1 + 1, 0, none⟩) 1 1) /\ w' = adW w := by
 go_enter Tryz.func13, Tryz.ntmps13
 go_wp2_with fail
 go_ret
 exact ⟨rfl, rfl⟩
theorem z61 (w : World) : Below w.heap.size w (adW w) /\ za7 (adW w) (some ⟨w.heap.size + 1 + 1 + 1, 0, none⟩) 1 [zdn adM] [zpu (w.heap.size + 1 + 1) ⟨some ⟨w.heap.size, 0, none⟩, 4, none, 0⟩] := by
 refine ⟨ze (ze (ze (ze (Below.refl _ _) _) _) _) _, ?_⟩
 have hI : Blk (adW w) w.heap.size 40 (adI.map z6).flatten.toArray := (((zg _ _ _ _ rfl).alloc _).alloc _).alloc _
 refine z7i (zg _ _ _ _ (by simp)) ((zg _ _ _ _ (by simp)).alloc _) ⟨zck hI (Nat.le_refl _) (by intro c hc; obtain ⟨x, _, rfl⟩ := List.mem_map.1 hc; rfl), ⟨Nat.le_refl _, Or.inl rfl⟩⟩
theorem zvk (w : World) (hF : zaw w) : Calls Tryz.prog 4 #[] w fun e w' => e = .returned (.bool true) /\ Below w.heap.size w w' := by
 obtain ⟨hb1, hc1⟩ := z61 w
 have HB1 := Hq hb1
 obtain ⟨w2, hw2⟩ : ∃ w2, w2 = (adW w).alloc (.cells #[.int .i64 1, .int .i64 2, .int .i64 1, .int .i64 3] 54) := ⟨_, rfl⟩
 have hb2 : Below (adW w).heap.size (adW w) w2 := by rw [hw2]; exact ze (Below.refl _ _) _
 have hV : Blk w2 (adW w).heap.size 54 #[.int .i64 1, .int .i64 2, .int .i64 1, .int .i64 3] := by rw [hw2]; exact zg _ _ _ _ rfl
 have HCL := Hq (z5o (w.heap.size + 1 + 1 + 1) (w.heap.size + 1 + 1) (adW w).heap.size ⟨some ⟨w.heap.size, 0, none⟩, 4, none, 0⟩ w2 (hF.below (zc hb1 hb2)) (hc1.below hb2)
   (zck (L := [zdh ⟨1, 2⟩, zdh ⟨1, 3⟩]) (by simpa [zdh] using hV) (by simp) (by intro c hc; simp at hc; rcases hc with rfl | rfl <;> rfl)))
 have HB2 := Hq (zc hb1 hb2)
 clear hF hb1 hc1 hb2 hV
 go_enter Tryz.func4, Tryz.ntmps4
 go_wp2_with fail
 refine (zsm _).mono ?_
 rintro e w1 ⟨rfl, rfl⟩
 go_wp2_with fail
 rw [<- hw2]
 clear hw2
 refine HCL.out.mono ?_
 rintro e w3 ⟨rfl, hb3⟩
 have HB3 := Hq (zc HB2.out hb3)
 clear hb3
 unfold zpw
 go_wp2_with fail
 go_ret
 exact ⟨rfl, ze HB3.out _⟩
end Go.Proofs.YtbnkckjdgpiggaaGreatDoor
