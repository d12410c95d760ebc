import Derived.Test.YtbnkckjdgpiggaaGreatDoorHb
import Derived.Lib.QuietBelow
import Derived.Deep.RegionHeld3
import Derived.Deep.DeepCutAuto
namespace Go.Proofs.YtbnkckjdgpiggaaGreatDoor
set_option maxRecDepth 100000
set_option maxHeartbeats 16000000
set_option linter.unusedVariables false
set_option linter.unusedSimpArgs false
open Go.RowKit Go.Shelf Go.Lib Go.Sort
theorem zpp (m : List UInt8) (r : List (List UInt8) -> Int × List (List UInt8)) (hty : ∀ A, (∀ t ∈ A, zi t) -> (r A).1 = 0 -> ∀ t ∈ (r A).2, zi t) : (chF m r).2.length <= 200 := by
 unfold chF
 cases hm : zni m with
 | none => simp
 | some p =>
   obtain ⟨A, g⟩ := p
   have hA := zgm hm
   simp only
   split
   . simp
   . rename_i h0
     split
     . simp
     . rename_i h5
       exact zu7 (by omega) (hty A hA.2.1 (by simpa using h0)) hA.2.2.2
theorem zye (k : Int) (t : List UInt8) (a : Int) : (zak k t a).2.length <= 200 := by
 unfold zak
 split
 . simp
 . rename_i h1
   split
   . simp
   . have ht : t = [73] \/ t = [74] := by
       have : zdb t = true := by
         cases hn : zdb t with
         | true => rfl
         | false => rw [hn] at h1; simp at h1
       unfold zdb at this
       simpa using this
     have hg : zf4 t := Or.inr (zef ht)
     refine zu7 (A := zcf k t a) ?_ ?_ hg
     . unfold zcf; split
       . simp
       split
       . simp
       split <;> simp
     . unfold zcf
       have h2 := zef ht
       have h3 := zef (t := [73]) (Or.inl rfl)
       split
       . simp
       split
       . simpa using h2
       split
       . intro x hx
         simp only [List.mem_cons, List.mem_nil_iff, or_false] at hx
         rcases hx with rfl | rfl
         . exact h2
         . exact h3
       . intro x hx
         simp only [List.mem_cons, List.mem_nil_iff, or_false, or_self] at hx
         rw [hx]; exact h2
theorem zyj (k : Int) (t : List UInt8) (a : Int) (pos : List Int) (ts : List (List UInt8)) : (zme k t a pos ts).2.length <= 200 := by
 unfold zme
 split
 . exact zpp _ _ (zx0 _ _)
 split
 . exact zpp _ _ (zul _ _)
 split
 . split
   . simp
   . exact zpp _ _ (zum _)
 . split
   . simp
   . exact zpp _ _ (zn3 _ _)
theorem zfh (h : Hd) : h.typed.2.length <= 200 := by
 rw [zhq]
 split
 . simp
 split
 . simp
 split
 . exact zye _ _ _
 split
 . simp
 . exact zyj _ _ _ _ _
theorem zw0 (m s : List UInt8) (i : Int) (many : Nat) (h : (zag m s i many).1 = 0) : (zag m s i many).2.length = many := by
 unfold zag at h |-
 cases hm : zni m with
 | none => rw [hm] at h; exact absurd (show (1 : Int) = 0 from h) (by decide)
 | some p =>
   obtain ⟨A, g⟩ := p
   rw [hm] at h
   simp only at h |-
   split at h
   . exact absurd h (by decide)
   rename_i h1
   rw [if_neg h1]
   cases hs : zni s with
   | none => rw [hs] at h; exact absurd (show (1 : Int) = 0 from h) (by decide)
   | some q =>
     obtain ⟨T, g2⟩ := q
     rw [hs] at h
     simp only at h |-
     split at h
     . exact absurd h (by decide)
     rename_i h2
     rw [if_neg h2]
     split at h
     . exact absurd h (by decide)
     rename_i h3
     rw [if_neg h3]
     simpa using h2
theorem zrj (m s : List UInt8) (i : Int) (many : Nat) : ∀ u ∈ (zag m s i many).2, u.length <= 100 := by
 unfold zag
 cases hm : zni m with
 | none => simp
 | some p =>
   obtain ⟨A, g⟩ := p
   simp only
   split
   . simp
   cases hs : zni s with
   | none => simp
   | some q =>
     obtain ⟨T, g2⟩ := q
     simp only
     split
     . simp
     split
     . simp
     . intro u hu
       have h1 := ze6 [u] (by simpa using (zgm hs).2.1 u hu)
       simp at h1
       omega
theorem z2w (k : Int) : zb1 k <= 2 := by
 unfold zb1
 split
 . omega
 . split <;> omega
theorem rowS : zld Tryz.prog 35 9 1 16 := zld.mk' (z := .string ByteArray.empty) Tryz.underlying35 (by kernel_rfl) rfl (by decide)
theorem zxg (t : List UInt8) : ∀ u ∈ [zz t], u.oneCell' = true := by
 intro u hu
 rw [List.mem_singleton.1 hu]; rfl
noncomputable def zpm (l : List Hd) : List (List UInt8) := l.map (fun s => s.typed.2)
theorem zzl {l : List Hd} {j : Nat} {x : Hd} (hx : l[j]? = some x) : (zpm l).take (j + 1) = (zpm l).take j ++ [x.typed.2] := by
 rw [List.take_add_one]
 unfold zpm
 rw [List.getElem?_map, hx]
 rfl
theorem z4n {l : List Hd} {j : Nat} {x : Hd} (h : ∀ s ∈ l.take j, s.typed.1 = 0) (hx : l[j]? = some x) (h0 : x.typed.1 = 0) : ∀ s ∈ l.take (j + 1), s.typed.1 = 0 := by
 rw [List.take_add_one, hx]
 intro s hs
 rcases List.mem_append.1 hs with h1 | h1
 . exact h s h1
 . simp at h1; rw [h1]; exact h0
theorem zva {l : List Hd} {j : Nat} {x : Hd} (h : ∀ s ∈ l.take j, s.typed.1 = 0) (hx : l[j]? = some x) (h0 : x.typed.1 ≠ 0) : zki (l.map Hd.typed) = (x.typed.1, []) := by
 refine zuz (k := j) (by rw [List.getElem?_map, hx]; rfl) (fun y hy => ?_) h0
 rw [<- List.map_take] at hy
 obtain ⟨s, hs, rfl⟩ := List.mem_map.1 hy
 exact h s hs
theorem zux {l : List Hd} (h : ∀ s ∈ l, s.typed.1 = 0) : zki (l.map Hd.typed) = (0, zpm l) := by
 rw [zr6 (fun r hr => by obtain ⟨s, hs, rfl⟩ := List.mem_map.1 hr; exact h s hs)]
 simp [zpm]
theorem z2g (m : Nat) (w : World) (h : zc7 w m 7 z5i) (k : Int) (hk : -9223372036854775808 <= k /\ k <= 9223372036854775807) :
   (Instr.lookup 118 (.map (some m)) (.int .i64 k) true).run Tryz.prog w = .ok (.tuple #[.int .i64 (if 1 <= k /\ k <= 7 then (zb1 k : Int) else 0), .bool (decide (1 <= k /\ k <= 7))]) w := by
 have hwf : (Lit.int .i64 k).wf = true := by
   have h1 : IntKind.i64.min = -9223372036854775808 := by decide
   have h2 : IntKind.i64.max = 9223372036854775807 := by decide
   simp [Lit.wf, h1, h2]; omega
 by_cases hr : 1 <= k /\ k <= 7
 . have := zc7.look_some (P := Tryz.prog) (w := w) Tryz.underlying3 Tryz.underlying118 h hwf (v := .int .i64 (zb1 k : Int)) (by unfold z5i; rw [if_pos hr]) true
   rw [if_pos hr]
   simpa [hr] using this
 . have := zc7.look_none (P := Tryz.prog) (w := w) Tryz.underlying3 Tryz.underlying118 h hwf (by unfold z5i; rw [if_neg hr]) (zv := .int .i64 0) (by kernel_rfl) true
   rw [if_neg hr]
   simpa [hr] using this
def zi7 (w : World) (g : Nat) (h : Hd) : Prop := Blk w g 25 #[.int .i64 h.kind, .string ⟨⟨h.ty⟩⟩, .int .i64 h.a, .slice h.pa h.pos.length h.pc, .slice h.sa h.subs.length h.sc]
theorem zi7.below {w w' : World} {g : Nat} {h : Hd} (H : zi7 w g h) (hb : Below w.heap.size w w') : zi7 w' g h := Blk.below H hb
theorem zi7.cells {w : World} {g : Nat} {h : Hd} (H : zi7 w g h) : w.cell? ⟨g, 0, none⟩ = some (.int .i64 h.kind) /\ w.cell? ⟨g, 1, none⟩ = some (.string ⟨⟨h.ty⟩⟩) /\ w.cell? ⟨g, 2, none⟩ = some (.int .i64 h.a) /\ w.cell? ⟨g, 3, none⟩ = some (.slice h.pa h.pos.length h.pc) /\ w.cell? ⟨g, 4, none⟩ = some (.slice h.sa h.subs.length h.sc) :=
 ⟨Blk.cell H 0, Blk.cell H 1, Blk.cell H 2, Blk.cell H 3, Blk.cell H 4⟩
theorem zqa {w0 : World} {h : Hd} (H : zh0 w0 h) : ∀ (w : World), Below w0.heap.size w0 w -> Calls Tryz.prog 29 #[hdV h] w (zg0 w h.typed) := by
 induction H with
 | mk h hp hs ht hl hm hkn haI hsub ih =>
   intro w hb
   have HS := Hq (hs.below hb)
   have HP := Hq (hp.below hb)
   have HIH := Hq (fun (i : Nat) (s : Hd) (hi : h.subs[i]? = some s) => ih s (List.mem_of_getElem? hi))
   have HB := Hq hb
   have HKN := Hq hkn
   have HT := Hq (zhq h)
   obtain ⟨N, hN⟩ : ∃ N : Int, N = if 1 <= h.kind /\ h.kind <= 7 then (zb1 h.kind : Int) else 0 := ⟨_, rfl⟩
   obtain ⟨q, hq⟩ : ∃ q : Bool, q = decide (1 <= h.kind /\ h.kind <= 7) := ⟨_, rfl⟩
   have HLK := Hq (fun (m : Nat) (w : World) (hi : zc7 w m 7 z5i) => (show (Instr.lookup 118 (.map (some m)) (.int .i64 h.kind) true).run Tryz.prog w = .ok (.tuple #[.int .i64 N, .bool q]) w by rw [hN, hq]; exact z2g m w hi h.kind hkn))
   have HN := Hq hN
   have HQ := Hq hq
   clear hp hs hkn haI hsub ih hb hN hq
   have hbox : zi7 (w.alloc (.cells #[.int .i64 h.kind, .string ⟨⟨h.ty⟩⟩, .int .i64 h.a, .slice h.pa h.pos.length h.pc, .slice h.sa h.subs.length h.sc] 25)) w.heap.size h := zg _ _ _ _ rfl
   unfold hdV
   go_enter Tryz.func29, Tryz.ntmps29
   go_upto_region 1 with fail
   obtain ⟨w1, hw1⟩ : ∃ w1, w1 = w.alloc (.cells #[.int .i64 h.kind, .string ⟨⟨h.ty⟩⟩, .int .i64 h.a, .slice h.pa h.pos.length h.pc, .slice h.sa h.subs.length h.sc] 25) := ⟨_, rfl⟩
   have HB1 := Hq (show Below w.heap.size w w1 by rw [hw1]; exact ze (Below.refl _ _) _)
   rw [<- hw1] at hbox |-
   have HX := Hq hbox
   clear hw1 hbox
   go_cut [1, 4, 5] (fun s1 s4 s5 wx => s1 = .pointer (some ⟨w.heap.size, 0, none⟩) /\ s4 = .int .i64 N /\ s5 = .bool q /\ Below w1.heap.size w1 wx)
   case first =>
     have hS := fun W' (hb : Below w1.heap.size w1 W') => (HX.out.below hb).cells.1
     have HS1 := Hq hS
     clear hS
     have hb0 := Below.refl w1.heap.size w1
     go_region_held3 (fun W' => W'.cell? ⟨w.heap.size, 0, none⟩ = some (.int .i64 h.kind))
       (exact HS1.out _ (by repeat (first | exact hb2 | exact hb0 | refine Below.drew ?_)))
       ((go_at_call 53
         refine (zxa _).mono ?_
         rintro e w2 ⟨m, rfl, him, hb2c⟩
         have hlk := HLK.out m w2 him
         have hb2 : Below w1.heap.size w1 w2 := (Below.drew hb0).trans hb2c))
     all_goals
       go_wp2_with fail
       go_meet
       exact ⟨rfl, rfl, rfl, hb2⟩
   case rest =>
     obtain ⟨rfl, rfl, rfl, hb2⟩ := hcut
     have HX2 := Hq (HX.out.below hb2)
     have HB2 := Hq (zc HB1.out hb2)
     obtain ⟨c0, c1, c2, c3, c4⟩ := HX2.out.cells
     clear hb2
     cases q with
     | false =>
       have HR := Hq (show h.typed = (1, []) by
         have h1 : ¬ (1 <= h.kind /\ h.kind <= 7) := of_decide_eq_false HQ.out.symm
         rw [HT.out, if_pos (by omega)])
       go_wp2_with fail
       go_ret2
       exact ⟨by rw [HR.out]; rfl, HB2.out⟩
     | true =>
       have hkr : 1 <= h.kind /\ h.kind <= 7 := of_decide_eq_true HQ.out.symm
       have HKR := Hq hkr
       have hNn : N = (zb1 h.kind : Int) := by rw [HN.out, if_pos hkr]
       subst hNn
       have HT2 := Hq (show h.typed = if h.subs.length ≠ zb1 h.kind then (8, []) else if zb1 h.kind = 0 then zak h.kind h.ty h.a
           else if (zki (h.subs.map Hd.typed)).1 ≠ 0 then ((zki (h.subs.map Hd.typed)).1, []) else zme h.kind h.ty h.a h.pos (zki (h.subs.map Hd.typed)).2 by rw [HT.out, if_neg (by omega)])
       obtain ⟨n, hn⟩ : ∃ n, n = zb1 h.kind := ⟨_, rfl⟩
       rw [<- hn] at HT2 |-
       have HNS := Hq hn
       have hn2 : n <= 2 := by rw [hn]; exact z2w _
       clear hkr hn HT HN HQ HLK
       by_cases hln : h.subs.length = n
       . have HLN := Hq hln
         have hl1 : ((h.subs.length : Int) != (n : Int)) = false := by simp; omega
         have hl2 : (h.subs.length != n) = false := by simp; omega
         by_cases hn0 : n = 0
         . subst hn0
           have HR := Hq (show h.typed = zak h.kind h.ty h.a by rw [HT2.out, if_neg (by simpa using HLN.out), if_pos rfl])
           have hk3 : h.kind = 1 \/ h.kind = 2 \/ h.kind = 3 := by
             have h1 := HNS.out
             have h2 := HKR.out
             unfold zb1 at h1
             split at h1
             . omega
             split at h1 <;> omega
           have HLF := Hq (show ∀ w, Calls Tryz.prog 54 #[.agg #[.int .i64 h.kind, .string ⟨⟨h.ty⟩⟩, .int .i64 h.a, .slice h.pa h.pos.length h.pc, .slice h.sa h.subs.length h.sc]] w (zg0 w (zak h.kind h.ty h.a)) from fun w => by
             cases hnt : zdb h.ty with
             | false => exact z3i _ _ _ _ _ _ _ _ _ w hnt
             | true =>
               have ht : h.ty = [73] \/ h.ty = [74] := by unfold zdb at hnt; simpa using hnt
               rcases hk3 with e | e | e
               . rw [e]; exact z3k _ ht _ _ _ _ _ _ _ w
               . rw [e]; exact z2h _ ht _ _ _ _ _ _ _ w
               . rw [e]; exact zwu _ ht _ _ _ _ _ _ _ w)
           clear hln hk3
           go_wp2_with fail
           refine (HLF.out _).mono ?_
           rintro e w4 ⟨rfl, hb4⟩
           go_wp2_with fail
           go_ret2
           exact ⟨by rw [HR.out]; rfl, zc HB2.out hb4⟩
         . have HT3 := Hq (show h.typed = if (zki (h.subs.map Hd.typed)).1 ≠ 0 then ((zki (h.subs.map Hd.typed)).1, []) else zme h.kind h.ty h.a h.pos (zki (h.subs.map Hd.typed)).2 by rw [HT2.out, if_neg (by simpa using HLN.out), if_neg hn0])
           have hn1 : ¬ (n : Int) = 0 := by omega
           have hn3 : ((n : Int) == 0) = false := by rw [beq_eq_false_iff_ne]; omega
           have hn4 : (n == 0) = false := by rw [beq_eq_false_iff_ne]; exact hn0
           have hsz := HB2.out.size
           obtain ⟨wb, hwb⟩ : ∃ wb, wb = wc := ⟨wc, rfl⟩
           subst hwb
           clear hln HT2
           go_wp2_with fail
           go_loopw [6, 40] (fun s i wr => ∃ j : Nat, j <= h.subs.length /\ i = .int .i64 j /\ Hid (wr.ownsRow wb.heap.size 9 1 s j (((zpm h.subs).take j).map zz)) /\ Hid (∀ s ∈ h.subs.take j, s.typed.1 = 0) /\ RowKit.Below wb.heap.size wb wr) (fun _ i _ => h.subs.length - (RowKit.intOf i).toNat)
           case atStart => exact ⟨0, by omega, rfl, Hq ⟨by simp, Or.inl ⟨rfl, rfl⟩⟩, Hq (by simp), RowKit.Below.refl _ _⟩
           case round =>
             obtain ⟨j, hj, rfl, HO, HZ, hbr⟩ := hrel
             obtain ⟨A, C, rfl, _⟩ := zy HO.out
             have HBR := Hq (zc HB2.out hbr)
             have HBR1 := Hq hbr
             have hsr := hbr.size
             clear hbr
             by_cases hlj : j < h.subs.length
             . obtain ⟨x, hx⟩ : ∃ x, h.subs[j]? = some x := ⟨_, List.getElem?_eq_getElem hlj⟩
               obtain ⟨b, off, hsa, hlt, d0, d1, d2, d3, d4⟩ := zbe (HS.out.below HBR.out) hx
               have hj2 : j <= 2 := by have := HLN.out; omega
               have HIX := Hq (fun w' (hw : RowKit.Below w0.heap.size w0 w') => HIH.out j x hx w' hw)
               unfold hdV at HIX
               have HBA := Hq (HB.out.trans (HBR.out.mono HB.out.size))
               rw [hsa]
               by_cases hx0 : x.typed.1 = 0
               . have HTX := Hq (zzl hx)
                 have HZ2 := Hq (z4n HZ.out hx hx0)
                 have HX0 := Hq hx0
                 clear hx hsa hx0
                 go_wp2_with fail
                 refine (HIX.out _ (HBA.out.alloc (by have := HB.out.size; have := HBR.out.size; omega) _)).mono ?_
                 rintro e w4 ⟨rfl, hb4⟩
                 rw [HX0.out, zqp]
                 have HB4 := Hq ((HBR1.out.alloc hsr _).trans (hb4.mono (by simp; omega)))
                 have HO4 := Hq (zad (HO.out.alloc _) hb4)
                 have hs4 := HB4.out.size
                 clear hb4
                 go_wp2_with (at_builtin; refine zt rowS rfl _ _ rfl wb.heap.size _ j (((zpm h.subs).take j).map zz) rfl HO4.out [zz x.typed.2] rfl (zxg _) _ rfl (by simp) (by omega) (by omega) hs4 ?_)
                 intro v5 w5 ho5 hg5
                 have HB5 := Hq (HB4.out.trans (zbg hs4 HO4.out hg5))
                 have HO5 := Hq (show w5.ownsRow wb.heap.size 9 1 v5 (j + 1) (((zpm h.subs).take (j + 1)).map zz) by rw [HTX.out, List.map_append, List.map_take]; exact ho5)
                 clear ho5 hg5
                 go_wp2_with fail
                 go_roundw
                 case rel => exact ⟨j + 1, by omega, by go_num, HO5, HZ2, HB5.out⟩
                 case measure => simp [RowKit.intOf]; omega
               . have HR := Hq (show h.typed = (x.typed.1, []) by rw [HT3.out, zva HZ.out hx hx0, if_pos hx0])
                 have HX0 := Hq hx0
                 clear hx hsa hx0
                 go_wp2_with fail
                 refine (HIX.out _ (HBA.out.alloc (by have := HB.out.size; have := HBR.out.size; omega) _)).mono ?_
                 rintro e w4 ⟨rfl, hb4⟩
                 rw [zed HX0.out]
                 have HB4 := Hq ((HBR.out.alloc HBR.out.size _).trans (hb4.mono (by have := HBR.out.size; simp; omega)))
                 clear hb4
                 go_wp2_with fail
                 go_ret2
                 exact ⟨by rw [HR.out]; simp only; rw [zed HX0.out]; rfl, HB4.out⟩
             . obtain rfl : j = h.subs.length := by omega
               have HZ1 : ∀ s ∈ h.subs, s.typed.1 = 0 := by have := HZ.out; rwa [List.take_length] at this
               have HR := Hq (show h.typed = zme h.kind h.ty h.a h.pos (zpm h.subs) by rw [HT3.out, zux HZ1, if_neg (by simp)])
               have htl : (zpm h.subs).length = h.subs.length := by unfold zpm; rw [List.length_map]
               have hown : wr.ownsRow wb.heap.size 9 1 (.slice A h.subs.length C) (zpm h.subs).length ((zpm h.subs).map zz) := by
                 have := HO.out
                 rw [<- htl, List.take_length] at this
                 rw [<- htl]
                 exact this
               have hlen200 : ∀ t ∈ zpm h.subs, t.length <= 200 := by
                 intro t ht
                 unfold zpm at ht
                 obtain ⟨s, _, rfl⟩ := List.mem_map.1 ht
                 exact zfh s
               obtain ⟨a2, cap2, hv, hsr⟩ := zl hown
               simp only [Value.slice.injEq] at hv
               obtain ⟨rfl, _, rfl⟩ := hv
               have HCE := Hq (HX2.out.below HBR1.out).cells
               have HG := Hq (fun (d : Nat) (os : Array Obj) => below_regrown wr d os)
               have HPP := Hq (HP.out.below HBR.out)
               have HL2 := Hq hlen200
               have HSR := Hq hsr
               have hlen : h.subs.length = n := HLN.out
               have hns := HNS.out
               have hkr := HKR.out
               have hwl : w.heap.size < wr.heap.size := by have := HX2.out.lt; have := HBR1.out.size; omega
               clear HZ1 hown hlen200 hsr HO HZ HT3 HIH HLN HNS HKR HS
               generalize zpm h.subs = X at *
               rw [hlen] at htl |-
               have hcase : (n = 1 /\ (h.kind = 4 \/ h.kind = 6)) \/ (n = 2 /\ (h.kind = 5 \/ h.kind = 7)) := by
                 unfold zb1 at hns
                 split at hns
                 . left; exact ⟨hns, by omega⟩
                 split at hns
                 . right; exact ⟨hns, by omega⟩
                 . omega
               have HMB := Hq (show ∀ w', Below wr.heap.size wr w' -> Below w.heap.size w w' from fun w' hw' => zc HBR.out hw')
               rcases hcase with ⟨hn1', hk⟩ | ⟨hn2', hk⟩
               . subst hn1'
                 obtain ⟨t0, rfl⟩ : ∃ t0, X = [t0] := by
                   match X, htl with
                   | [t], _ => exact ⟨t, rfl⟩
                 have ht0 := HL2.out t0 (by simp)
                 obtain ⟨g, off, rfl, hgl, hgc⟩ : ∃ b off, A = some ⟨b, off, none⟩ /\ b < wr.heap.size /\ wr.cell? ⟨b, off, none⟩ = some (.string ⟨⟨t0⟩⟩) := by
                   rcases HSR.out.2 with h | ⟨b, off, rfl, hlt, hc⟩
                   . cases h
                   . exact ⟨b, off, rfl, hlt, hc 0 t0 rfl⟩
                 have gt0 := fun (d : Nat) (os : Array Obj) => ((HG.out d os).cell (p := ⟨g, off, none⟩) hgl).trans hgc
                 have gc1 := fun (d : Nat) (os : Array Obj) => ((HG.out d os).cell (p := ⟨w.heap.size, 1, none⟩) hwl).trans HCE.out.2.1
                 have gc2 := fun (d : Nat) (os : Array Obj) => ((HG.out d os).cell (p := ⟨w.heap.size, 2, none⟩) hwl).trans HCE.out.2.2.1
                 have gc3 := fun (d : Nat) (os : Array Obj) => ((HG.out d os).cell (p := ⟨w.heap.size, 3, none⟩) hwl).trans HCE.out.2.2.2.1
                 have e0 := HCE.out.1
                 clear htl hns hkr hlen
                 rcases hk with hk | hk
                 . rw [hk] at e0
                   have HPUT := Hq (fun w => show Calls Tryz.prog 55 #[.string ⟨⟨t0⟩⟩, .int .i64 h.a, .string ⟨⟨h.ty⟩⟩] w fun e w' => e = .returned (.tuple #[.string ⟨⟨(zne t0 h.a h.ty).2⟩⟩, z59 (zne t0 h.a h.ty).1]) /\ Below w.heap.size w w' from zw6 t0 (by omega) h.a h.ty ht w)
                   have HR2 := Hq (show h.typed = zne t0 h.a h.ty by rw [HR.out, hk]; rfl)
                   clear hk HR
                   generalize zne t0 h.a h.ty = r at *
                   go_upto_region 19 with fail
                   refine wp_region_quiet_below (by kernel_rfl) (by kernel_rfl) ?_
                   repeat (first | go_big_quiet_step (exact Calls.regrown_of (HPUT.out _)) | quiet_step (exact Calls.regrown_of (HPUT.out _)))
                   refine wpQuiet_nil ?_
                   intro _ hw'
                   obtain ⟨⟨dq, osq⟩, hw''⟩ := hw'
                   subst hw''
                   have HBQ := Hq (HMB.out _ (HG.out dq osq))
                   go_wp2_with fail
                   go_ret2
                   exact ⟨by rw [HR2.out]; rfl, HBQ.out⟩
                 . rw [hk] at e0
                   have HPUT := Hq (fun w (hw : Below wr.heap.size wr w) => show Calls Tryz.prog 56 #[.string ⟨⟨t0⟩⟩, .slice h.pa h.pos.length h.pc, .string ⟨⟨h.ty⟩⟩] w fun e w' => e = .returned (.tuple #[.string ⟨⟨(zm2 t0 h.pos h.ty).2⟩⟩, z59 (zm2 t0 h.pos h.ty).1]) /\ Below w.heap.size w w' from zw7 t0 (by omega) h.pos h.pa h.pc h.ty ht hm w (HPP.out.below hw))
                   have HR2 := Hq (show h.typed = zm2 t0 h.pos h.ty by rw [HR.out, hk]; rfl)
                   clear hk HR
                   generalize zm2 t0 h.pos h.ty = r at *
                   go_upto_region 21 with fail
                   refine wp_region_quiet_below (by kernel_rfl) (by kernel_rfl) ?_
                   repeat (first | go_big_quiet_step (exact Calls.regrown_of (HPUT.out _ (HG.out _ _))) | quiet_step (exact Calls.regrown_of (HPUT.out _ (HG.out _ _))))
                   refine wpQuiet_nil ?_
                   intro _ hw'
                   obtain ⟨⟨dq, osq⟩, hw''⟩ := hw'
                   subst hw''
                   have HBQ := Hq (HMB.out _ (HG.out dq osq))
                   go_wp2_with fail
                   go_ret2
                   exact ⟨by rw [HR2.out]; rfl, HBQ.out⟩
               . subst hn2'
                 obtain ⟨t0, t1, rfl⟩ : ∃ t0 t1, X = [t0, t1] := by
                   match X, htl with
                   | [t, u], _ => exact ⟨t, u, rfl⟩
                 have ht0 := HL2.out t0 (by simp)
                 have ht1 := HL2.out t1 (by simp)
                 obtain ⟨g, off, rfl, hgl, hgc, hgd⟩ : ∃ b off, A = some ⟨b, off, none⟩ /\ b < wr.heap.size /\ wr.cell? ⟨b, off, none⟩ = some (.string ⟨⟨t0⟩⟩) /\ wr.cell? ⟨b, off + 1, none⟩ = some (.string ⟨⟨t1⟩⟩) := by
                   rcases HSR.out.2 with h | ⟨b, off, rfl, hlt, hc⟩
                   . cases h
                   . exact ⟨b, off, rfl, hlt, hc 0 t0 rfl, hc 1 t1 rfl⟩
                 obtain ⟨e0, e1, e2, e3, e4⟩ := HCE.out
                 clear htl hns hkr hlen
                 have HFL := Hq (fun (many : Nat) w => zrl t0 t1 (by omega) (by omega) h.a many w)
                 have HS1 := Hq (fun W' (hb : Below wr.heap.size wr W') => (show W'.cell? ⟨w.heap.size, 2, none⟩ = some (.int .i64 h.a) /\ W'.cell? ⟨g, off, none⟩ = some (.string ⟨⟨t0⟩⟩) /\ W'.cell? ⟨g, off + 1, none⟩ = some (.string ⟨⟨t1⟩⟩) from ⟨(hb.cell (p := ⟨w.heap.size, 2, none⟩) hwl).trans e2, (hb.cell (p := ⟨g, off, none⟩) hgl).trans hgc, (hb.cell (p := ⟨g, off + 1, none⟩) hgl).trans hgd⟩))
                 have hb0 := Below.refl wr.heap.size wr
                 rcases hk with hk | hk
                 . rw [hk] at e0
                   have HFM := Hq (show ∀ w, Calls Tryz.prog 57 #[.string ⟨⟨t0⟩⟩, .string ⟨⟨t1⟩⟩, .int .i64 h.a, .int .i64 0] w (zry (zag t0 t1 h.a 0) w) from fun w => HFL.out 0 w)
                   have HR2 := Hq (show h.typed = if (zag t0 t1 h.a 0).1 ≠ 0 then ((zag t0 t1 h.a 0).1, []) else zl4 t0 h.a by rw [HR.out, hk]; rfl)
                   clear hk HR HFL
                   generalize zag t0 t1 h.a 0 = r at *
                   by_cases hr0 : r.1 = 0
                   . have HFN := Hq (show ∀ w, Calls Tryz.prog 57 #[.string ⟨⟨t0⟩⟩, .string ⟨⟨t1⟩⟩, .int .i64 h.a, .int .i64 0] w (fun e w' => ∃ a cap, e = .returned (.tuple #[.slice a r.2.length cap, .nilIface]) /\ zdl w' a cap r.2 /\ Below w.heap.size w w') from fun w => (HFM.out w).mono (fun e w' hq => by
                       rcases hq with ⟨hb, ⟨h1, _⟩ | ⟨_, a, c, he, hs⟩⟩
                       . exact absurd hr0 h1
                       . exact ⟨a, c, he, hs, hb⟩))
                     have HR3 := Hq (show h.typed = zl4 t0 h.a by rw [HR2.out, if_neg (by simpa using hr0)])
                     clear HFM HR2 hr0
                     go_upto_region 23 with fail
                     go_cut [1, 6, 12] (fun s1 s6 s12 wx => s1 = .pointer (some ⟨w.heap.size, 0, none⟩) /\ s6 = .slice (some ⟨g, off, none⟩) 2 C /\ s12 = .nilIface /\ Below wr.heap.size wr wx)
                     case first =>
                       go_region_held3 (fun W' => W'.cell? ⟨w.heap.size, 2, none⟩ = some (.int .i64 h.a) /\ W'.cell? ⟨g, off, none⟩ = some (.string ⟨⟨t0⟩⟩) /\ W'.cell? ⟨g, off + 1, none⟩ = some (.string ⟨⟨t1⟩⟩))
                         (exact HS1.out _ (by repeat (first | exact hb2 | exact hb0 | refine Below.drew ?_)))
                         ((go_at_call 57
                           refine (HFN.out _).mono ?_
                           rintro e w2 ⟨a2, cap2, rfl, hs2, hb2c⟩
                           have hb2 : Below wr.heap.size wr w2 := (Below.drew hb0).trans hb2c))
                       all_goals
                         go_wp2_with fail
                         go_meet
                         exact ⟨rfl, rfl, rfl, hb2⟩
                     case rest =>
                       obtain ⟨rfl, rfl, rfl, hb2⟩ := hcut
                       have hsz2 := hb2.size
                       have HG2 := Hq (fun (d : Nat) (os : Array Obj) => below_regrown wc d os)
                       obtain ⟨k2, k0, k1⟩ := HS1.out _ hb2
                       have hwl2 := Nat.lt_of_lt_of_le hwl hsz2
                       have hgl0 := Nat.lt_of_lt_of_le hgl hsz2
                       have gt0 := fun (d : Nat) (os : Array Obj) => ((HG2.out d os).cell (p := ⟨g, off, none⟩) hgl0).trans k0
                       have gc2 := fun (d : Nat) (os : Array Obj) => ((HG2.out d os).cell (p := ⟨w.heap.size, 2, none⟩) hwl2).trans k2
                       have HB2X := Hq (HMB.out _ hb2)
                       have HPUT := Hq (fun w => show Calls Tryz.prog 58 #[.string ⟨⟨t0⟩⟩, .int .i64 h.a] w fun e w' => e = .returned (.tuple #[.string ⟨⟨(zl4 t0 h.a).2⟩⟩, z59 (zl4 t0 h.a).1]) /\ Below w.heap.size w w' from zvv t0 (by omega) h.a w)
                       clear hb2
                       generalize zl4 t0 h.a = q at *
                       go_upto_region 26 with fail
                       refine wp_region_quiet_below (by kernel_rfl) (by kernel_rfl) ?_
                       repeat (first | go_big_quiet_step (exact Calls.regrown_of (HPUT.out _)) | quiet_step (exact Calls.regrown_of (HPUT.out _)))
                       refine wpQuiet_nil ?_
                       intro _ hw'
                       obtain ⟨⟨dq, osq⟩, hw''⟩ := hw'
                       subst hw''
                       have HBQ := Hq (zc HB2X.out (HG2.out dq osq))
                       go_wp2_with fail
                       go_ret2
                       exact ⟨by rw [HR3.out]; rfl, HBQ.out⟩
                   . have HFN := Hq (show ∀ w, Calls Tryz.prog 57 #[.string ⟨⟨t0⟩⟩, .string ⟨⟨t1⟩⟩, .int .i64 h.a, .int .i64 0] w (fun e w' => e = .returned (.tuple #[.slice none 0 0, zby r.1]) /\ Below w.heap.size w w') from fun w => (HFM.out w).mono (fun e w' hq => by
                       rcases hq with ⟨hb, ⟨_, he⟩ | ⟨h1, _⟩⟩
                       . exact ⟨he, hb⟩
                       . exact absurd h1 hr0))
                     have HR3 := Hq (show h.typed = (r.1, []) by rw [HR2.out, if_pos hr0])
                     have HZ3 := Hq (zed hr0)
                     clear HFM HR2 hr0
                     go_upto_region 23 with fail
                     go_cut [1, 6, 12] (fun s1 s6 s12 wx => s1 = .pointer (some ⟨w.heap.size, 0, none⟩) /\ s6 = .slice (some ⟨g, off, none⟩) 2 C /\ s12 = zby r.1 /\ Below wr.heap.size wr wx)
                     case first =>
                       go_region_held3 (fun W' => W'.cell? ⟨w.heap.size, 2, none⟩ = some (.int .i64 h.a) /\ W'.cell? ⟨g, off, none⟩ = some (.string ⟨⟨t0⟩⟩) /\ W'.cell? ⟨g, off + 1, none⟩ = some (.string ⟨⟨t1⟩⟩))
                         (exact HS1.out _ (by repeat (first | exact hb2 | exact hb0 | refine Below.drew ?_)))
                         ((go_at_call 57
                           refine (HFN.out _).mono ?_
                           rintro e w2 ⟨rfl, hb2c⟩
                           have hb2 : Below wr.heap.size wr w2 := (Below.drew hb0).trans hb2c))
                       all_goals
                         go_wp2_with fail
                         go_meet
                         exact ⟨rfl, rfl, rfl, hb2⟩
                     case rest =>
                       obtain ⟨rfl, rfl, rfl, hb2⟩ := hcut
                       have HB2X := Hq (HMB.out _ hb2)
                       clear hb2
                       go_wp2_with fail
                       go_ret2
                       exact ⟨by rw [HR3.out, HZ3.out]; rfl, HB2X.out⟩
                 . rw [hk] at e0
                   have HFM := Hq (show ∀ w, Calls Tryz.prog 57 #[.string ⟨⟨t0⟩⟩, .string ⟨⟨t1⟩⟩, .int .i64 h.a, .int .i64 1] w (zry (zag t0 t1 h.a 1) w) from fun w => HFL.out 1 w)
                   have HR2 := Hq (show h.typed = if (zag t0 t1 h.a 1).1 ≠ 0 then ((zag t0 t1 h.a 1).1, []) else zex t0 h.a ((zag t0 t1 h.a 1).2.getD 0 []) by rw [HR.out, hk]; rfl)
                   have hl1 := zw0 t0 t1 h.a 1
                   have hl2 := zrj t0 t1 h.a 1
                   clear hk HR HFL
                   generalize zag t0 t1 h.a 1 = r at *
                   by_cases hr0 : r.1 = 0
                   . have HFN := Hq (show ∀ w, Calls Tryz.prog 57 #[.string ⟨⟨t0⟩⟩, .string ⟨⟨t1⟩⟩, .int .i64 h.a, .int .i64 1] w (fun e w' => ∃ a cap, e = .returned (.tuple #[.slice a r.2.length cap, .nilIface]) /\ zdl w' a cap r.2 /\ Below w.heap.size w w') from fun w => (HFM.out w).mono (fun e w' hq => by
                       rcases hq with ⟨hb, ⟨h1, _⟩ | ⟨_, a, c, he, hs⟩⟩
                       . exact absurd hr0 h1
                       . exact ⟨a, c, he, hs, hb⟩))
                     obtain ⟨u, hu⟩ : ∃ u, r.2 = [u] := by
                       match hq : r.2, hl1 hr0 with
                       | [u], _ => exact ⟨u, rfl⟩
                     have HR3 := Hq (show h.typed = zex t0 h.a u by rw [HR2.out, if_neg (by simpa using hr0), hu]; rfl)
                     have hul : u.length <= 8388608 := by have := hl2 u (by rw [hu]; simp); omega
                     rw [hu] at HFN
                     clear HFM HR2 hr0
                     go_upto_region 27 with fail
                     go_cut [1, 6, 13, 14] (fun s1 s6 s13 s14 wx => s1 = .pointer (some ⟨w.heap.size, 0, none⟩) /\ s6 = .slice (some ⟨g, off, none⟩) 2 C /\ (∃ a cap, s13 = .slice a 1 cap /\ zdl wx a cap [u]) /\ s14 = .nilIface /\ Below wr.heap.size wr wx)
                     case first =>
                       go_region_held3 (fun W' => W'.cell? ⟨w.heap.size, 2, none⟩ = some (.int .i64 h.a) /\ W'.cell? ⟨g, off, none⟩ = some (.string ⟨⟨t0⟩⟩) /\ W'.cell? ⟨g, off + 1, none⟩ = some (.string ⟨⟨t1⟩⟩))
                         (exact HS1.out _ (by repeat (first | exact hb2 | exact hb0 | refine Below.drew ?_)))
                         ((go_at_call 57
                           refine (HFN.out _).mono ?_
                           rintro e w2 ⟨a2, cap2, rfl, hs2, hb2c⟩
                           have hb2 : Below wr.heap.size wr w2 := (Below.drew hb0).trans hb2c))
                       all_goals
                         go_wp2_with fail
                         go_meet
                         exact ⟨rfl, rfl, ⟨_, _, rfl, hs2⟩, rfl, hb2⟩
                     case rest =>
                       obtain ⟨rfl, rfl, ⟨a2, c2, rfl, hs2⟩, rfl, hb2⟩ := hcut
                       obtain ⟨g2, off2, rfl, hgl2, hgc2⟩ : ∃ b off, a2 = some ⟨b, off, none⟩ /\ b < wc.heap.size /\ wc.cell? ⟨b, off, none⟩ = some (.string ⟨⟨u⟩⟩) := by
                         rcases hs2.2 with h | ⟨b, off, rfl, hlt, hc⟩
                         . cases h
                         . exact ⟨b, off, rfl, hlt, hc 0 u rfl⟩
                       have hsz2 := hb2.size
                       have HG2 := Hq (fun (d : Nat) (os : Array Obj) => below_regrown wc d os)
                       obtain ⟨k2, k0, k1⟩ := HS1.out _ hb2
                       have hwl2 := Nat.lt_of_lt_of_le hwl hsz2
                       have hgl0 := Nat.lt_of_lt_of_le hgl hsz2
                       have gt0 := fun (d : Nat) (os : Array Obj) => ((HG2.out d os).cell (p := ⟨g, off, none⟩) hgl0).trans k0
                       have gc2 := fun (d : Nat) (os : Array Obj) => ((HG2.out d os).cell (p := ⟨w.heap.size, 2, none⟩) hwl2).trans k2
                       have gu := fun (d : Nat) (os : Array Obj) => ((HG2.out d os).cell (p := ⟨g2, off2, none⟩) hgl2).trans hgc2
                       have HB2X := Hq (HMB.out _ hb2)
                       have HPUT := Hq (fun w => show Calls Tryz.prog 59 #[.string ⟨⟨t0⟩⟩, .int .i64 h.a, .string ⟨⟨u⟩⟩] w fun e w' => e = .returned (.tuple #[.string ⟨⟨(zex t0 h.a u).2⟩⟩, z59 (zex t0 h.a u).1]) /\ Below w.heap.size w w' from zqt t0 (by omega) h.a u hul w)
                       clear hb2 hs2
                       generalize zex t0 h.a u = q at *
                       go_upto_region 30 with fail
                       refine wp_region_quiet_below (by kernel_rfl) (by kernel_rfl) ?_
                       repeat (first | go_big_quiet_step (exact Calls.regrown_of (HPUT.out _)) | quiet_step (exact Calls.regrown_of (HPUT.out _)))
                       refine wpQuiet_nil ?_
                       intro _ hw'
                       obtain ⟨⟨dq, osq⟩, hw''⟩ := hw'
                       subst hw''
                       have HBQ := Hq (zc HB2X.out (HG2.out dq osq))
                       go_wp2_with fail
                       go_ret2
                       exact ⟨by rw [HR3.out]; rfl, HBQ.out⟩
                   . have HFN := Hq (show ∀ w, Calls Tryz.prog 57 #[.string ⟨⟨t0⟩⟩, .string ⟨⟨t1⟩⟩, .int .i64 h.a, .int .i64 1] w (fun e w' => e = .returned (.tuple #[.slice none 0 0, zby r.1]) /\ Below w.heap.size w w') from fun w => (HFM.out w).mono (fun e w' hq => by
                       rcases hq with ⟨hb, ⟨_, he⟩ | ⟨h1, _⟩⟩
                       . exact ⟨he, hb⟩
                       . exact absurd h1 hr0))
                     have HR3 := Hq (show h.typed = (r.1, []) by rw [HR2.out, if_pos hr0])
                     have HZ3 := Hq (zed hr0)
                     clear HFM HR2 hr0 hl1 hl2
                     go_upto_region 27 with fail
                     go_cut [1, 6, 14] (fun s1 s6 s12 wx => s1 = .pointer (some ⟨w.heap.size, 0, none⟩) /\ s6 = .slice (some ⟨g, off, none⟩) 2 C /\ s12 = zby r.1 /\ Below wr.heap.size wr wx)
                     case first =>
                       go_region_held3 (fun W' => W'.cell? ⟨w.heap.size, 2, none⟩ = some (.int .i64 h.a) /\ W'.cell? ⟨g, off, none⟩ = some (.string ⟨⟨t0⟩⟩) /\ W'.cell? ⟨g, off + 1, none⟩ = some (.string ⟨⟨t1⟩⟩))
                         (exact HS1.out _ (by repeat (first | exact hb2 | exact hb0 | refine Below.drew ?_)))
                         ((go_at_call 57
                           refine (HFN.out _).mono ?_
                           rintro e w2 ⟨rfl, hb2c⟩
                           have hb2 : Below wr.heap.size wr w2 := (Below.drew hb0).trans hb2c))
                       all_goals
                         go_wp2_with fail
                         go_meet
                         exact ⟨rfl, rfl, rfl, hb2⟩
                     case rest =>
                       obtain ⟨rfl, rfl, rfl, hb2⟩ := hcut
                       have HB2X := Hq (HMB.out _ hb2)
                       clear hb2
                       go_wp2_with fail
                       go_ret2
                       exact ⟨by rw [HR3.out, HZ3.out]; rfl, HB2X.out⟩
       . have HR := Hq (show h.typed = (8, []) by rw [HT2.out, if_pos hln])
         have hl1 : ((h.subs.length : Int) != (n : Int)) = true := by simp; omega
         have hl2 : (h.subs.length != n) = true := by simp; omega
         have hl3 : (h.subs.length == n) = false := by rw [beq_eq_false_iff_ne]; exact hln
         have hl4 : ((h.subs.length : Int) == (n : Int)) = false := by rw [beq_eq_false_iff_ne]; omega
         clear hln
         go_wp2_with fail
         go_ret2
         exact ⟨by rw [HR.out]; rfl, HB2.out⟩
noncomputable def zjl (h : Hd) : Int × List UInt8 := if 30 < h.size then (4, []) else h.typed
def sizeN (h : Hd) : Int := (h.size : Int)
noncomputable def sizeF (h : Hd) : Int := if (zjl h).1 ≠ 0 then 0 else (h.size : Int)
theorem zve {h : Hd} : (zjl h).1 = 0 ↔ h.size <= 30 /\ h.typed.1 = 0 := by
 unfold zjl
 split
 . constructor
   . intro h; exact absurd h (by decide)
   . intro h; omega
 . constructor
   . intro h; exact ⟨by omega, h⟩
   . intro h; exact h.2
theorem zvh {w0 : World} {h : Hd} (H : zh0 w0 h) (w : World) (hb : Below w0.heap.size w0 w) : Calls Tryz.prog 14 #[hdV h] w (zg0 w (zjl h)) := by
 have HC := Hq (fun w' (hb : Below w0.heap.size w0 w') => zth H 30 30 w' rfl (by omega) hb)
 have HT := Hq (fun w' (hb : Below w0.heap.size w0 w') => zqa H w' hb)
 have HB := Hq hb
 have hs0 := hb.size
 unfold hdV at *
 have hbox : zi7 (w.alloc (.cells #[.int .i64 h.kind, .string ⟨⟨h.ty⟩⟩, .int .i64 h.a, .slice h.pa h.pos.length h.pc, .slice h.sa h.subs.length h.sc] 25)) w.heap.size h := zg _ _ _ _ rfl
 have hal : Below w.heap.size w (w.alloc (.cells #[.int .i64 h.kind, .string ⟨⟨h.ty⟩⟩, .int .i64 h.a, .slice h.pa h.pos.length h.pc, .slice h.sa h.subs.length h.sc] 25)) := ze (Below.refl _ _) _
 have HX := Hq hbox
 have HAL := Hq hal
 have HBA := Hq (hb.trans (hal.mono hs0))
 clear hb hbox hal H
 by_cases h30 : 30 < h.size
 . have HR := Hq (show zjl h = (4, []) by unfold zjl; rw [if_pos h30])
   have hN : zrx 30 h.size = 31 := by unfold zrx; omega
   rw [hN] at HC
   clear h30 hN HT
   go_enter Tryz.func14, Tryz.ntmps14
   go_wp2_with fail
   refine (HC.out _ HBA.out).mono ?_
   rintro e w1 ⟨rfl, hb1⟩
   have HB1 := Hq (zc HAL.out hb1)
   clear hb1
   go_wp2_with fail
   go_ret2
   exact ⟨by rw [HR.out]; rfl, HB1.out⟩
 . have HR := Hq (show zjl h = h.typed by unfold zjl; rw [if_neg h30])
   have hN : zrx 30 h.size = h.size := by unfold zrx; omega
   rw [hN] at HC
   generalize h.size = n at *
   clear hN
   unfold zg0 at HT
   go_enter Tryz.func14, Tryz.ntmps14
   go_wp2_with fail
   refine (HC.out _ HBA.out).mono ?_
   rintro e w1 ⟨rfl, hb1⟩
   have HB1 := Hq (zc HAL.out hb1)
   have HBB := Hq (HBA.out.trans (hb1.mono (by simp; omega)))
   obtain ⟨e0, e1, e2, e3, e4⟩ := (HX.out.below hb1).cells
   clear hb1
   go_wp2_with fail
   refine (HT.out _ HBB.out).mono ?_
   rintro e w2 ⟨rfl, hb2⟩
   have HB2 := Hq (zc HB1.out hb2)
   clear hb2
   generalize h.typed = r at *
   go_wp2_with fail
   go_ret2
   exact ⟨by rw [HR.out]; rfl, HB2.out⟩
open Go.ChangeShapes Go.WideShapes Go.Deep
section
variable {H : Type} {enc : TypeId × Value -> H} {W : World}
theorem zxy {t : TypeId} (ht : Tryz.prog.underlying t = some .string) {fuel : Nat} {c : Value} {y : DataW H × List MemPlace} (h : DataW.trod enc Tryz.prog W 0 (fun _ => true) true fuel t [c] = some y) : ∃ l : List UInt8, c = .string ⟨⟨l⟩⟩ /\ Rows.uptoBulk y.1 = l.length + 1 := by
 obtain ⟨s, h1, rfl, h3⟩ := DataW.trod_string ht h
 obtain ⟨⟨l⟩⟩ := s
 exact ⟨l, by simpa using h1, rfl⟩
theorem zu0 {t : TypeId} (ht : Tryz.prog.underlying t = some (.int .i64)) {fuel : Nat} {c : Value} {y : DataW H × List MemPlace} (h : DataW.trod enc Tryz.prog W 0 (fun _ => true) true fuel t [c] = some y) : ∃ n : Int, c = .int .i64 n /\ -9223372036854775808 <= n /\ n <= 9223372036854775807 := by
 obtain ⟨n, h1, rfl, h3⟩ := DataW.trod_int ht h
 exact ⟨n, by simpa using h1, by simpa [Lit.wf, IntKind.min, IntKind.max, IntKind.signed, IntKind.bits] using h3⟩
theorem zgp {t e : TypeId} {size : Nat} {fuel : Nat} (ht : Tryz.prog.underlying t = some (.slice e)) (hC : Tryz.prog.cellsOf e = size) (hs : 0 < size) {α : Type} (R : α -> List Value -> DataW H -> Prop)
   (hel : ∀ n, n < fuel -> ∀ cs d p, DataW.trod enc Tryz.prog W 0 (fun _ => true) true n e cs = some (d, p) -> cs.length = size -> ∃ x, R x cs d) {cs0 : List Value} {d : DataW H} {p : List MemPlace}
   (h : DataW.trod enc Tryz.prog W 0 (fun _ => true) true fuel t cs0 = some (d, p)) : ∃ a cap L, cs0 = [.slice a L.length cap] /\ L.length <= cap /\ z3y W size a cap R L d := by
 rcases DataW.trod_slice ht h with ⟨rfl, hx⟩ | ⟨a, len, cap, elems, rest, n, hfu, rfl, hx, _, hlc, _, hlen, hi, _, _⟩
 . simp only [Prod.mk.injEq] at hx
   exact ⟨none, 0, [], rfl, by simp, by simp, by simp, Or.inl rfl⟩
 . simp only [Prod.mk.injEq] at hx
   obtain ⟨rfl, _⟩ := hx
   have hex : ∀ i, i < len -> ∃ x : α, ∃ cs y, elems[i]? = some y /\ R x cs y.1 /\ W.cells? 0 (a.add (i * size)) size = some cs := by
     intro i hil
     have h1 := hi i hil
     obtain ⟨y, hy⟩ : ∃ y, elems[i]? = some y := ⟨_, List.getElem?_eq_getElem (by omega)⟩
     rw [hy, Option.bind_eq_some_iff] at h1
     obtain ⟨cs, hc, h2⟩ := h1
     rw [hC] at hc
     obtain ⟨x, hx⟩ := hel n (by omega) cs y.1 y.2 h2 (World.cells?_some hc).2.1
     exact ⟨x, cs, y, hy, hx, hc⟩
   obtain ⟨L, hL, hp⟩ := zia len hex
   refine ⟨some a, cap, L, by rw [hL], by omega, by omega, ?_, ?_⟩
   . have := bulk_slice (elems.map (·.1)) (rest.map (·.1))
     simp only [List.length_map] at this
     omega
   . by_cases h0 : len = 0
     . exact Or.inl (List.eq_nil_of_length_eq_zero (by omega))
     right
     obtain ⟨x0, hx0⟩ : ∃ x, L[0]? = some x := ⟨_, List.getElem?_eq_getElem (by omega)⟩
     obtain ⟨cs, _, _, _, hc0⟩ := hp 0 x0 hx0
     obtain ⟨_, hl0, hat⟩ := World.cells?_some hc0
     obtain ⟨u, hu⟩ : ∃ u, cs[0]? = some u := ⟨_, List.getElem?_eq_getElem (by omega)⟩
     have hcell := hat 0 hs
     rw [hu] at hcell
     obtain ⟨b, off, spot⟩ := a
     have hspot : spot = none := by simpa [Addr.add] using World.cell?_spot hcell
     subst hspot
     refine ⟨b, off, rfl, ?_, fun k x hk => ?_⟩
     . have := World.block_lt_of_cell? W _ hcell
       simpa [Addr.add] using this
     . obtain ⟨cs, y, hy, hR, hc⟩ := hp k x hk
       obtain ⟨_, hlk, hatk⟩ := World.cells?_some hc
       refine ⟨cs, y.1, hR, ?_, fun j u hj => ?_⟩
       . have h1 : y.1 ∈ elems.map (·.1) := List.mem_map.2 ⟨y, List.mem_of_getElem? hy, rfl⟩
         have h2 := bulk_part h1
         simp only [Rows.uptoBulk]
         omega
       . have hjl : j < size := by have := (List.getElem?_eq_some_iff.1 hj).1; omega
         have h1 := hatk j hjl
         rw [hj] at h1
         rw [zk2, zk2] at h1
         exact h1
theorem z3e {α : Type} : ∀ {l : List α}, l.length = 5 -> ∃ a b c d e, l = [a, b, c, d, e]
 | [a, b, c, d, e], _ => ⟨a, b, c, d, e, rfl⟩
theorem zpe : Tryz.prog.cellsOf 3 = 1 := by kernel_rfl
theorem z5c : Tryz.prog.cellsOf 9 = 1 := by kernel_rfl
theorem z28 : Tryz.prog.cellsOf 22 = 1 := by kernel_rfl
theorem z5m : Tryz.prog.cellsOf 23 = 1 := by kernel_rfl
theorem z4a : Tryz.prog.cellsOf 25 = 5 := by kernel_rfl
def HdIs (W : World) (h : Hd) (cs : List Value) (d : DataW H) : Prop := cs = zc3 h /\ (Rows.uptoBulk d <= 1048576 -> zh0 W h)
def z8o (x : Int) (cs : List Value) (_ : DataW H) : Prop := cs = [.int .i64 x]
theorem z4l : ∀ (fuel : Nat) (cs : List Value) (d : DataW H) (p : List MemPlace), DataW.trod enc Tryz.prog W 0 (fun _ => true) true fuel 25 cs = some (d, p) -> cs.length = 5 -> ∃ h, HdIs W h cs d := by
 intro fuel
 induction fuel using Nat.strongRecOn with
 | _ fuel ih =>
   intro cs d p h hl
   obtain ⟨ys, n, hfu, hx, _, hyl, hf⟩ := DataW.trod_struct Tryz.underlying25 h
   simp only [Prod.mk.injEq] at hx
   obtain ⟨rfl, _⟩ := hx
   obtain ⟨c0, c1, c2, c3, c4, rfl⟩ := z3e hl
   obtain ⟨y0, _, m0, h0⟩ := zgt hyl hf 0 _ rfl rfl zpe c0 rfl
   obtain ⟨y1, _, m1, h1⟩ := zgt hyl hf 1 _ rfl rfl z5c c1 rfl
   obtain ⟨y2, _, m2, h2⟩ := zgt hyl hf 2 _ rfl rfl zpe c2 rfl
   obtain ⟨y3, _, m3, h3⟩ := zgt hyl hf 3 _ rfl rfl z28 c3 rfl
   obtain ⟨y4, _, m4, h4⟩ := zgt hyl hf 4 _ rfl rfl z5m c4 rfl
   obtain ⟨k, rfl, hk⟩ := zu0 Tryz.underlying3 h0
   obtain ⟨ty, rfl, b1⟩ := zxy Tryz.underlying9 h1
   obtain ⟨a, rfl, ha⟩ := zu0 Tryz.underlying3 h2
   obtain ⟨pa, pc, pos, e3, hpc, hbp, hpl⟩ := zgp Tryz.underlying22 zpe (by decide) (z8o (H := H)) (fun n _ cs d p h hl => by
     match cs, hl with
     | [c], _ => obtain ⟨x, rfl, _⟩ := zu0 Tryz.underlying3 h; exact ⟨x, rfl⟩) (d := y3.1) (p := y3.2) h3
   obtain ⟨sa, sc, subs, e4, hsc, hbs, hsl⟩ := zgp Tryz.underlying23 z4a (by decide) (HdIs (H := H) W) (fun m hm cs d p h hl => ih m (by omega) cs d p h hl) (d := y4.1) (p := y4.2) h4
   simp only [List.cons.injEq, and_true] at e3 e4
   subst e3
   subst e4
   have g1 := zo9 m1
   have g3 := zo9 m3
   have g4 := zo9 m4
   refine ⟨.mk k ty a pos pa pc subs sa sc, rfl, fun hb => ⟨_, ?_, ?_, ?_, ?_, ?_, hk, ha, ?_⟩⟩
   . refine ⟨by rw [List.length_map]; exact hpc, ?_⟩
     rcases hpl.2 with h | ⟨b, off, rfl, hlt, hc⟩
     . left; show pos.map _ = []; rw [h]; rfl
     . refine Or.inr ⟨b, off, rfl, hlt, fun j x hj => ?_⟩
       rw [List.getElem?_map] at hj
       change Option.map _ pos[j]? = _ at hj
       cases hz : pos[j]? with
       | none => rw [hz] at hj; cases hj
       | some z =>
         rw [hz] at hj
         simp only [Option.map_some, Option.some.injEq] at hj
         subst hj
         obtain ⟨cs, d', hR, _, hcell⟩ := hc j z hz
         subst hR
         have := hcell 0 _ rfl
         simpa using this
   . refine ⟨by rw [List.length_map]; exact hsc, ?_⟩
     rcases hsl.2 with h | ⟨b, off, rfl, hlt, hc⟩
     . left; show subs.map _ = []; rw [h]; rfl
     . refine Or.inr ⟨b, off, rfl, hlt, fun j x hj => ?_⟩
       rw [List.getElem?_map] at hj
       change Option.map _ subs[j]? = _ at hj
       cases hz : subs[j]? with
       | none => rw [hz] at hj; cases hj
       | some z =>
         rw [hz] at hj
         simp only [Option.map_some, Option.some.injEq] at hj
         subst hj
         obtain ⟨cs, d', ⟨rfl, _⟩, _, hcell⟩ := hc j z hz
         exact hcell
   . show ty.length <= _; omega
   . show subs.length <= _; omega
   . show pos.length <= _; omega
   . intro s hs
     change s ∈ subs at hs
     obtain ⟨j, hj⟩ := List.getElem?_of_mem hs
     rcases hsl.2 with h | ⟨b, off, rfl, hlt, hc⟩
     . rw [h] at hs; cases hs
     . obtain ⟨cs, d', ⟨_, hR⟩, hle, _⟩ := hc j s hj
       exact hR (by omega)
theorem z1c {r : Reach} {base : Nat} {v : Value} {d : DataW H} {p : List MemPlace} (hv : Value.okWide Tryz.prog W r base 25 v) (h : DataW.Trod enc Tryz.prog W 0 (fun _ => true) true 25 v d p) :
   ∃ x : Hd, v = hdV x /\ (Rows.uptoBulk d <= 1048576 -> zh0 W x) := by
 obtain ⟨cs, rfl, hsz⟩ := okWide_struct Tryz.underlying25 hv
 obtain ⟨l⟩ := cs
 obtain ⟨fuel, hf⟩ := h
 have hf' : DataW.trod enc Tryz.prog W 0 (fun _ => true) true fuel 25 l = some (d, p) := hf
 have hl : l.length = 5 := by rw [<- z4a]; exact hsz
 obtain ⟨x, rfl, hx⟩ := z4l fuel l d p hf' hl
 exact ⟨x, rfl, hx⟩
end
end Go.Proofs.YtbnkckjdgpiggaaGreatDoor
