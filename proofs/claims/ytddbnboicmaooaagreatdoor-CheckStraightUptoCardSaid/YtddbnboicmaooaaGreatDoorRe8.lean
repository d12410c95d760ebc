import Derived.Test.YtddbnboicmaooaaGreatDoorRe7
namespace Go.Proofs.YtddbnboicmaooaaGreatDoor
set_option maxRecDepth 100000
set_option maxHeartbeats 16000000
set_option linter.unusedVariables false
set_option linter.unusedSimpArgs false
open Go.RowKit Go.Shelf Go.Lib
theorem rin_calls (A : List Nm) (x : Nm) (a : Option Addr) (c : Nat) (w : World) (h : SRow w a c A) (hl : A.length ≤ 200000000) :
   Calls Tryz.prog 79 #[.slice a A.length c, .string ⟨⟨x⟩⟩] w fun e w' => e = .returned (.bool (A.contains x)) ∧ w = w' := by
 generalize hR : A.contains x = R
 have HR := Hd hR
 have HS := Hd h
 clear h hR
 go_enter Tryz.func79, Tryz.ntmps79
 go_wp2_with fail
 go_loopw [5] (fun i wr => ∃ k : Nat, k ≤ A.length ∧ i = .int .i64 k ∧ wr = w ∧ Hid (∀ y ∈ A.take k, (y == x) = false)) (fun i _ => A.length - (RowKit.intOf i).toNat)
 case atStart => exact ⟨0, by omega, rfl, rfl, Hd (by simp)⟩
 case round =>
   obtain ⟨k, hk, rfl, rfl, HZ⟩ := hrel
   by_cases hlk : k < A.length
   · obtain ⟨t, ht⟩ : ∃ t, A[k]? = some t := ⟨_, List.getElem?_eq_getElem hlk⟩
     obtain ⟨b, off, rfl, _, c1⟩ := strs_cell HS.out ht
     have HT := Hd ht
     clear ht
     cases he : t == x with
     | true =>
       have HE := Hd (show R = true by rw [← HR.out, List.contains_iff_mem]; have := eq_of_beq he; rw [← this]; exact List.mem_of_getElem? HT.out)
       go_wp2_with fail
       go_ret
       exact ⟨by rw [HE.out]; rfl, rfl⟩
     | false =>
       have HZ2 := Hd (take_all_succ (P := fun y => (y == x) = false) HZ.out HT.out he)
       go_wp2_with fail
       go_roundw
       case rel => exact ⟨k + 1, by omega, by go_num, trivial, HZ2⟩
       case measure => simp [RowKit.intOf]; omega
   · obtain rfl : k = A.length := by omega
     have HE := Hd (show R = false by
       rw [← HR.out]
       have h1 := HZ.out
       rw [List.take_length] at h1
       cases hc : A.contains x with
       | false => rfl
       | true =>
         rw [List.contains_iff_mem] at hc
         have := h1 x hc
         simp at this)
     go_wp2_with fail
     go_ret
     exact ⟨by rw [HE.out]; rfl, rfl⟩
theorem srow_take {w : World} {a : Option Addr} {cap : Nat} {A : List Nm} (h : SRow w a cap A) (k : Nat) : SRow w a cap (A.take k) := by
 obtain ⟨h1, h2⟩ := h
 refine ⟨by rw [List.length_take]; omega, ?_⟩
 rcases h2 with rfl | ⟨b, off, rfl, hlt, hc⟩
 · exact Or.inl (by simp)
 · refine Or.inr ⟨b, off, rfl, hlt, fun j x hx => hc j x ?_⟩
   rw [List.getElem?_take] at hx
   split at hx
   · exact hx
   · cases hx
theorem get_take {α : Type} {l : List α} {k j : Nat} {x : α} (h : (l.take k)[j]? = some x) : l[j]? = some x := by
 rw [List.getElem?_take] at h
 split at h
 · exact h
 · cases h
theorem rows_take {w : World} {size : Nat} {a : Option Addr} {cap : Nat} {L : List (List Value)} (h : RowsAt w size a cap L) (k : Nat) : RowsAt w size a cap (L.take k) := by
 obtain ⟨h1, h2⟩ := h
 refine ⟨by rw [List.length_take]; omega, ?_⟩
 rcases h2 with rfl | ⟨b, off, rfl, hlt, hc⟩
 · exact Or.inl (by simp)
 · exact Or.inr ⟨b, off, rfl, hlt, fun j cs hj => hc j cs (get_take hj)⟩
theorem zw_take {α β γ : Type} (f : α → β → γ) (A : List α) (B : List β) (k : Nat) : List.zipWith f (A.take k) (B.take k) = (List.zipWith f A B).take k := by
 rw [List.take_zipWith]
theorem meths_take {w : World} {a : Option Addr} {cap : Nat} {l : List MethR} {ps : List MAddr} (h : MethsAt w a cap l ps) (k : Nat) : MethsAt w a cap (l.take k) (ps.take k) := by
 obtain ⟨h1, h2, h3⟩ := h
 refine ⟨by simp [h1], ?_, fun j m p hm hp => h3 j m p (get_take hm) (get_take hp)⟩
 rw [zw_take]
 exact rows_take h2 k
theorem classes_take {w : World} {a : Option Addr} {cap : Nat} {l : List ClassR} {ps : List CAddr} (h : ClassesAt w a cap l ps) (k : Nat) : ClassesAt w a cap (l.take k) (ps.take k) := by
 obtain ⟨h1, h2, h3⟩ := h
 refine ⟨by simp [h1], ?_, fun j m p hm hp => h3 j m p (get_take hm) (get_take hp)⟩
 rw [zw_take]
 exact rows_take h2 k
def ClF (c : ClassR) (w : World) (e : Ending) (w' : World) : Prop := (∃ n : Int, e = .returned (.int .i64 n) ∧ (n = 0 → c.faces.length ≤ 8)) ∧ Below w.heap.size w w'
def Kept (w : World) (g : Nat) (T : TypeId) (arr : Array Value) (W : World) : Prop := Below w.heap.size w W ∧ Blk W g T arr
theorem Kept.below {w : World} {g : Nat} {T : TypeId} {arr : Array Value} {W W' : World} (h : Kept w g T arr W) (hb : Below W.heap.size W W') : Kept w g T arr W' := ⟨bl_trans h.1 hb, h.2.below hb⟩
theorem classFault_calls (c : ClassR) (p : CAddr) (w : World) (hC : ClassAt w c p) (hB : ClassB c) :
   Calls Tryz.prog 76 #[classV c p] w (ClF c w) := by
 have HC := Hd hC
 have HCB := Hd hB
 have HN := Hd (fun s W => rname_calls s W)
 have hfl := hB.faces
 have hgl := hB.fields
 have hml := hB.meths
 obtain ⟨w1, hw1⟩ : ∃ w1, w1 = w.alloc (.cells (cArr (c, p)) 50) := ⟨_, rfl⟩
 obtain ⟨KP, hKP⟩ : ∃ KP, KP = Kept w w.heap.size 50 (cArr (c, p)) := ⟨_, rfl⟩
 have HK1 := Hd (show KP w1 by rw [hKP, hw1]; exact ⟨bl_alloc (Below.refl _ _) _, blk_new _ _ _ _ rfl⟩)
 have HKB := Hd (show ∀ W W', KP W → Below W.heap.size W W' → KP W' by rw [hKP]; exact fun W W' h hb => h.below hb)
 have HKL := Hd (show ∀ W, KP W → Below w.heap.size w W by rw [hKP]; exact fun W h => h.1)
 have HKC := Hd (show ∀ W, KP W → W.cell? ⟨w.heap.size, 0, none⟩ = some (.string ⟨⟨c.nm⟩⟩) ∧ W.cell? ⟨w.heap.size, 1, none⟩ = some (.string ⟨⟨c.sup⟩⟩) ∧ W.cell? ⟨w.heap.size, 2, none⟩ = some (.slice p.fa c.faces.length p.fc) ∧ W.cell? ⟨w.heap.size, 3, none⟩ = some (.bool c.face) ∧
   W.cell? ⟨w.heap.size, 4, none⟩ = some (.slice p.ga c.fields.length p.gc) ∧ W.cell? ⟨w.heap.size, 5, none⟩ = some (.slice p.ma c.meths.length p.mc) ∧ w.heap.size < W.heap.size by
   rw [hKP]
   exact fun W h => ⟨h.2.cell 0, h.2.cell 1, h.2.cell 2, h.2.cell 3, h.2.cell 4, h.2.cell 5, h.2.lt⟩)
 have HE0 := Hd (show ∀ (n : Int) W, n ≠ 0 → KP W → ClF c w (.returned (.int .i64 n)) W from fun n W h hk => ⟨⟨n, rfl, fun e => absurd e h⟩, HKL.out W hk⟩)
 unfold cArr at hw1
 unfold classV
 clear hC hB hKP
 go_enter Tryz.func76, Tryz.ntmps76
 go_upto_region 1 with fail
 rw [← hw1]
 clear hw1
 obtain ⟨g0, g1, g2, g3, g4, g5, g8⟩ := HKC.out _ HK1.out
 go_wp2_with fail
 refine (HN.out _ _).mono ?_
 rintro e w2 ⟨rfl, hb2⟩
 have HK2 := Hd (HKB.out _ _ HK1.out hb2)
 clear g0 g1 g2 g3 g4 g5 g8 hb2
 obtain ⟨g0, g1, g2, g3, g4, g5, g8⟩ := HKC.out _ HK2.out
 cases nameOk c.nm with
 | false =>
   go_wp2_with fail
   go_ret
   exact HE0.out 1 _ (by decide) HK2.out
 | true =>
 by_cases hsup : c.sup = []
 case' pos =>
   have HK3 := HK2
   go_wp2_with fail
 case' neg =>
   have q1 : (!c.sup.isEmpty) = true := by cases hh : c.sup with | nil => exact absurd hh hsup | cons a b => rfl
   go_wp2_with fail
   refine (HN.out _ _).mono ?_
   rintro e w3 ⟨rfl, hb3⟩
   have HK3 := Hd (HKB.out _ _ HK2.out hb3)
   clear g0 g1 g2 g3 g4 g5 g8 hb3
   obtain ⟨g0, g1, g2, g3, g4, g5, g8⟩ := HKC.out _ HK3.out
   cases nameOk c.sup
   · go_wp2_with fail
     go_ret
     exact HE0.out 1 _ (by decide) HK3.out
   go_wp2_with fail
   clear q1
 all_goals
   clear hsup
   go_loopw [3] (fun i wr => ∃ k : Nat, k ≤ c.faces.length ∧ i = .int .i64 k ∧ KP wr) (fun i _ => c.faces.length - (RowKit.intOf i).toNat)
   case atStart => exact ⟨0, by omega, rfl, HK3.out⟩
   case round =>
     obtain ⟨k, hk, rfl, hkr⟩ := hrel
     have HKr := Hd hkr
     have i0 : (0 : Int) ≤ k := Int.natCast_nonneg _
     have hwr : wrap64 ((k : Int) + 1) = (k : Int) + 1 := IntWalk.wrap64_in _ (by omega)
     have HBr := Hd (HKL.out _ hkr)
     clear g0 g1 g2 g3 g4 g5 g8 HK3
     obtain ⟨g0, g1, g2, g3, g4, g5, g8⟩ := HKC.out _ hkr
     clear hkr
     by_cases he : k < c.faces.length
     · have i1 : (k : Int) < c.faces.length := by omega
       obtain ⟨x, hx⟩ : ∃ x, c.faces[k]? = some x := ⟨_, List.getElem?_eq_getElem he⟩
       obtain ⟨b, off, hfa, hlt, c0⟩ := strs_cell (HC.out.1.below HBr.out) hx
       rw [hfa] at g2
       have HFA := Hd hfa
       clear hx hfa
       go_wp2_with fail
       refine (HN.out _ _).mono ?_
       rintro e w4 ⟨rfl, hb4⟩
       have HK4 := Hd (HKB.out _ _ HKr.out hb4)
       have c0 := (hb4.cell (p := ⟨b, off + k, none⟩) hlt).trans c0
       have hlt4 := Nat.lt_of_lt_of_le hlt hb4.size
       clear g0 g1 g2 g3 g4 g5 g8 hb4
       obtain ⟨g0, g1, g2, g3, g4, g5, g8⟩ := HKC.out _ HK4.out
       rw [HFA.out] at g2
       cases nameOk x with
       | false =>
         go_wp2_with fail
         go_ret
         exact HE0.out 1 _ (by decide) HK4.out
       | true =>
         have HIN := Hd (fun W (hw : Below w.heap.size w W) => rin_calls (c.faces.take k) x p.fa p.fc W (srow_take (HC.out.1.below hw) k) (by rw [List.length_take]; omega))
         rw [show (c.faces.take k).length = k by rw [List.length_take]; omega, HFA.out] at HIN
         have h4 := HKL.out _ HK4.out
         have hcap : (k : Int) ≤ (p.fc : Int) := by have := HC.out.1.1; omega
         generalize (c.faces.take k).contains x = ct at HIN
         go_upto_region 8 with fail
         go_quiet (exact (HIN.out _ (below_dn h4 _)).mono (fun e w1 h => by obtain ⟨rfl, rfl⟩ := h; exact ⟨rfl, _, rfl⟩))
         clear h4 hcap HIN g0 g1 g2 g3 g4 g5 g8
         cases ct with
         | true =>
           go_wp2_with fail
           go_ret
           exact HE0.out 5 _ (by decide) (HKB.out _ _ HK4.out (below_dn (Below.refl _ _) _))
         | false =>
           go_wp2_with fail
           go_roundw
           case rel =>
             exact ⟨k + 1, by omega, by simp, HKB.out _ _ HK4.out (below_dn (Below.refl _ _) _)⟩
           case measure => simp [RowKit.intOf]; omega
     · obtain rfl : k = c.faces.length := by omega
       clear hk hwr i0
       by_cases h8 : 8 < c.faces.length
       · have i8 : (8 : Int) < c.faces.length := by omega
         go_wp2_with fail
         go_ret
         exact HE0.out 4 _ (by decide) HKr.out
       have i8 : ¬ (8 : Int) < c.faces.length := by omega
       have H8 := Hd (show c.faces.length ≤ 8 by omega)
       by_cases h9 : 8 < c.fields.length
       · have i9 : (8 : Int) < c.fields.length := by omega
         go_wp2_with fail
         go_ret
         exact HE0.out 4 _ (by decide) HKr.out
       have i9 : ¬ (8 : Int) < c.fields.length := by omega
       by_cases h7 : 8 < c.meths.length
       · have i7 : (8 : Int) < c.meths.length := by omega
         go_wp2_with fail
         go_ret
         exact HE0.out 4 _ (by decide) HKr.out
       have i7 : ¬ (8 : Int) < c.meths.length := by omega
       go_wp2_with fail
       clear i8 h8
       go_loopw [4] (fun i wr => ∃ k : Nat, k ≤ c.fields.length ∧ i = .int .i64 k ∧ KP wr) (fun i _ => c.fields.length - (RowKit.intOf i).toNat)
       case atStart => exact ⟨0, by omega, rfl, HKr.out⟩
       case round =>
         obtain ⟨k, hk, rfl, hkr⟩ := hrel
         have HKf := Hd hkr
         have i0 : (0 : Int) ≤ k := Int.natCast_nonneg _
         have hwr : wrap64 ((k : Int) + 1) = (k : Int) + 1 := IntWalk.wrap64_in _ (by omega)
         have HBf := Hd (HKL.out _ hkr)
         clear g0 g1 g2 g3 g4 g5 g8 HKr HBr
         obtain ⟨g0, g1, g2, g3, g4, g5, g8⟩ := HKC.out _ hkr
         clear hkr
         by_cases he : k < c.fields.length
         · have i1 : (k : Int) < c.fields.length := by omega
           obtain ⟨x, hx⟩ : ∃ x, c.fields[k]? = some x := ⟨_, List.getElem?_eq_getElem he⟩
           obtain ⟨b, off, hfa, hlt, c0, c1⟩ := (HC.out.2.1.below HBf.out).cells hx
           rw [hfa] at g4
           have HFA := Hd hfa
           clear hfa
           have HTY := Hd (fun W => rtype_calls x.ty W (HCB.out.tys x (List.mem_of_getElem? hx)))
           have HXX := Hd hx
           clear hx
           go_wp2_with fail
           refine (HN.out _ _).mono ?_
           rintro e w4 ⟨rfl, hb4⟩
           have HK4 := Hd (HKB.out _ _ HKf.out hb4)
           have c1 := (hb4.cell (p := ⟨b, off + k * 2 + 1, none⟩) hlt).trans c1
           have hlt4 := Nat.lt_of_lt_of_le hlt hb4.size
           clear g0 g1 g2 g3 g4 g5 g8 hb4 c0
           obtain ⟨g0, g1, g2, g3, g4, g5, g8⟩ := HKC.out _ HK4.out
           rw [HFA.out] at g4
           cases nameOk x.nm with
           | false =>
             go_wp2_with fail
             go_ret
             exact HE0.out 1 _ (by decide) HK4.out
           | true =>
           go_wp2_with fail
           refine (HTY.out _).mono ?_
           rintro e w5 ⟨⟨bt, hbt, rfl⟩, hb5⟩
           have HK5 := Hd (HKB.out _ _ HK4.out hb5)
           clear hb5 hbt g0 g1 g2 g3 g4 g5 g8 c1 hlt hlt4
           cases bt with
           | false =>
             go_wp2_with fail
             go_ret
             exact HE0.out 1 _ (by decide) HK5.out
           | true =>
           go_wp2_with fail
           go_loopw [5] (fun i wr => ∃ j : Nat, j ≤ k ∧ i = .int .i64 j ∧ KP wr) (fun i _ => k - (RowKit.intOf i).toNat)
           case atStart => exact ⟨0, by omega, rfl, HK5.out⟩
           case round =>
             obtain ⟨j, hj, rfl, hkr⟩ := hrel
             have HKj := Hd hkr
             have j0 : (0 : Int) ≤ j := Int.natCast_nonneg _
             have hwj : wrap64 ((j : Int) + 1) = (j : Int) + 1 := IntWalk.wrap64_in _ (by omega)
             have HBj := Hd (HKL.out _ hkr)
             obtain ⟨g0, g1, g2, g3, g4, g5, g8⟩ := HKC.out _ hkr
             clear hkr
             by_cases hjk : j < k
             · have j1 : (j : Int) < k := by omega
               have j2 : (j : Int) < c.fields.length := by omega
               obtain ⟨y, hy⟩ : ∃ y, c.fields[j]? = some y := ⟨_, List.getElem?_eq_getElem (by omega)⟩
               obtain ⟨b1, off1, hga1, hlt1, c0, _⟩ := (HC.out.2.1.below HBj.out).cells HXX.out
               obtain ⟨b2, off2, hga2, _, d0, _⟩ := (HC.out.2.1.below HBj.out).cells hy
               rw [hga1] at hga2
               simp only [Option.some.injEq, Addr.mk.injEq, and_true] at hga2
               obtain ⟨rfl, rfl⟩ := hga2
               rw [hga1] at g4
               clear hy hga1
               cases q : y.nm == x.nm with
               | true =>
                 go_upto_region 20 with fail
                 go_quiet (fail)
                 go_wp2_with fail
                 go_ret
                 exact HE0.out 5 _ (by decide) (HKB.out _ _ HKj.out (below_dn (Below.refl _ _) _))
               | false =>
                 go_upto_region 20 with fail
                 go_quiet (fail)
                 go_wp2_with fail
                 go_roundw
                 case rel => exact ⟨j + 1, by omega, by simp, HKB.out _ _ HKj.out (below_dn (Below.refl _ _) _)⟩
                 case measure => simp [RowKit.intOf]; omega
             · obtain rfl : j = k := by omega
               go_wp2_with fail
               go_roundw
               case rel =>
                 exact ⟨j + 1, by omega, by simp, HKj.out⟩
               case measure => simp [RowKit.intOf]; omega
         · obtain rfl : k = c.fields.length := by omega
           clear hk hwr i0
           go_wp2_with fail
           go_loopw [6] (fun i wr => ∃ k : Nat, k ≤ c.meths.length ∧ i = .int .i64 k ∧ KP wr) (fun i _ => c.meths.length - (RowKit.intOf i).toNat)
           case atStart => exact ⟨0, by omega, rfl, HKf.out⟩
           case round =>
             obtain ⟨k, hk, rfl, hkr⟩ := hrel
             have HKm := Hd hkr
             have i0 : (0 : Int) ≤ k := Int.natCast_nonneg _
             have hwr : wrap64 ((k : Int) + 1) = (k : Int) + 1 := IntWalk.wrap64_in _ (by omega)
             have HBm := Hd (HKL.out _ hkr)
             clear g0 g1 g2 g3 g4 g5 g8 HKf HBf
             obtain ⟨g0, g1, g2, g3, g4, g5, g8⟩ := HKC.out _ hkr
             clear hkr
             by_cases hem : k < c.meths.length
             · have i1 : (k : Int) < c.meths.length := by omega
               obtain ⟨m, hx⟩ : ∃ m, c.meths[k]? = some m := ⟨_, List.getElem?_eq_getElem hem⟩
               have hcap : (k : Int) ≤ (p.mc : Int) := by have := meths_len HC.out.2.2; omega
               have HMF := Hd (fun W (hw : Below w.heap.size w W) q (hq : p.ps[k]? = some q) => methodFault_calls m q (c.meths.take k) (p.ps.take k) p.ma p.mc W ((HC.out.2.2.2.2 k m q hx hq).below hw) (meths_take (HC.out.2.2.below hw) k) (by rw [List.length_take]; omega) (HCB.out.ms m (List.mem_of_getElem? hx)))
               rw [show (c.meths.take k).length = k by rw [List.length_take]; omega] at HMF
               obtain ⟨b, off, q, hma, hlt, hq, _, d0, d1, d2, d3, d4, d5, d6, d7⟩ := (HC.out.2.2.below HBm.out).cells hx
               have HMW := Hd (fun W (hw : Below w.heap.size w W) => HMF.out W hw q hq)
               rw [hma] at g5 HMW
               unfold methV at HMW
               clear hx HMF hq hma
               go_upto_region 25 with fail
               go_region_with (go_at_call 142; refine (HMW.out _ (by repeat (first | exact HBm.out | refine Below.drew ?_))).mono ?_; rintro e w5 ⟨⟨n, rfl⟩, hb5⟩; have HK5 := Hd (HKB.out _ _ (HKB.out _ _ HKm.out (Below.drew (Below.refl _ _))) hb5); clear hb5)
               all_goals
                 clear hcap HMW d0 d1 d2 d3 d4 d5 d6 d7 g0 g1 g2 g3 g4 g5 g8
                 go_wp2_with fail
                 · go_ret
                   exact HE0.out n _ (by simp_all) HK5.out
                 · go_roundw
                   case rel =>
                     exact ⟨k + 1, by omega, by simp, HK5.out⟩
                   case measure => simp [RowKit.intOf]; omega
             · obtain rfl : k = c.meths.length := by omega
               clear hk hwr i0
               cases hfc : c.face with
               | false =>
                 rw [hfc] at g3
                 go_wp2_with fail
                 go_ret
                 exact ⟨⟨_, rfl, fun _ => H8.out⟩, HBm.out⟩
               | true =>
                 rw [hfc] at g3
                 go_wp2_with fail
                 all_goals (go_ret; exact ⟨⟨_, rfl, fun _ => H8.out⟩, HBm.out⟩)
def univ (l : List ClassR) : List Nm := objN :: l.flatMap (fun c => c.sup :: c.faces)
theorem univ_obj (l : List ClassR) : objN ∈ univ l := by simp [univ]
theorem univ_sup {l : List ClassR} {c : ClassR} (h : c ∈ l) : c.sup ∈ univ l := by
 refine List.mem_cons_of_mem _ (List.mem_flatMap.2 ⟨c, h, by simp⟩)
theorem univ_face {l : List ClassR} {c : ClassR} {f : Nm} (h : c ∈ l) (hf : f ∈ c.faces) : f ∈ univ l := by
 refine List.mem_cons_of_mem _ (List.mem_flatMap.2 ⟨c, h, by simp [hf]⟩)
theorem flat_len : ∀ {l : List ClassR}, (∀ c ∈ l, c.faces.length ≤ 8) → (l.flatMap (fun c => c.sup :: c.faces)).length ≤ 9 * l.length
 | [], _ => by simp
 | c :: l, h => by
   have h1 := h c (by simp)
   have h2 := flat_len (l := l) fun x hx => h x (by simp [hx])
   rw [List.flatMap_cons, List.length_append]
   simp only [List.length_cons]
   omega
theorem univ_len {l : List ClassR} (h : ∀ c ∈ l, c.faces.length ≤ 8) (h10 : l.length ≤ 10) : (univ l).length ≤ 91 := by
 have := flat_len h
 simp only [univ, List.length_cons]
 omega
def OfL (l : List ClassR) (ps : List CAddr) (c : ClassR) (p : CAddr) : Prop := (c, p) = (objC, nilP) ∨ (c, p) = (fltC, nilP) ∨ (c, p) = (zeroK, nilP) ∨ ∃ k : Nat, l[k]? = some c ∧ ps[k]? = some p
def COf (l : List ClassR) (ps : List CAddr) (w : World) (e : Ending) (w' : World) : Prop := Below w.heap.size w w' ∧ ∃ c p bb, e = .returned (.tuple #[classV c p, .bool bb]) ∧ OfL l ps c p
theorem OfL.sup {l : List ClassR} {ps : List CAddr} {c : ClassR} {p : CAddr} (h : OfL l ps c p) : c.sup = [] ∨ c.sup ∈ univ l := by
 rcases h with h | h | h | ⟨k, h1, _⟩
 · cases h; exact Or.inl rfl
 · cases h; exact Or.inr (univ_obj l)
 · cases h; exact Or.inl rfl
 · exact Or.inr (univ_sup (List.mem_of_getElem? h1))
theorem OfL.face {l : List ClassR} {ps : List CAddr} {c : ClassR} {p : CAddr} (h : OfL l ps c p) : ∀ f ∈ c.faces, f ∈ univ l := by
 rcases h with h | h | h | ⟨k, h1, _⟩
 · cases h; intro f hf; simp [objC] at hf
 · cases h; intro f hf; simp [fltC] at hf
 · cases h; intro f hf; simp [zeroK] at hf
 · exact fun f hf => univ_face (List.mem_of_getElem? h1) hf
theorem OfL.row {l : List ClassR} {ps : List CAddr} {c : ClassR} {p : CAddr} {w : World} {a : Option Addr} {cap : Nat} (h : OfL l ps c p) (hC : ClassesAt w a cap l ps) : SRow w p.fa p.fc c.faces := by
 rcases h with h | h | h | ⟨k, h1, h2⟩
 · cases h; exact ⟨Nat.le_refl _, Or.inl rfl⟩
 · cases h; exact ⟨Nat.le_refl _, Or.inl rfl⟩
 · cases h; exact ⟨Nat.le_refl _, Or.inl rfl⟩
 · exact (hC.2.2 k c p h1 h2).1
theorem OfL.len {l : List ClassR} {ps : List CAddr} {c : ClassR} {p : CAddr} (h : OfL l ps c p) (h8 : ∀ c ∈ l, c.faces.length ≤ 8) : c.faces.length ≤ 8 := by
 rcases h with h | h | h | ⟨k, h1, _⟩
 · cases h; simp [objC]
 · cases h; simp [fltC]
 · cases h; simp [zeroK]
 · exact h8 c (List.mem_of_getElem? h1)
theorem rclassOf_calls (l : List ClassR) (ps : List CAddr) (a : Option Addr) (cap : Nat) (n : Nm) (w : World) (hC : ClassesAt w a cap l ps) (hll : l.length ≤ 1048576) :
   Calls Tryz.prog 77 #[.slice a l.length cap, .string ⟨⟨n⟩⟩] w (COf l ps w) := by
 have HB0 := Hd (fun o => (Below.refl w.heap.size w).alloc (Nat.le_refl _) o)
 by_cases h1 : n = objN
 · subst h1
   unfold objN
   clear hC
   go_enter Tryz.func77, Tryz.ntmps77
   go_wp2_with fail
   exact bodyPost_ret (v := .tuple #[classV objC nilP, .bool true]) (by simp [results, Tryz.results77, go_sem, classV, objC, nilP, objN]) rfl ⟨HB0.out _, objC, nilP, true, rfl, Or.inl rfl⟩
 by_cases h2 : n = fltN
 · subst h2
   unfold fltN
   clear hC
   go_enter Tryz.func77, Tryz.ntmps77
   go_wp2_with fail
   exact bodyPost_ret (v := .tuple #[classV fltC nilP, .bool true]) (by simp [results, Tryz.results77, go_sem, classV, fltC, nilP, objN, fltN]) rfl ⟨HB0.out _, fltC, nilP, true, rfl, Or.inr (Or.inl rfl)⟩
 have q1 : (n == [79, 98, 106, 101, 99, 116]) = false := by rw [beq_eq_false_iff_ne]; exact h1
 have q2 : (n == [70, 97, 117, 108, 116]) = false := by rw [beq_eq_false_iff_ne]; exact h2
 have HC := Hd hC
 clear hC h1 h2
 go_enter Tryz.func77, Tryz.ntmps77
 go_wp2_with fail
 go_loopw [6] (fun i wr => ∃ j : Nat, j ≤ l.length ∧ i = .int .i64 j ∧ wr = w.alloc (.cells #[.string ⟨#[]⟩, .string ⟨#[]⟩, .slice none 0 0, .bool false, .slice none 0 0, .slice none 0 0] 50)) (fun i _ => l.length - (RowKit.intOf i).toNat)
 case atStart => exact ⟨0, by omega, rfl, rfl⟩
 case round =>
   obtain ⟨j, hj, rfl, rfl⟩ := hrel
   by_cases hlk : j < l.length
   · obtain ⟨c, hc⟩ : ∃ c, l[j]? = some c := ⟨_, List.getElem?_eq_getElem hlk⟩
     obtain ⟨b1, off, p, rfl, hlt, hp, hcl, d0, d1, d2, d3, d4, d5⟩ := HC.out.cells hc
     have HX := Hd hc
     have HP := Hd hp
     have hj0 : (0 : Int) ≤ (j : Int) := Int.natCast_nonneg _
     have hji : (j : Int) < (l.length : Int) := by omega
     clear hc hp hcl
     cases he : c.nm == n with
     | true =>
       have e1 := eq_of_beq he
       clear he
       subst e1
       go_wp2_with fail
       exact bodyPost_ret (v := .tuple #[classV c p, .bool true]) (by simp [results, Tryz.results77, go_sem, classV]) rfl ⟨HB0.out _, c, p, true, rfl, Or.inr (Or.inr (Or.inr ⟨j, HX.out, HP.out⟩))⟩
     | false =>
       go_wp2_with fail
       go_roundw
       case rel => exact ⟨j + 1, by omega, by go_num, trivial⟩
       case measure => simp [RowKit.intOf]; omega
   · obtain rfl : j = l.length := by omega
     go_wp2_with fail
     exact bodyPost_ret (v := .tuple #[classV zeroK nilP, .bool false]) (by simp [results, Tryz.results77, go_sem, classV, zeroK, nilP]) rfl ⟨HB0.out _, zeroK, nilP, false, rfl, Or.inr (Or.inr (Or.inl rfl))⟩
def AbRes (l : List ClassR) (w : World) (e : Ending) (w' : World) : Prop := Below w.heap.size w w' ∧ ∃ (v : Value) (A : List Nm), e = .returned v ∧ w'.ownsRow w.heap.size 9 1 v A.length (A.map strV) ∧ A.length ≤ 9 ∧ ∀ x ∈ A, x ∈ univ l
theorem rabove_calls (l : List ClassR) (ps : List CAddr) (a : Option Addr) (cap : Nat) (n : Nm) (w : World) (hC : ClassesAt w a cap l ps) (hll : l.length ≤ 1048576) (h8 : ∀ c ∈ l, c.faces.length ≤ 8) :
   Calls Tryz.prog 143 #[.slice a l.length cap, .string ⟨⟨n⟩⟩] w (AbRes l w) := by
 have HCO := Hd (rclassOf_calls l ps a cap n w hC hll)
 have HC := Hd hC
 have H8 := Hd h8
 clear hC h8
 go_enter Tryz.func143, Tryz.ntmps143
 go_wp2_with fail
 refine HCO.out.mono ?_
 rintro e w2 ⟨hb2, c, p, bb, rfl, hof⟩
 have HOF := Hd hof
 have hfl := hof.len H8.out
 have HSR := Hd (hof.row (HC.out.below hb2))
 obtain ⟨w3, hw3⟩ : ∃ w3, w3 = w2.alloc (.cells (cArr (c, p)) 50) := ⟨_, rfl⟩
 have hb3 : Below w2.heap.size w2 w3 := by rw [hw3]; exact bl_alloc (Below.refl _ _) _
 have HX := Hd (show Blk w3 w2.heap.size 50 (cArr (c, p)) by rw [hw3]; exact blk_new _ _ _ _ rfl)
 have HB3 := Hd (bl_trans hb2 hb3)
 have HS3 := Hd (HSR.out.below hb3)
 unfold cArr at hw3 HX
 unfold classV
 clear hof hb2 hb3 HSR
 go_upto_region 3 with fail
 rw [← hw3]
 clear hw3
 have g1 := HX.out.cell 1
 have g2 := HX.out.cell 2
 have g8 := HX.out.lt
 by_cases hs : c.sup = []
 · go_wp2_with (at_builtin; refine wpList_append_src0 rowStr rfl _ _ rfl w.heap.size _ 0 [] rfl ?c0 _ c.faces.length (c.faces.map strV) rfl ?c1 ?c2 ?c3 ?c4 ?_)
   case c0 => exact World.ownsRow_nil _ _ _ _
   case c1 => exact src_of_strs HS3.out
   case c2 => omega
   case c3 => omega
   case c4 => exact HB3.out.size
   intro v4 w4 ho4 hg4
   have HB4 := Hd (HB3.out.grown hg4 HB3.out.size (fun k hk => by simp [Value.ownBlock] at hk))
   have HO4 := Hd (show w4.ownsRow w.heap.size 9 1 v4 c.faces.length (c.faces.map strV) by simpa using ho4)
   clear ho4 hg4 g1 g2 g8 hs
   go_wp2_with fail
   go_ret
   exact ⟨HB4.out, v4, c.faces, rfl, HO4.out, by omega, HOF.out.face⟩
 · have q1 : (!c.sup.isEmpty) = true := by cases hh : c.sup with | nil => exact absurd hh hs | cons a b => rfl
   have HSU := Hd (show c.sup ∈ univ l from HOF.out.sup.resolve_left hs)
   go_wp2_with (at_builtin; refine wpList_append_str rfl _ _ rfl w.heap.size _ 0 [] rfl ?c0 c.sup w3.heap.size rfl rfl ?c2 ?c4 ?_)
   case c0 => exact World.ownsRow_nil _ _ _ _
   case c2 => omega
   case c4 => exact HB3.out.size
   intro g4 cap4 w4 ho4 hg4 _
   have hb4 := (bl_alloc (Below.refl w3.heap.size w3) (.cells #[strV c.sup] 9)).grown hg4 (by simp) (fun k hk => by simp [Value.ownBlock] at hk)
   have HB4 := Hd (bl_trans HB3.out hb4)
   have HS4 := Hd (HS3.out.below hb4)
   have HX4 := Hd (HX.out.below hb4)
   have HO4 := Hd ho4
   have hs4 := HB4.out.size
   clear ho4 hg4 hb4 g1 g2 g8
   have g2 := HX4.out.cell 2
   have g8 := HX4.out.lt
   go_wp2_with (at_builtin; refine wpList_append_src0 rowStr rfl _ _ rfl w.heap.size _ 1 [strV c.sup] rfl ?c0 _ c.faces.length (c.faces.map strV) rfl ?c1 ?c2 ?c3 ?c4 ?_)
   case c0 => exact HO4.out
   case c1 => exact src_of_strs HS4.out
   case c2 => omega
   case c3 => omega
   case c4 => exact hs4
   intro v5 w5 ho5 hg5
   have HB5 := Hd (HB4.out.grown hg5 hs4 (fun k hk => (HO4.out.lt k hk).1))
   have HO5 := Hd (show w5.ownsRow w.heap.size 9 1 v5 (c.sup :: c.faces).length ((c.sup :: c.faces).map strV) by rw [List.length_cons, Nat.add_comm]; exact ho5)
   clear ho5 hg5 g2 g8
   go_wp2_with fail
   go_ret
   exact ⟨HB5.out, v5, c.sup :: c.faces, rfl, HO5.out, by simp; omega, fun x hx => by
     rcases List.mem_cons.1 hx with rfl | hx
     · exact HSU.out
     · exact HOF.out.face x hx⟩
end Go.Proofs.YtddbnboicmaooaaGreatDoor
