/-
  DeskWorlds: the walk of the law, at one way out of its loop.
-/
import Derived.Test.YtfimajijegohmaaGreatDoorDeskW
namespace Go.Proofs.YtfimajijegohmaaGreatDoor
set_option linter.unusedVariables false
set_option linter.unusedSimpArgs false
open Go.RowKit Go.Shelf Go.Lib

set_option maxRecDepth 100000 in
set_option maxHeartbeats 8000000 in
theorem deskWorlds_c (A B : List Nm) (na sa : Option Addr) (nc sc : Nat) (a b : Nm) (w : World) (hA : SRow w na nc A) (hS : SRow w sa sc B) (hF : FormsAt w) (hM : MaxAt w) (hAl : A.length ≤ 1048576) (hBl : B.length ≤ 1048576) (hE : 9 < A.length ∧ 9 < B.length) :
    Calls Tryz.prog 6 #[.slice na A.length nc, .slice sa B.length sc, .string ⟨⟨a⟩⟩, .string ⟨⟨b⟩⟩] w fun e w' => e = .returned (.bool true) ∧ Below w.heap.size w w' := by
  have HA := Lib.hid hA
  have HS := Lib.hid hS
  have HF := Lib.hid (And.intro hF hM)
  have HNC := Lib.hid (fun (x : Nm) (W : World) => name_calls x W)
  clear hA hS hF hM
  go_enter Tryz.func6, Tryz.ntmps6
  go_wp2_with ((first
    | (go_at_call 19
       refine (named_true _).mono ?_
       rintro e w1 ⟨rfl, hb1⟩
       have HB1 := Lib.hid hb1
       clear hb1)))
  go_loopw [10, 11, 12] (fun sv v i wr => ∃ (k : Nat) (s : Nm) (cs : List Cmd) (l : List ClassR) (ps : List CAddr), k ≤ 9 ∧ (k ≤ A.length ∧ k ≤ B.length) ∧ s.length ≤ k * 100 ∧ i = .int .i64 k ∧ sv = .string ⟨⟨s⟩⟩ ∧ Below w.heap.size w wr ∧ Step2 wr w.heap.size v s k cs l ps) (fun _ _ i _ => 9 - (RowKit.intOf i).toNat)
  case atStart => exact ⟨0, [], [], [], [], by omega, by omega, by simp, rfl, rfl, HB1.out, ⟨⟨rfl, fun c hc => by cases hc⟩, (fun c hc => by cases hc), rfl, rfl, rfl, Nat.le_refl _, (fun c hc => by cases hc), ⟨rfl, Or.inl ⟨rfl, rfl⟩⟩⟩⟩
  case round =>
    obtain ⟨k, s, cs, l, ps, hk, hkAB, hsl, rfl, rfl, hb, hst⟩ := hrel
    have HBr := Lib.hid hb
    have HST := Lib.hid hst
    clear hb hst
    by_cases hgo : k < A.length ∧ k < B.length ∧ k < 9
    · obtain ⟨h1, h2, h3⟩ := hgo
      obtain ⟨x, hx⟩ : ∃ x, A[k]? = some x := ⟨_, List.getElem?_eq_getElem h1⟩
      obtain ⟨y, hy⟩ : ∃ y, B[k]? = some y := ⟨_, List.getElem?_eq_getElem h2⟩
      obtain ⟨ab, ao, hna, HAC⟩ : ∃ ab ao, na = some ⟨ab, ao, none⟩ ∧ Hid (ab < w.heap.size ∧ w.cell? ⟨ab, ao + k, none⟩ = some (strV x)) := by
        obtain ⟨_, h | ⟨ab, ao, h, hlt, hc⟩⟩ := HA.out
        · rw [h] at hx; cases hx
        · exact ⟨ab, ao, h, Lib.hid ⟨hlt, hc k x hx⟩⟩
      obtain ⟨sb, so, hsa, HSC⟩ : ∃ sb so, sa = some ⟨sb, so, none⟩ ∧ Hid (sb < w.heap.size ∧ w.cell? ⟨sb, so + k, none⟩ = some (strV y)) := by
        obtain ⟨_, h | ⟨sb, so, h, hlt, hc⟩⟩ := HS.out
        · rw [h] at hy; cases hy
        · exact ⟨sb, so, h, Lib.hid ⟨hlt, hc k y hy⟩⟩
      subst hna hsa
      clear hx hy
      have hcc := fun (W : World) (hW : Below w.heap.size w W) => And.intro ((hW.cell (p := ⟨ab, ao + k, none⟩) HAC.out.1).trans HAC.out.2) ((hW.cell (p := ⟨sb, so + k, none⟩) HSC.out.1).trans HSC.out.2)
      have HCC := Lib.hid hcc
      obtain ⟨c0, c1⟩ := hcc _ HBr.out
      clear hcc
      cases hx : nameOk x with
      | false =>
        have HN1 := Lib.hid (fun W => name_bad ⟨⟨x⟩⟩ W hx)
        clear hx
        go_wp2_with ((first
          | (go_at_call 25
             refine (HN1.out _).mono ?_
             rintro e w2 ⟨rfl, hb2⟩
             have HB2 := Lib.hid (bl_trans HBr.out hb2)
             clear hb2)))
        go_ret
        exact ⟨rfl, HB2.out⟩
      | true =>
        have HN1 := Lib.hid (fun W => name_ok ⟨⟨x⟩⟩ W hx)
        have HX := Lib.hid (name_bytes hx)
        clear hx
        cases hy : nameOk y with
        | false =>
          have HN2 := Lib.hid (fun W => name_bad ⟨⟨y⟩⟩ W hy)
          clear hy
          go_upto_region 10 with ((first
            | (go_at_call 25
               refine (HN1.out _).mono ?_
               rintro e w2 ⟨rfl, hb2⟩
               have HB2 := Lib.hid (bl_trans HBr.out hb2)
               obtain ⟨c2, c3⟩ := HCC.out _ HB2.out
               clear hb2 HN1)
            | (go_at_call 25
               refine (HN2.out _).mono ?_
               rintro e w3 ⟨rfl, hb3⟩
               have HB3 := Lib.hid (bl_trans HB2.out hb3)
               clear hb3)))
          go_wp2_with fail
          go_ret
          exact ⟨rfl, HB3.out⟩
        | true =>
          have HN2 := Lib.hid (fun W => name_ok ⟨⟨y⟩⟩ W hy)
          have HY := Lib.hid (name_bytes hy)
          clear hy
          go_upto_region 11 with ((first
            | (go_at_call 25
               refine (HN1.out _).mono ?_
               rintro e w2 ⟨rfl, hb2⟩
               have HB2 := Lib.hid (bl_trans HBr.out hb2)
               have HR2 := Lib.hid hb2
               obtain ⟨c2, c3⟩ := HCC.out _ HB2.out
               clear hb2 HN1)
            | (go_at_call 25
               refine (HN2.out _).mono ?_
               rintro e w3 ⟨rfl, hb3⟩
               have HB3 := Lib.hid (bl_trans HB2.out hb3)
               have HR3 := Lib.hid (bl_trans HR2.out hb3)
               obtain ⟨c4, c5⟩ := HCC.out _ HB3.out
               clear hb3)))
          clear c0 c1 c2 c3
          have hx20 := HX.out.2
          have hy20 := HY.out.2
          have q1 : ¬ 9223372036854775807 < s.length + 6 := by omega
          have q2 : ¬ 9223372036854775807 < s.length + 6 + x.length := by omega
          have q3 : ¬ 9223372036854775807 < s.length + 6 + x.length + 1 := by omega
          have q4 : ¬ 9223372036854775807 < s.length + 6 + x.length + 1 + y.length := by omega
          have q5 : ¬ 9223372036854775807 < s.length + 6 + x.length + 1 + y.length + 1 := by omega
          have r2 : ¬ 9223372036854775807 < s.length + (6 + x.length) := by omega
          have r3 : ¬ 9223372036854775807 < s.length + (6 + (x.length + 1)) := by omega
          have r4 : ¬ 9223372036854775807 < s.length + (6 + (x.length + (1 + y.length))) := by omega
          have r5 : ¬ 9223372036854775807 < s.length + (6 + (x.length + (1 + (y.length + 1)))) := by omega
          go_region
          obtain ⟨w4, hw4⟩ : ∃ w4, w4 = w3.drew := ⟨_, rfl⟩
          have HB4 := Lib.hid (show Below w.heap.size w w4 by rw [hw4]; exact HB3.out.drew)
          obtain ⟨s', hs'⟩ : ∃ s', s' = s ++ 99 :: 108 :: 97 :: 115 :: 115 :: 32 :: (x ++ 32 :: (y ++ [10])) := ⟨_, rfl⟩
          have hsl' : s'.length ≤ (k + 1) * 100 := by rw [hs']; simp only [List.length_append, List.length_cons, List.length_nil]; omega
          have HS' := Lib.hid (show s' = s ++ (Cmd.cls x y).text ++ [10] by rw [hs']; simp [Cmd.text, Cmd.head, Cmd.a1, Cmd.a2])
          rw [← hw4, ← hs']
          have HST4 := Lib.hid (HST.out.below (show Below wr.heap.size wr w4 by rw [hw4]; exact HR3.out.drew))
          clear hw4 hs' c4 c5 q1 q2 q3 q4 q5 r2 r3 r4 r5
          obtain ⟨va, vc, rfl, _⟩ := slice_of_own HST4.out.2.2.2.2.2.2.2
          have hlk : l.length ≤ k := HST.out.2.2.2.2.2.1
          have HSRC := Lib.hid (fun W (hW : Below w4.heap.size w4 W) => src_of_classes ((row_classes HST4.out.1 HST4.out.2.2.2.2.2.2.2).1.below hW))
          have HONE := Lib.hid (show ∀ u ∈ (classCells (cl2 x y) nilP : List Value), u.oneCell' = true from (by intro u hu; simp only [classCells, List.mem_cons, List.mem_nil_iff, or_false] at hu; rcases hu with rfl | rfl | rfl | rfl | rfl | rfl <;> rfl))
          have HC4 := Lib.hid (fun W (hW : Below w4.heap.size w4 W) => HCC.out W (HB4.out.trans (hW.mono HB4.out.size)))
          go_upto_region 12 with fail
          go_region_held3 (fun W' => W'.cell? ⟨ab, ao + k, none⟩ = some (strV x) ∧ W'.cell? ⟨sb, so + k, none⟩ = some (strV y))
            (first | (exact HC4.out _ (by repeat (first | exact Below.refl _ _ | exact hb5 | exact hb6 | refine Below.drew ?_ | refine Below.alloc ?_ (by first | omega | (simp; done) | (simp; omega)) _))))
            ((first
            | (refine step_app rowClass rfl (.tmp 68) (.tmp 69) rfl w4.heap.size _ 0 [] rfl ?_ _ l.length (List.zipWith classCells l ps).flatten rfl ?_ ?_ ?_ ?_ ?_
               · first | exact World.ownsRow_made w4 #[] 0 (Nat.le_refl _) (by unfold maxLen; omega) rfl | exact ((World.ownsRow_made w4 #[] 0 (Nat.le_refl _) (by unfold maxLen; omega) rfl).alloc _).drew | exact (World.ownsRow_made _ #[] 0 (by simp) (by unfold maxLen; omega) rfl).drew | exact (World.ownsRow_made w4 #[] 0 (Nat.le_refl _) (by unfold maxLen; omega) rfl).alloc _ | exact World.ownsRow_made _ #[] 0 (by simp) (by unfold maxLen; omega) rfl | exact own_two w4 _ _ _ | exact (own_two w4 _ _ _).drew
               · exact HSRC.out _ (by repeat (first | exact Below.refl _ _ | refine Below.drew ?_ | refine Below.alloc ?_ (by simp) _))
               · omega
               · omega
               · first | (simp; done) | (simp; omega)
               intro v5 w5 ho5 hg5 hv5
               have hb5 : Below w4.heap.size w4 w5 := Below.grown (by repeat (first | exact Below.refl _ _ | refine Below.drew ?_ | refine Below.alloc ?_ (by simp) _)) hg5 (by first | (simp; done) | (simp; omega)) hv5
               have hs5 := hb5.size
               change World.grownBy _ _ (Value.slice (some ⟨_, 0, none⟩) 0 0).ownBlock at hg5
               rw [Nat.zero_add, List.nil_append] at ho5
               have HO5 := Lib.hid ho5
               clear ho5)
            | (refine step_app rowClass rfl (.tmp 70) (.tmp 80) rfl w4.heap.size _ l.length (List.zipWith classCells l ps).flatten rfl ?_ _ 1 (classCells (cl2 x y) nilP) rfl (Or.inr ?_) ?_ ?_ ?_ ?_
               · first | exact HO5.out.alloc _ | exact HO5.out | exact (HO5.out.alloc _).drew
               · first | exact one_src _ (classCells (cl2 x y) nilP) _ 6 _ (by rfl) rfl HONE.out | exact one_drew (one_src _ (classCells (cl2 x y) nilP) _ 6 _ (by rfl) rfl HONE.out) | exact one_src _ (classCells (cl2 x y) nilP) _ 6 _ (by simp) rfl HONE.out | exact one_grown (one_drew (one_src _ (classCells (cl2 x y) nilP) _ 6 _ (by simp) rfl HONE.out)) hg5 (by simp <;> omega) (by simp <;> omega) | exact one_grown (one_drew (one_alloc (one_src _ (classCells (cl2 x y) nilP) _ 6 _ (by simp) rfl HONE.out) (by simp) _)) hg5 (by simp <;> omega) (by simp <;> omega)
               · omega
               · omega
               · first | exact hb5.size | (simp; have := hb5.size; omega)
               intro v6 w6 ho6 hg6 hv6
               have hb6 : Below w4.heap.size w4 w6 := Below.grown (by first | exact hb5.alloc hb5.size _ | exact hb5 | exact (hb5.alloc hb5.size _).drew) hg6 (by first | exact hb5.size | (simp; have := hb5.size; omega)) hv6
               obtain ⟨A6, C6, rfl, _⟩ := slice_of_own ho6
               have HO6 := Lib.hid ho6
               clear ho6)))
          all_goals
            have HB6 := Lib.hid (bl_trans HB4.out hb6)
            have HLN := Lib.hid (show (l ++ [cl2 x y]).length = l.length + 1 by simp)
            have HO7 := Lib.hid (show w6.ownsRow w.heap.size 31 6 (.slice A6 (l.length + 1) C6) (l ++ [cl2 x y]).length (List.zipWith classCells (l ++ [cl2 x y]) (ps ++ [nilP])).flatten by rw [HLN.out, zip_more HST4.out.1.len]; exact own_down HO6.out HB4.out.size)
            have HOK := Lib.hid (cl2_ok (x := x) (y := y) HST4.out.2.1 (by have := HX.out.2; omega) (by have := HY.out.2; omega))
            have HCK := Lib.hid (by have h := wcheck_calls (l ++ [cl2 x y]) (ps ++ [nilP]) A6 C6 w6 (row_classes (HST4.out.1.snoc x y) (by rw [HLN.out]; have h := HO7.out; rw [HLN.out] at h; exact h)).1 (HF.out.1.below HB6.out) HOK.out; rw [HLN.out] at h; exact h)
            have HNC2 := Lib.hid (show CmdOk (.cls x y) from cmd_ok (c := .cls x y) HX.out.1 HY.out.1 (by show x.length ≤ _; have := HX.out.2; omega) (by show y.length ≤ _; have := HY.out.2; omega))
            have hlk2 : l.length ≤ k := hlk
            clear hb5 hg5 hg6 hv5 hv6 hs5
            go_wp2_with fail
            refine HCK.out.mono ?_
            rintro e w7 ⟨rfl, hb7⟩
            have HB7 := Lib.hid (bl_trans HB6.out hb7)
            have HR7 := Lib.hid (bl_trans hb6 hb7)
            have HO8 := Lib.hid (own_below HO7.out hb7)
            clear hb7 HCK
            by_cases hz : readErr (l ++ [cl2 x y]) = 0
            · have HNX := Lib.hid (show Cmd.next l (.cls x y) = l ++ [cl2 x y] from if_pos hz)
              rw [hz, errOf_zero]
              clear hz
              go_wp2_with fail
              go_roundw
              case rel => exact ⟨k + 1, s', cs ++ [.cls x y], l ++ [cl2 x y], ps ++ [nilP], by omega, by omega, hsl', by go_num, rfl, HB7.out, HST4.out.1.snoc x y, HOK.out, by rw [stL_snoc, ← HST4.out.2.2.1, HNX.out], by rw [HS'.out, HST4.out.2.2.2.1, List.map_append, List.map_singleton, ends_snoc], by simp [HST4.out.2.2.2.2.1], by rw [HLN.out]; omega, (fun c hc => by
                rcases List.mem_append.1 hc with h | h
                · exact HST4.out.2.2.2.2.2.2.1 c h
                · rw [List.mem_singleton.1 h]; exact HNC2.out), HO8.out⟩
              case measure => simp [RowKit.intOf]; omega
            · have HNX := Lib.hid (show Cmd.next l (.cls x y) = l from if_neg hz)
              rw [errOf_ne hz]
              generalize readErr (l ++ [cl2 x y]) = z at *
              clear hz
              go_wp2_with fail
              go_roundw
              case rel => exact ⟨k + 1, s', cs ++ [.cls x y], l, ps, by omega, by omega, hsl', by go_num, rfl, HB7.out, HST4.out.1, HST4.out.2.1, by rw [stL_snoc, ← HST4.out.2.2.1, HNX.out], by rw [HS'.out, HST4.out.2.2.2.1, List.map_append, List.map_singleton, ends_snoc], by simp [HST4.out.2.2.2.2.1], by omega, (fun c hc => by
                rcases List.mem_append.1 hc with h | h
                · exact HST4.out.2.2.2.2.2.2.1 c h
                · rw [List.mem_singleton.1 h]; exact HNC2.out), own_below HST4.out.2.2.2.2.2.2.2 HR7.out⟩
              case measure => simp [RowKit.intOf]; omega
    · have h1 : k < A.length := by omega
      have h2 : k < B.length := by omega
      have h3 : ¬ k < 9 := by omega
      clear hgo hE hkAB
      all_goals
        cases ha : nameOk a with
        | false =>
          have HN1 := Lib.hid (fun W => name_bad ⟨⟨a⟩⟩ W ha)
          clear ha
          go_wp2_with ((first
            | (go_at_call 25
               refine (HN1.out _).mono ?_
               rintro e w2 ⟨rfl, hb2⟩
               have HB2 := Lib.hid (bl_trans HBr.out hb2)
               clear hb2)))
          go_ret
          exact ⟨rfl, HB2.out⟩
        | true =>
          have HN1 := Lib.hid (fun W => name_ok ⟨⟨a⟩⟩ W ha)
          have HX := Lib.hid (name_bytes ha)
          cases hb : nameOk b with
          | false =>
            clear ha
            have HN2 := Lib.hid (fun W => name_bad ⟨⟨b⟩⟩ W hb)
            clear hb
            go_wp2_with ((first
              | (go_at_call 25
                 refine (HN1.out _).mono ?_
                 rintro e w2 ⟨rfl, hb2⟩
                 have HB2 := Lib.hid (bl_trans HBr.out hb2)
                 clear hb2 HN1)
              | (go_at_call 25
                 refine (HN2.out _).mono ?_
                 rintro e w3 ⟨rfl, hb3⟩
                 have HB3 := Lib.hid (bl_trans HB2.out hb3)
                 clear hb3)))
            go_ret
            exact ⟨rfl, HB3.out⟩
          | true =>
            have HN2 := Lib.hid (fun W => name_ok ⟨⟨b⟩⟩ W hb)
            have HY := Lib.hid (name_bytes hb)
            have hx20 := (name_bytes ha).2
            have hy20 := (name_bytes hb).2
            clear hb ha
            go_upto_region 17 with ((first
              | (go_at_call 25
                 refine (HN1.out _).mono ?_
                 rintro e w2 ⟨rfl, hb2⟩
                 have HB2 := Lib.hid (bl_trans HBr.out hb2)
                 have HR2 := Lib.hid hb2
                 clear hb2 HN1)
              | (go_at_call 25
                 refine (HN2.out _).mono ?_
                 rintro e w3 ⟨rfl, hb3⟩
                 have HB3 := Lib.hid (bl_trans HB2.out hb3)
                 have HR3 := Lib.hid (bl_trans HR2.out hb3)
                 clear hb3)))
            all_goals try (exfalso; omega)
            have hM3 := HST.out
            obtain ⟨hP, hB, hl, hs, hck, hlk, hcs, how⟩ := HST.out.below HR3.out
            obtain ⟨va, vc, rfl, _⟩ := slice_of_own how
            have HCL := Lib.hid (row_classes hP how).1
            have HBC := Lib.hid hB
            have hJ1 : (76 :: (a ++ [59])).length ≤ 1048576 := by simp; omega
            have hJ2 : (76 :: (b ++ [59])).length ≤ 1048576 := by simp; omega
            have hci : CmdOk (.is a b) := cmd_ok (c := .is a b) HX.out.1 HY.out.1 (by show a.length ≤ _; omega) (by show b.length ≤ _; omega)
            have hcj : CmdOk (.join (76 :: (a ++ [59])) (76 :: (b ++ [59]))) := cmd_ok (c := .join (76 :: (a ++ [59])) (76 :: (b ++ [59]))) (by
                show ∀ x ∈ 76 :: (a ++ [59]), x ≠ 32 ∧ x ≠ 10
                intro x hx
                simp only [List.mem_cons, List.mem_append, List.not_mem_nil, or_false] at hx
                rcases hx with rfl | h | rfl
                · decide
                · exact HX.out.1 x h
                · decide) (by
                show ∀ x ∈ 76 :: (b ++ [59]), x ≠ 32 ∧ x ≠ 10
                intro x hx
                simp only [List.mem_cons, List.mem_append, List.not_mem_nil, or_false] at hx
                rcases hx with rfl | h | rfl
                · decide
                · exact HY.out.1 x h
                · decide) hJ1 hJ2
            have hT : ends 10 ((cs ++ [Cmd.is a b]).map Cmd.text) ++ (Cmd.join (76 :: (a ++ [59])) (76 :: (b ++ [59]))).text = s ++ 105 :: 115 :: 32 :: (a ++ 32 :: (b ++ 10 :: 106 :: 111 :: 105 :: 110 :: 32 :: 76 :: (a ++ 59 :: 32 :: 76 :: (b ++ [59])))) := by
              rw [hs, List.map_append, List.map_singleton, ends_snoc]
              simp [Cmd.text, Cmd.head, Cmd.a1, Cmd.a2]
            have HRUN := Lib.hid (by
              have h := drun_calls (cs ++ [Cmd.is a b]) (Cmd.join (76 :: (a ++ [59])) (76 :: (b ++ [59]))) w3 (HF.out.1.below HB3.out) (HF.out.2.below HB3.out) (fun c hc => by
                simp only [List.mem_append, List.mem_cons, List.not_mem_nil, or_false] at hc
                rcases hc with (h | rfl) | rfl
                · exact hcs c h
                · exact hci
                · exact hcj) (by simp; omega)
              rw [hT] at h
              exact h)
            have hO : outs [] (cs ++ [Cmd.is a b] ++ [Cmd.join (76 :: (a ++ [59])) (76 :: (b ++ [59]))]) = outs [] cs ++ [(Cmd.is a b).ans l, (Cmd.join (76 :: (a ++ [59])) (76 :: (b ++ [59]))).ans l] := by
              rw [List.append_assoc, outs_app, ← hl]
              rfl
            rw [hO] at HRUN
            have HOL := Lib.hid (show (outs [] cs).length = k by rw [outs_len, hck])
            rw [show (cs ++ [Cmd.is a b]).length + 1 = k + 2 by simp [hck]] at HRUN
            clear hP hB hl hs hck hcs how hci hcj hT hO hM3
            go_wp2_with ((first
              | (go_at_call 26
                 refine HRUN.out.mono ?_
                 rintro e w4 ⟨v4, rfl, ho4, hb4⟩
                 obtain ⟨g4, c4, rfl, hc4⟩ := own_some ho4
                 have HB4 := Lib.hid (bl_trans HB3.out hb4)
                 have HC4 := Lib.hid (HCL.out.below hb4)
                 have HO4 := Lib.hid ho4
                 clear ho4 hb4 hc4)))
            have hal : a.length ≤ 1048576 := by omega
            have hbl : b.length ≤ 1048576 := by omega
            have HIS := Lib.hid (is_calls l ps va vc a b w4 HC4.out (HF.out.1.below HB4.out) HBC.out hal hbl)
            have HJN := Lib.hid (fun W (hW : Below w4.heap.size w4 W) => join_join_calls l ps va vc (76 :: (a ++ [59])) (76 :: (b ++ [59])) W (HC4.out.below hW) (HF.out.1.below (HB4.out.trans (hW.mono HB4.out.size))) HBC.out (Nat.le_trans hJ1 (by decide)) (Nat.le_trans hJ2 (by decide)) (joinR l (76 :: (a ++ [59])) (76 :: (b ++ [59]))) (join_ok l _ _))
            obtain ⟨R1, hR1⟩ : ∃ R1, R1 = (Cmd.is a b).ans l := ⟨_, rfl⟩
            obtain ⟨R2, hR2⟩ : ∃ R2, R2 = (Cmd.join (76 :: (a ++ [59])) (76 :: (b ++ [59]))).ans l := ⟨_, rfl⟩
            rw [← hR1, ← hR2] at HO4
            have HAN := Lib.hid (show (isErr2 l a b = 0 → R1 = yesNo ((every (wl l) a).contains b)) ∧ (isErr2 l a b ≠ 0 → R1 = errT (isErr2 l a b)) from ⟨fun h => by rw [hR1]; exact if_pos h, fun h => by rw [hR1]; exact if_neg h⟩)
            have HAJ := Lib.hid (show (read2Err l (76 :: (a ++ [59])) (76 :: (b ++ [59])) = 0 → R2 = joinR l (76 :: (a ++ [59])) (76 :: (b ++ [59]))) ∧ (read2Err l (76 :: (a ++ [59])) (76 :: (b ++ [59])) ≠ 0 → R2 = errT (read2Err l (76 :: (a ++ [59])) (76 :: (b ++ [59])))) from ⟨fun h => by rw [hR2]; exact if_pos h, fun h => by rw [hR2]; exact if_neg h⟩)
            generalize isErr2 l a b = z1 at *
            generalize read2Err l (76 :: (a ++ [59])) (76 :: (b ++ [59])) = z2 at *
            generalize joinR l (76 :: (a ++ [59])) (76 :: (b ++ [59])) = j2 at *
            generalize (every (wl l) a).contains b = q at *
            have HCE := Lib.hid (fun W (hW : Below w4.heap.size w4 W) => show W.cell? ⟨g4, k, none⟩ = some (strV R1) ∧ W.cell? ⟨g4, k + 1, none⟩ = some (strV R2) from by
              obtain ⟨g', he, _, _, h3, _⟩ := rowOwn_at (own_below HO4.out hW) (j := k) (u := strV R1) (by simp [HOL.out])
              obtain ⟨g'', he', _, _, h4, _⟩ := rowOwn_at (own_below HO4.out hW) (j := k + 1) (u := strV R2) (by simp [HOL.out])
              cases he
              cases he'
              exact ⟨h3, h4⟩)
            clear hR1 hR2 hJ1 hJ2 hlk HC4
            refine HIS.out.mono ?_
            rintro e w5 ⟨hb5, hv5⟩
            have HB5 := Lib.hid hb5
            have HV5 := Lib.hid hv5
            clear hb5 hv5 HIS
            have HRES := Lib.hid (show ∃ ev r, e = .returned (.tuple #[.bool r, ev]) ∧ ((ev = .nilIface ∧ r = true ∧ R1 = [121, 101, 115]) ∨ (ev = .nilIface ∧ r = false ∧ R1 = [110, 111]) ∨ (ev = errV z1 ∧ r = false ∧ R1 = errT z1)) from by
              rcases HV5.out with ⟨h, he⟩ | ⟨h, he⟩
              · exact ⟨_, _, he, Or.inr (Or.inr ⟨rfl, rfl, HAN.out.2 h⟩)⟩
              · cases q with
                | true => exact ⟨_, _, he, Or.inl ⟨rfl, rfl, HAN.out.1 h⟩⟩
                | false => exact ⟨_, _, he, Or.inr (Or.inl ⟨rfl, rfl, HAN.out.1 h⟩)⟩)
            clear HV5 HAN
            obtain ⟨ev, r, rfl, ⟨rfl, rfl, rfl⟩ | ⟨rfl, rfl, rfl⟩ | ⟨rfl, rfl, rfl⟩⟩ := HRES.out
            all_goals
              clear HRES
              obtain ⟨t2, ev2, HJ2, hte⟩ : ∃ t2 ev2, Hid (∀ W, Below w4.heap.size w4 W → Calls Tryz.prog 28 #[.slice va l.length vc, .string ⟨⟨76 :: (a ++ [59])⟩⟩, .string ⟨⟨76 :: (b ++ [59])⟩⟩] W fun e w' => Below W.heap.size W w' ∧ e = .returned (.tuple #[.string ⟨⟨t2⟩⟩, ev2])) ∧ ((ev2 = .nilIface ∧ R2 = t2) ∨ (ev2 = errV z2 ∧ R2 = errT z2)) := by
                by_cases hz2 : z2 = 0
                · refine ⟨j2, .nilIface, Lib.hid (fun W hW => (HJN.out W hW).mono fun e w' h => ⟨h.1, ?_⟩), Or.inl ⟨rfl, HAJ.out.1 hz2⟩⟩
                  rcases h.2 with ⟨h1, _⟩ | ⟨_, h1⟩
                  · exact absurd hz2 h1
                  · exact h1
                · refine ⟨[], errV z2, Lib.hid (fun W hW => (HJN.out W hW).mono fun e w' h => ⟨h.1, ?_⟩), Or.inr ⟨rfl, HAJ.out.2 hz2⟩⟩
                  rcases h.2 with ⟨_, h1⟩ | ⟨h1, _⟩
                  · exact h1
                  · exact absurd h1 hz2
              clear HJN HAJ
              rcases hte with ⟨rfl, rfl⟩ | ⟨rfl, rfl⟩
            all_goals
              go_wp2_with ((first
                | (go_at_call 28
                   refine (HJ2.out _ HB5.out).mono ?_
                   rintro e w6 ⟨hb6, rfl⟩
                   have hb6' := bl_trans HB5.out hb6
                   obtain ⟨c6, c7⟩ := HCE.out w6 hb6'
                   clear hb6 HJ2)
                | (go_at_call 61
                   refine (error_calls _ _).mono ?_
                   rintro e w7 ⟨rfl, hb7⟩
                   have hb7' : Below w4.heap.size w4 w7 := bl_trans (by assumption) hb7
                   obtain ⟨c8, c9⟩ := HCE.out w7 hb7'
                   clear hb7)))
            all_goals
              go_ret
              exact ⟨rfl, bl_trans HB4.out (by assumption)⟩
end Go.Proofs.YtfimajijegohmaaGreatDoor
