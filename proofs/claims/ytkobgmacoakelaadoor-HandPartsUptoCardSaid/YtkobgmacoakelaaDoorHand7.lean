/-
  The walk of hand.typed: exact.
-/
import Derived.Test.YtkobgmacoakelaaDoorHand6
import Derived.Lib.QuietBelow
import Derived.Deep.RegionHeld3
import Derived.Deep.DeepCutAuto
namespace Go.Proofs.YtkobgmacoakelaaDoor
set_option linter.unusedVariables false
set_option linter.unusedSimpArgs false
open Go.RowKit Go.Shelf Go.Lib Go.Sort

theorem chF_len (m : List UInt8) (r : List (List UInt8) → Int × List (List UInt8)) (hty : ∀ A, (∀ t ∈ A, TypeOk t) → (r A).1 = 0 → ∀ t ∈ (r A).2, TypeOk t) : (chF m r).2.length ≤ 200 := by
  unfold chF
  cases hm : methOf m with
  | none => simp
  | some p =>
    obtain ⟨A, g⟩ := p
    have hA := methOf_ok hm
    simp only
    split
    · simp
    · rename_i h0
      split
      · simp
      · rename_i h5
        exact drop_len (by omega) (hty A hA.2.1 (by simpa using h0)) hA.2.2.2
theorem leafF_len (k : Int) (t : List UInt8) (a : Int) : (leafF k t a).2.length ≤ 200 := by
  unfold leafF
  split
  · simp
  · rename_i h1
    split
    · simp
    · have ht : t = [73] ∨ t = [74] := by
        have : numT t = true := by
          cases hn : numT t with
          | true => rfl
          | false => rw [hn] at h1; simp at h1
        unfold numT at this
        simpa using this
      have hg : GivesOk t := Or.inr (type_num ht)
      refine drop_len (A := leafA k t a) ?_ ?_ hg
      · unfold leafA; split
        · simp
        split
        · simp
        split <;> simp
      · unfold leafA
        have h2 := type_num ht
        have h3 := type_num (t := [73]) (Or.inl rfl)
        split
        · simp
        split
        · simpa using h2
        split
        · intro x hx
          simp only [List.mem_cons, List.mem_nil_iff, or_false] at hx
          rcases hx with rfl | rfl
          · exact h2
          · exact h3
        · intro x hx
          simp only [List.mem_cons, List.mem_nil_iff, or_false, or_self] at hx
          rw [hx]; exact h2
theorem combF_len (k : Int) (t : List UInt8) (a : Int) (pos : List Int) (ts : List (List UInt8)) : (combF k t a pos ts).2.length ≤ 200 := by
  unfold combF
  split
  · exact chF_len _ _ (putR_ty _ _)
  split
  · exact chF_len _ _ (permR_ty _ _)
  split
  · split
    · simp
    · exact chF_len _ _ (dropR_ty _)
  · split
    · simp
    · exact chF_len _ _ (changeR_ty _ _)
theorem typed_len (h : Hd) : h.typed.2.length ≤ 200 := by
  rw [typed_eq]
  split
  · simp
  split
  · simp
  split
  · exact leafF_len _ _ _
  split
  · simp
  · exact combF_len _ _ _ _ _

theorem filled_len (m s : List UInt8) (i : Int) (many : Nat) (h : (filledF m s i many).1 = 0) : (filledF m s i many).2.length = many := by
  unfold filledF at h ⊢
  cases hm : methOf m with
  | none => rw [hm] at h; exact absurd (show (1 : Int) = 0 from h) (by decide)
  | some p =>
    obtain ⟨A, g⟩ := p
    rw [hm] at h
    simp only at h ⊢
    split at h
    · exact absurd h (by decide)
    rename_i h1
    rw [if_neg h1]
    cases hs : methOf s with
    | none => rw [hs] at h; exact absurd (show (1 : Int) = 0 from h) (by decide)
    | some q =>
      obtain ⟨T, g2⟩ := q
      rw [hs] at h
      simp only at h ⊢
      split at h
      · exact absurd h (by decide)
      rename_i h2
      rw [if_neg h2]
      split at h
      · exact absurd h (by decide)
      rename_i h3
      rw [if_neg h3]
      simpa using h2
theorem filled_small (m s : List UInt8) (i : Int) (many : Nat) : ∀ u ∈ (filledF m s i many).2, u.length ≤ 100 := by
  unfold filledF
  cases hm : methOf m with
  | none => simp
  | some p =>
    obtain ⟨A, g⟩ := p
    simp only
    split
    · simp
    cases hs : methOf s with
    | none => simp
    | some q =>
      obtain ⟨T, g2⟩ := q
      simp only
      split
      · simp
      split
      · simp
      · intro u hu
        have h1 := flat_len [u] (by simpa using (methOf_ok hs).2.1 u hu)
        simp at h1
        omega

theorem nsubs_le (k : Int) : nsubs k ≤ 2 := by
  unfold nsubs
  split
  · omega
  · split <;> omega
theorem rowS : RowT Tryd.prog 42 9 1 16 := RowT.mk' (z := .string ByteArray.empty) Tryd.underlying42 (by kernel_rfl) rfl (by decide)
theorem strV_oneC (t : List UInt8) : ∀ u ∈ [strV t], u.oneCell' = true := by
  intro u hu
  rw [List.mem_singleton.1 hu]; rfl
noncomputable def txts (l : List Hd) : List (List UInt8) := l.map (fun s => s.typed.2)
theorem txts_succ {l : List Hd} {j : Nat} {x : Hd} (hx : l[j]? = some x) : (txts l).take (j + 1) = (txts l).take j ++ [x.typed.2] := by
  rw [List.take_add_one]
  unfold txts
  rw [List.getElem?_map, hx]
  rfl
theorem ok_succ {l : List Hd} {j : Nat} {x : Hd} (h : ∀ s ∈ l.take j, s.typed.1 = 0) (hx : l[j]? = some x) (h0 : x.typed.1 = 0) : ∀ s ∈ l.take (j + 1), s.typed.1 = 0 := by
  rw [List.take_add_one, hx]
  intro s hs
  rcases List.mem_append.1 hs with h1 | h1
  · exact h s h1
  · simp at h1; rw [h1]; exact h0
theorem all_bad_at {l : List Hd} {j : Nat} {x : Hd} (h : ∀ s ∈ l.take j, s.typed.1 = 0) (hx : l[j]? = some x) (h0 : x.typed.1 ≠ 0) : allF (l.map Hd.typed) = (x.typed.1, []) := by
  refine allF_bad (k := j) (by rw [List.getElem?_map, hx]; rfl) (fun y hy => ?_) h0
  rw [← List.map_take] at hy
  obtain ⟨s, hs, rfl⟩ := List.mem_map.1 hy
  exact h s hs
theorem all_good {l : List Hd} (h : ∀ s ∈ l, s.typed.1 = 0) : allF (l.map Hd.typed) = (0, txts l) := by
  rw [allF_ok (fun r hr => by obtain ⟨s, hs, rfl⟩ := List.mem_map.1 hr; exact h s hs)]
  simp [txts]

theorem look_sub (m : Nat) (w : World) (h : IMap w m 7 subF) (k : Int) (hk : -9223372036854775808 ≤ k ∧ k ≤ 9223372036854775807) :
    (Instr.lookup 40 (.map (some m)) (.int .i64 k) true).run Tryd.prog w = .ok (.tuple #[.int .i64 (if 1 ≤ k ∧ k ≤ 7 then (nsubs k : Int) else 0), .bool (decide (1 ≤ k ∧ k ≤ 7))]) w := by
  have hwf : (Lit.int .i64 k).wf = true := by
    have h1 : IntKind.i64.min = -9223372036854775808 := by decide
    have h2 : IntKind.i64.max = 9223372036854775807 := by decide
    simp [Lit.wf, h1, h2]; omega
  by_cases hr : 1 ≤ k ∧ k ≤ 7
  · have := IMap.look_some (P := Tryd.prog) (w := w) Tryd.underlying3 Tryd.underlying40 h hwf (v := .int .i64 (nsubs k : Int)) (by unfold subF; rw [if_pos hr]) true
    rw [if_pos hr]
    simpa [hr] using this
  · have := IMap.look_none (P := Tryd.prog) (w := w) Tryd.underlying3 Tryd.underlying40 h hwf (by unfold subF; rw [if_neg hr]) (zv := .int .i64 0) (by kernel_rfl) true
    rw [if_neg hr]
    simpa [hr] using this

def BoxAt (w : World) (g : Nat) (h : Hd) : Prop := Blk w g 25 #[.int .i64 h.kind, .string ⟨⟨h.ty⟩⟩, .int .i64 h.a, .slice h.pa h.pos.length h.pc, .slice h.sa h.subs.length h.sc]
theorem BoxAt.below {w w' : World} {g : Nat} {h : Hd} (H : BoxAt w g h) (hb : Below w.heap.size w w') : BoxAt w' g h := Blk.below H hb
theorem BoxAt.cells {w : World} {g : Nat} {h : Hd} (H : BoxAt w g h) : w.cell? ⟨g, 0, none⟩ = some (.int .i64 h.kind) ∧ w.cell? ⟨g, 1, none⟩ = some (.string ⟨⟨h.ty⟩⟩) ∧ w.cell? ⟨g, 2, none⟩ = some (.int .i64 h.a) ∧ w.cell? ⟨g, 3, none⟩ = some (.slice h.pa h.pos.length h.pc) ∧ w.cell? ⟨g, 4, none⟩ = some (.slice h.sa h.subs.length h.sc) :=
  ⟨Blk.cell H 0, Blk.cell H 1, Blk.cell H 2, Blk.cell H 3, Blk.cell H 4⟩

set_option maxRecDepth 100000 in
set_option maxHeartbeats 8000000 in
theorem typed_calls {w0 : World} {h : Hd} (H : HdOk w0 h) : ∀ (w : World), Below w0.heap.size w0 w → Calls Tryd.prog 9 #[hdV h] w (Exact w h.typed) := by
  induction H with
  | mk h hp hs ht hl hm hkn hsub ih =>
    intro w hb
    have HS := Lib.hid (hs.below hb)
    have HP := Lib.hid (hp.below hb)
    have HIH := Lib.hid (fun (i : Nat) (s : Hd) (hi : h.subs[i]? = some s) => ih s (List.mem_of_getElem? hi))
    have HB := Lib.hid hb
    have HKN := Lib.hid hkn
    have HT := Lib.hid (typed_eq h)
    obtain ⟨N, hN⟩ : ∃ N : Int, N = if 1 ≤ h.kind ∧ h.kind ≤ 7 then (nsubs h.kind : Int) else 0 := ⟨_, rfl⟩
    obtain ⟨q, hq⟩ : ∃ q : Bool, q = decide (1 ≤ h.kind ∧ h.kind ≤ 7) := ⟨_, rfl⟩
    have HLK := Lib.hid (fun (m : Nat) (w : World) (hi : IMap w m 7 subF) => (show (Instr.lookup 40 (.map (some m)) (.int .i64 h.kind) true).run Tryd.prog w = .ok (.tuple #[.int .i64 N, .bool q]) w by rw [hN, hq]; exact look_sub m w hi h.kind hkn))
    have HN := Lib.hid hN
    have HQ := Lib.hid hq
    clear hp hs hkn hsub ih hb hN hq
    have hbox : BoxAt (w.alloc (.cells #[.int .i64 h.kind, .string ⟨⟨h.ty⟩⟩, .int .i64 h.a, .slice h.pa h.pos.length h.pc, .slice h.sa h.subs.length h.sc] 25)) w.heap.size h := blk_new _ _ _ _ rfl
    unfold hdV
    go_enter Tryd.func9, Tryd.ntmps9
    go_upto_region 1 with fail
    obtain ⟨w1, hw1⟩ : ∃ w1, w1 = w.alloc (.cells #[.int .i64 h.kind, .string ⟨⟨h.ty⟩⟩, .int .i64 h.a, .slice h.pa h.pos.length h.pc, .slice h.sa h.subs.length h.sc] 25) := ⟨_, rfl⟩
    have HB1 := Lib.hid (show Below w.heap.size w w1 by rw [hw1]; exact bl_alloc (Below.refl _ _) _)
    rw [← hw1] at hbox ⊢
    have HX := Lib.hid hbox
    clear hw1 hbox
    go_cut [1, 4, 5] (fun s1 s4 s5 wx => s1 = .pointer (some ⟨w.heap.size, 0, none⟩) ∧ s4 = .int .i64 N ∧ s5 = .bool q ∧ Below w1.heap.size w1 wx)
    case first =>
      have hS := fun W' (hb : Below w1.heap.size w1 W') => (HX.out.below hb).cells.1
      have HS1 := Lib.hid hS
      clear hS
      have hb0 := Below.refl w1.heap.size w1
      go_region_held3 (fun W' => W'.cell? ⟨w.heap.size, 0, none⟩ = some (.int .i64 h.kind))
        (exact HS1.out _ (by repeat (first | exact hb2 | exact hb0 | refine Below.drew ?_)))
        ((go_at_call 12
          refine (subs_calls _).mono ?_
          rintro e w2 ⟨m, rfl, him, hb2c⟩
          have hlk := HLK.out m w2 him
          have hb2 : Below w1.heap.size w1 w2 := (Below.drew hb0).trans hb2c))
      all_goals
        go_wp2_with fail
        go_meet
        exact ⟨rfl, rfl, rfl, hb2⟩
    case rest =>
      obtain ⟨rfl, rfl, rfl, hb2⟩ := hcut
      have HX2 := Lib.hid (HX.out.below hb2)
      have HB2 := Lib.hid (bl_trans HB1.out hb2)
      obtain ⟨c0, c1, c2, c3, c4⟩ := HX2.out.cells
      clear hb2
      cases q with
      | false =>
        have HR := Lib.hid (show h.typed = (1, []) by
          have h1 : ¬ (1 ≤ h.kind ∧ h.kind ≤ 7) := of_decide_eq_false HQ.out.symm
          rw [HT.out, if_pos (by omega)])
        go_wp2_with fail
        go_ret2
        exact ⟨by rw [HR.out]; rfl, HB2.out⟩
      | true =>
        have hkr : 1 ≤ h.kind ∧ h.kind ≤ 7 := of_decide_eq_true HQ.out.symm
        have HKR := Lib.hid hkr
        have hNn : N = (nsubs h.kind : Int) := by rw [HN.out, if_pos hkr]
        subst hNn
        have HT2 := Lib.hid (show h.typed = if h.subs.length ≠ nsubs h.kind then (8, []) else if nsubs h.kind = 0 then leafF h.kind h.ty h.a
            else if (allF (h.subs.map Hd.typed)).1 ≠ 0 then ((allF (h.subs.map Hd.typed)).1, []) else combF h.kind h.ty h.a h.pos (allF (h.subs.map Hd.typed)).2 by rw [HT.out, if_neg (by omega)])
        obtain ⟨n, hn⟩ : ∃ n, n = nsubs h.kind := ⟨_, rfl⟩
        rw [← hn] at HT2 ⊢
        have HNS := Lib.hid hn
        have hn2 : n ≤ 2 := by rw [hn]; exact nsubs_le _
        clear hkr hn HT HN HQ HLK
        by_cases hln : h.subs.length = n
        · have HLN := Lib.hid hln
          have hl1 : ((h.subs.length : Int) != (n : Int)) = false := by simp; omega
          have hl2 : (h.subs.length != n) = false := by simp; omega
          by_cases hn0 : n = 0
          · subst hn0
            have HR := Lib.hid (show h.typed = leafF h.kind h.ty h.a by rw [HT2.out, if_neg (by simpa using HLN.out), if_pos rfl])
            have hk3 : h.kind = 1 ∨ h.kind = 2 ∨ h.kind = 3 := by
              have h1 := HNS.out
              have h2 := HKR.out
              unfold nsubs at h1
              split at h1
              · omega
              split at h1 <;> omega
            have HLF := Lib.hid (show ∀ w, Calls Tryd.prog 13 #[.agg #[.int .i64 h.kind, .string ⟨⟨h.ty⟩⟩, .int .i64 h.a, .slice h.pa h.pos.length h.pc, .slice h.sa h.subs.length h.sc]] w (Exact w (leafF h.kind h.ty h.a)) from fun w => by
              cases hnt : numT h.ty with
              | false => exact leaf_not _ _ _ _ _ _ _ _ _ w hnt
              | true =>
                have ht : h.ty = [73] ∨ h.ty = [74] := by unfold numT at hnt; simpa using hnt
                rcases hk3 with e | e | e
                · rw [e]; exact leaf_one _ ht _ _ _ _ _ _ _ w
                · rw [e]; exact leaf_two _ ht _ _ _ _ _ _ _ w
                · rw [e]; exact leaf_three _ ht _ _ _ _ _ _ _ w)
            clear hln hk3
            go_wp2_with fail
            refine (HLF.out _).mono ?_
            rintro e w4 ⟨rfl, hb4⟩
            go_wp2_with fail
            go_ret2
            exact ⟨by rw [HR.out]; rfl, bl_trans HB2.out hb4⟩
          · have HT3 := Lib.hid (show h.typed = if (allF (h.subs.map Hd.typed)).1 ≠ 0 then ((allF (h.subs.map Hd.typed)).1, []) else combF h.kind h.ty h.a h.pos (allF (h.subs.map Hd.typed)).2 by rw [HT2.out, if_neg (by simpa using HLN.out), if_neg hn0])
            have hn1 : ¬ (n : Int) = 0 := by omega
            have hn3 : ((n : Int) == 0) = false := by rw [beq_eq_false_iff_ne]; omega
            have hn4 : (n == 0) = false := by rw [beq_eq_false_iff_ne]; exact hn0
            have hsz := HB2.out.size
            obtain ⟨wb, hwb⟩ : ∃ wb, wb = wc := ⟨wc, rfl⟩
            subst hwb
            clear hln HT2
            go_wp2_with fail
            go_loopw [6, 40] (fun s i wr => ∃ j : Nat, j ≤ h.subs.length ∧ i = .int .i64 j ∧ Hid (wr.ownsRow wb.heap.size 9 1 s j (((txts h.subs).take j).map strV)) ∧ Hid (∀ s ∈ h.subs.take j, s.typed.1 = 0) ∧ RowKit.Below wb.heap.size wb wr) (fun _ i _ => h.subs.length - (RowKit.intOf i).toNat)
            case atStart => exact ⟨0, by omega, rfl, Lib.hid ⟨by simp, Or.inl ⟨rfl, rfl⟩⟩, Lib.hid (by simp), RowKit.Below.refl _ _⟩
            case round =>
              obtain ⟨j, hj, rfl, HO, HZ, hbr⟩ := hrel
              obtain ⟨A, C, rfl, _⟩ := slice_of_own HO.out
              have HBR := Lib.hid (bl_trans HB2.out hbr)
              have HBR1 := Lib.hid hbr
              have hsr := hbr.size
              clear hbr
              by_cases hlj : j < h.subs.length
              · obtain ⟨x, hx⟩ : ∃ x, h.subs[j]? = some x := ⟨_, List.getElem?_eq_getElem hlj⟩
                obtain ⟨b, off, hsa, hlt, d0, d1, d2, d3, d4⟩ := subs_cells (HS.out.below HBR.out) hx
                have hj2 : j ≤ 2 := by have := HLN.out; omega
                have HIX := Lib.hid (fun w' (hw : RowKit.Below w0.heap.size w0 w') => HIH.out j x hx w' hw)
                unfold hdV at HIX
                have HBA := Lib.hid (HB.out.trans (HBR.out.mono HB.out.size))
                rw [hsa]
                by_cases hx0 : x.typed.1 = 0
                · have HTX := Lib.hid (txts_succ hx)
                  have HZ2 := Lib.hid (ok_succ HZ.out hx hx0)
                  have HX0 := Lib.hid hx0
                  clear hx hsa hx0
                  go_wp2_with fail
                  refine (HIX.out _ (HBA.out.alloc (by have := HB.out.size; have := HBR.out.size; omega) _)).mono ?_
                  rintro e w4 ⟨rfl, hb4⟩
                  rw [HX0.out, errH_zero]
                  have HB4 := Lib.hid ((HBR1.out.alloc hsr _).trans (hb4.mono (by simp; omega)))
                  have HO4 := Lib.hid (own_below (HO.out.alloc _) hb4)
                  have hs4 := HB4.out.size
                  clear hb4
                  go_wp2_with (at_builtin; refine wpList_append_one rowS rfl _ _ rfl wb.heap.size _ j (((txts h.subs).take j).map strV) rfl HO4.out [strV x.typed.2] rfl (strV_oneC _) _ rfl (by simp) (by omega) (by omega) hs4 ?_)
                  intro v5 w5 ho5 hg5
                  have HB5 := Lib.hid (HB4.out.trans (grown_below hs4 HO4.out hg5))
                  have HO5 := Lib.hid (show w5.ownsRow wb.heap.size 9 1 v5 (j + 1) (((txts h.subs).take (j + 1)).map strV) by rw [HTX.out, List.map_append, List.map_take]; exact ho5)
                  clear ho5 hg5
                  go_wp2_with fail
                  go_roundw
                  case rel => exact ⟨j + 1, by omega, by go_num, HO5, HZ2, HB5.out⟩
                  case measure => simp [RowKit.intOf]; omega
                · have HR := Lib.hid (show h.typed = (x.typed.1, []) by rw [HT3.out, all_bad_at HZ.out hx hx0, if_pos hx0])
                  have HX0 := Lib.hid hx0
                  clear hx hsa hx0
                  go_wp2_with fail
                  refine (HIX.out _ (HBA.out.alloc (by have := HB.out.size; have := HBR.out.size; omega) _)).mono ?_
                  rintro e w4 ⟨rfl, hb4⟩
                  rw [errH_pos HX0.out]
                  have HB4 := Lib.hid ((HBR.out.alloc HBR.out.size _).trans (hb4.mono (by have := HBR.out.size; simp; omega)))
                  clear hb4
                  go_wp2_with fail
                  go_ret2
                  exact ⟨by rw [HR.out]; simp only; rw [errH_pos HX0.out]; rfl, HB4.out⟩
              · obtain rfl : j = h.subs.length := by omega
                have HZ1 : ∀ s ∈ h.subs, s.typed.1 = 0 := by have := HZ.out; rwa [List.take_length] at this
                have HR := Lib.hid (show h.typed = combF h.kind h.ty h.a h.pos (txts h.subs) by rw [HT3.out, all_good HZ1, if_neg (by simp)])
                have htl : (txts h.subs).length = h.subs.length := by unfold txts; rw [List.length_map]
                have hown : wr.ownsRow wb.heap.size 9 1 (.slice A h.subs.length C) (txts h.subs).length ((txts h.subs).map strV) := by
                  have := HO.out
                  rw [← htl, List.take_length] at this
                  rw [← htl]
                  exact this
                have hlen200 : ∀ t ∈ txts h.subs, t.length ≤ 200 := by
                  intro t ht
                  unfold txts at ht
                  obtain ⟨s, _, rfl⟩ := List.mem_map.1 ht
                  exact typed_len s
                obtain ⟨a2, cap2, hv, hsr⟩ := srow_of_own hown
                simp only [Value.slice.injEq] at hv
                obtain ⟨rfl, _, rfl⟩ := hv
                have HCE := Lib.hid (HX2.out.below HBR1.out).cells
                have HG := Lib.hid (fun (d : Nat) (os : Array Obj) => below_regrown wr d os)
                have HPP := Lib.hid (HP.out.below HBR.out)
                have HL2 := Lib.hid hlen200
                have HSR := Lib.hid hsr
                have hlen : h.subs.length = n := HLN.out
                have hns := HNS.out
                have hkr := HKR.out
                have hwl : w.heap.size < wr.heap.size := by have := HX2.out.lt; have := HBR1.out.size; omega
                clear HZ1 hown hlen200 hsr HO HZ HT3 HIH HLN HNS HKR HS
                generalize txts h.subs = X at *
                rw [hlen] at htl ⊢
                have hcase : (n = 1 ∧ (h.kind = 4 ∨ h.kind = 6)) ∨ (n = 2 ∧ (h.kind = 5 ∨ h.kind = 7)) := by
                  unfold nsubs at hns
                  split at hns
                  · left; exact ⟨hns, by omega⟩
                  split at hns
                  · right; exact ⟨hns, by omega⟩
                  · omega
                have HMB := Lib.hid (show ∀ w', Below wr.heap.size wr w' → Below w.heap.size w w' from fun w' hw' => bl_trans HBR.out hw')
                rcases hcase with ⟨hn1', hk⟩ | ⟨hn2', hk⟩
                · subst hn1'
                  obtain ⟨t0, rfl⟩ : ∃ t0, X = [t0] := by
                    match X, htl with
                    | [t], _ => exact ⟨t, rfl⟩
                  have ht0 := HL2.out t0 (by simp)
                  obtain ⟨g, off, rfl, hgl, hgc⟩ : ∃ b off, A = some ⟨b, off, none⟩ ∧ b < wr.heap.size ∧ wr.cell? ⟨b, off, none⟩ = some (.string ⟨⟨t0⟩⟩) := by
                    rcases HSR.out.2 with h | ⟨b, off, rfl, hlt, hc⟩
                    · cases h
                    · exact ⟨b, off, rfl, hlt, hc 0 t0 rfl⟩
                  have gt0 := fun (d : Nat) (os : Array Obj) => ((HG.out d os).cell (p := ⟨g, off, none⟩) hgl).trans hgc
                  have gc1 := fun (d : Nat) (os : Array Obj) => ((HG.out d os).cell (p := ⟨w.heap.size, 1, none⟩) hwl).trans HCE.out.2.1
                  have gc2 := fun (d : Nat) (os : Array Obj) => ((HG.out d os).cell (p := ⟨w.heap.size, 2, none⟩) hwl).trans HCE.out.2.2.1
                  have gc3 := fun (d : Nat) (os : Array Obj) => ((HG.out d os).cell (p := ⟨w.heap.size, 3, none⟩) hwl).trans HCE.out.2.2.2.1
                  have e0 := HCE.out.1
                  clear htl hns hkr hlen
                  rcases hk with hk | hk
                  · rw [hk] at e0
                    have HPUT := Lib.hid (fun w => show Calls Tryd.prog 14 #[.string ⟨⟨t0⟩⟩, .int .i64 h.a, .string ⟨⟨h.ty⟩⟩] w fun e w' => e = .returned (.tuple #[.string ⟨⟨(putF t0 h.a h.ty).2⟩⟩, errH (putF t0 h.a h.ty).1]) ∧ Below w.heap.size w w' from put_calls t0 (by omega) h.a h.ty ht w)
                    have HR2 := Lib.hid (show h.typed = putF t0 h.a h.ty by rw [HR.out, hk]; rfl)
                    clear hk HR
                    generalize putF t0 h.a h.ty = r at *
                    go_upto_region 19 with fail
                    refine wp_region_quiet_below (by kernel_rfl) (by kernel_rfl) ?_
                    repeat (first | go_big_quiet_step (exact Calls.regrown_of (HPUT.out _)) | quiet_step (exact Calls.regrown_of (HPUT.out _)))
                    refine wpQuiet_nil ?_
                    intro _ hw'
                    obtain ⟨⟨dq, osq⟩, hw''⟩ := hw'
                    subst hw''
                    have HBQ := Lib.hid (HMB.out _ (HG.out dq osq))
                    go_wp2_with fail
                    go_ret2
                    exact ⟨by rw [HR2.out]; rfl, HBQ.out⟩
                  · rw [hk] at e0
                    have HPUT := Lib.hid (fun w (hw : Below wr.heap.size wr w) => show Calls Tryd.prog 15 #[.string ⟨⟨t0⟩⟩, .slice h.pa h.pos.length h.pc, .string ⟨⟨h.ty⟩⟩] w fun e w' => e = .returned (.tuple #[.string ⟨⟨(permF t0 h.pos h.ty).2⟩⟩, errH (permF t0 h.pos h.ty).1]) ∧ Below w.heap.size w w' from perm_calls t0 (by omega) h.pos h.pa h.pc h.ty ht hm w (HPP.out.below hw))
                    have HR2 := Lib.hid (show h.typed = permF t0 h.pos h.ty by rw [HR.out, hk]; rfl)
                    clear hk HR
                    generalize permF t0 h.pos h.ty = r at *
                    go_upto_region 21 with fail
                    refine wp_region_quiet_below (by kernel_rfl) (by kernel_rfl) ?_
                    repeat (first | go_big_quiet_step (exact Calls.regrown_of (HPUT.out _ (HG.out _ _))) | quiet_step (exact Calls.regrown_of (HPUT.out _ (HG.out _ _))))
                    refine wpQuiet_nil ?_
                    intro _ hw'
                    obtain ⟨⟨dq, osq⟩, hw''⟩ := hw'
                    subst hw''
                    have HBQ := Lib.hid (HMB.out _ (HG.out dq osq))
                    go_wp2_with fail
                    go_ret2
                    exact ⟨by rw [HR2.out]; rfl, HBQ.out⟩
                · subst hn2'
                  obtain ⟨t0, t1, rfl⟩ : ∃ t0 t1, X = [t0, t1] := by
                    match X, htl with
                    | [t, u], _ => exact ⟨t, u, rfl⟩
                  have ht0 := HL2.out t0 (by simp)
                  have ht1 := HL2.out t1 (by simp)
                  obtain ⟨g, off, rfl, hgl, hgc, hgd⟩ : ∃ b off, A = some ⟨b, off, none⟩ ∧ b < wr.heap.size ∧ wr.cell? ⟨b, off, none⟩ = some (.string ⟨⟨t0⟩⟩) ∧ wr.cell? ⟨b, off + 1, none⟩ = some (.string ⟨⟨t1⟩⟩) := by
                    rcases HSR.out.2 with h | ⟨b, off, rfl, hlt, hc⟩
                    · cases h
                    · exact ⟨b, off, rfl, hlt, hc 0 t0 rfl, hc 1 t1 rfl⟩
                  obtain ⟨e0, e1, e2, e3, e4⟩ := HCE.out
                  clear htl hns hkr hlen
                  have HFL := Lib.hid (fun (many : Nat) w => filled_calls t0 t1 (by omega) (by omega) h.a many w)
                  have HS1 := Lib.hid (fun W' (hb : Below wr.heap.size wr W') => (show W'.cell? ⟨w.heap.size, 2, none⟩ = some (.int .i64 h.a) ∧ W'.cell? ⟨g, off, none⟩ = some (.string ⟨⟨t0⟩⟩) ∧ W'.cell? ⟨g, off + 1, none⟩ = some (.string ⟨⟨t1⟩⟩) from ⟨(hb.cell (p := ⟨w.heap.size, 2, none⟩) hwl).trans e2, (hb.cell (p := ⟨g, off, none⟩) hgl).trans hgc, (hb.cell (p := ⟨g, off + 1, none⟩) hgl).trans hgd⟩))
                  have hb0 := Below.refl wr.heap.size wr
                  rcases hk with hk | hk
                  · rw [hk] at e0
                    have HFM := Lib.hid (show ∀ w, Calls Tryd.prog 16 #[.string ⟨⟨t0⟩⟩, .string ⟨⟨t1⟩⟩, .int .i64 h.a, .int .i64 0] w (FillRes (filledF t0 t1 h.a 0) w) from fun w => HFL.out 0 w)
                    have HR2 := Lib.hid (show h.typed = if (filledF t0 t1 h.a 0).1 ≠ 0 then ((filledF t0 t1 h.a 0).1, []) else dropF t0 h.a by rw [HR.out, hk]; rfl)
                    clear hk HR HFL
                    generalize filledF t0 t1 h.a 0 = r at *
                    by_cases hr0 : r.1 = 0
                    · have HFN := Lib.hid (show ∀ w, Calls Tryd.prog 16 #[.string ⟨⟨t0⟩⟩, .string ⟨⟨t1⟩⟩, .int .i64 h.a, .int .i64 0] w (fun e w' => ∃ a cap, e = .returned (.tuple #[.slice a r.2.length cap, .nilIface]) ∧ SRow w' a cap r.2 ∧ Below w.heap.size w w') from fun w => (HFM.out w).mono (fun e w' hq => by
                        rcases hq with ⟨hb, ⟨h1, _⟩ | ⟨_, a, c, he, hs⟩⟩
                        · exact absurd hr0 h1
                        · exact ⟨a, c, he, hs, hb⟩))
                      have HR3 := Lib.hid (show h.typed = dropF t0 h.a by rw [HR2.out, if_neg (by simpa using hr0)])
                      clear HFM HR2 hr0
                      go_upto_region 23 with fail
                      go_cut [1, 6, 12] (fun s1 s6 s12 wx => s1 = .pointer (some ⟨w.heap.size, 0, none⟩) ∧ s6 = .slice (some ⟨g, off, none⟩) 2 C ∧ s12 = .nilIface ∧ Below wr.heap.size wr wx)
                      case first =>
                        go_region_held3 (fun W' => W'.cell? ⟨w.heap.size, 2, none⟩ = some (.int .i64 h.a) ∧ W'.cell? ⟨g, off, none⟩ = some (.string ⟨⟨t0⟩⟩) ∧ W'.cell? ⟨g, off + 1, none⟩ = some (.string ⟨⟨t1⟩⟩))
                          (exact HS1.out _ (by repeat (first | exact hb2 | exact hb0 | refine Below.drew ?_)))
                          ((go_at_call 16
                            refine (HFN.out _).mono ?_
                            rintro e w2 ⟨a2, cap2, rfl, hs2, hb2c⟩
                            have hb2 : Below wr.heap.size wr w2 := (Below.drew hb0).trans hb2c))
                        all_goals
                          go_wp2_with fail
                          go_meet
                          exact ⟨rfl, rfl, rfl, hb2⟩
                      case rest =>
                        obtain ⟨rfl, rfl, rfl, hb2⟩ := hcut
                        have hsz2 := hb2.size
                        have HG2 := Lib.hid (fun (d : Nat) (os : Array Obj) => below_regrown wc d os)
                        obtain ⟨k2, k0, k1⟩ := HS1.out _ hb2
                        have hwl2 := Nat.lt_of_lt_of_le hwl hsz2
                        have hgl0 := Nat.lt_of_lt_of_le hgl hsz2
                        have gt0 := fun (d : Nat) (os : Array Obj) => ((HG2.out d os).cell (p := ⟨g, off, none⟩) hgl0).trans k0
                        have gc2 := fun (d : Nat) (os : Array Obj) => ((HG2.out d os).cell (p := ⟨w.heap.size, 2, none⟩) hwl2).trans k2
                        have HB2X := Lib.hid (HMB.out _ hb2)
                        have HPUT := Lib.hid (fun w => show Calls Tryd.prog 17 #[.string ⟨⟨t0⟩⟩, .int .i64 h.a] w fun e w' => e = .returned (.tuple #[.string ⟨⟨(dropF t0 h.a).2⟩⟩, errH (dropF t0 h.a).1]) ∧ Below w.heap.size w w' from drop_exact t0 (by omega) h.a w)
                        clear hb2
                        generalize dropF t0 h.a = q at *
                        go_upto_region 26 with fail
                        refine wp_region_quiet_below (by kernel_rfl) (by kernel_rfl) ?_
                        repeat (first | go_big_quiet_step (exact Calls.regrown_of (HPUT.out _)) | quiet_step (exact Calls.regrown_of (HPUT.out _)))
                        refine wpQuiet_nil ?_
                        intro _ hw'
                        obtain ⟨⟨dq, osq⟩, hw''⟩ := hw'
                        subst hw''
                        have HBQ := Lib.hid (bl_trans HB2X.out (HG2.out dq osq))
                        go_wp2_with fail
                        go_ret2
                        exact ⟨by rw [HR3.out]; rfl, HBQ.out⟩
                    · have HFN := Lib.hid (show ∀ w, Calls Tryd.prog 16 #[.string ⟨⟨t0⟩⟩, .string ⟨⟨t1⟩⟩, .int .i64 h.a, .int .i64 0] w (fun e w' => e = .returned (.tuple #[.slice none 0 0, errV r.1]) ∧ Below w.heap.size w w') from fun w => (HFM.out w).mono (fun e w' hq => by
                        rcases hq with ⟨hb, ⟨_, he⟩ | ⟨h1, _⟩⟩
                        · exact ⟨he, hb⟩
                        · exact absurd h1 hr0))
                      have HR3 := Lib.hid (show h.typed = (r.1, []) by rw [HR2.out, if_pos hr0])
                      have HZ3 := Lib.hid (errH_pos hr0)
                      clear HFM HR2 hr0
                      go_upto_region 23 with fail
                      go_cut [1, 6, 12] (fun s1 s6 s12 wx => s1 = .pointer (some ⟨w.heap.size, 0, none⟩) ∧ s6 = .slice (some ⟨g, off, none⟩) 2 C ∧ s12 = errV r.1 ∧ Below wr.heap.size wr wx)
                      case first =>
                        go_region_held3 (fun W' => W'.cell? ⟨w.heap.size, 2, none⟩ = some (.int .i64 h.a) ∧ W'.cell? ⟨g, off, none⟩ = some (.string ⟨⟨t0⟩⟩) ∧ W'.cell? ⟨g, off + 1, none⟩ = some (.string ⟨⟨t1⟩⟩))
                          (exact HS1.out _ (by repeat (first | exact hb2 | exact hb0 | refine Below.drew ?_)))
                          ((go_at_call 16
                            refine (HFN.out _).mono ?_
                            rintro e w2 ⟨rfl, hb2c⟩
                            have hb2 : Below wr.heap.size wr w2 := (Below.drew hb0).trans hb2c))
                        all_goals
                          go_wp2_with fail
                          go_meet
                          exact ⟨rfl, rfl, rfl, hb2⟩
                      case rest =>
                        obtain ⟨rfl, rfl, rfl, hb2⟩ := hcut
                        have HB2X := Lib.hid (HMB.out _ hb2)
                        clear hb2
                        go_wp2_with fail
                        go_ret2
                        exact ⟨by rw [HR3.out, HZ3.out]; rfl, HB2X.out⟩
                  · rw [hk] at e0
                    have HFM := Lib.hid (show ∀ w, Calls Tryd.prog 16 #[.string ⟨⟨t0⟩⟩, .string ⟨⟨t1⟩⟩, .int .i64 h.a, .int .i64 1] w (FillRes (filledF t0 t1 h.a 1) w) from fun w => HFL.out 1 w)
                    have HR2 := Lib.hid (show h.typed = if (filledF t0 t1 h.a 1).1 ≠ 0 then ((filledF t0 t1 h.a 1).1, []) else changeF t0 h.a ((filledF t0 t1 h.a 1).2.getD 0 []) by rw [HR.out, hk]; rfl)
                    have hl1 := filled_len t0 t1 h.a 1
                    have hl2 := filled_small t0 t1 h.a 1
                    clear hk HR HFL
                    generalize filledF t0 t1 h.a 1 = r at *
                    by_cases hr0 : r.1 = 0
                    · have HFN := Lib.hid (show ∀ w, Calls Tryd.prog 16 #[.string ⟨⟨t0⟩⟩, .string ⟨⟨t1⟩⟩, .int .i64 h.a, .int .i64 1] w (fun e w' => ∃ a cap, e = .returned (.tuple #[.slice a r.2.length cap, .nilIface]) ∧ SRow w' a cap r.2 ∧ Below w.heap.size w w') from fun w => (HFM.out w).mono (fun e w' hq => by
                        rcases hq with ⟨hb, ⟨h1, _⟩ | ⟨_, a, c, he, hs⟩⟩
                        · exact absurd hr0 h1
                        · exact ⟨a, c, he, hs, hb⟩))
                      obtain ⟨u, hu⟩ : ∃ u, r.2 = [u] := by
                        match hq : r.2, hl1 hr0 with
                        | [u], _ => exact ⟨u, rfl⟩
                      have HR3 := Lib.hid (show h.typed = changeF t0 h.a u by rw [HR2.out, if_neg (by simpa using hr0), hu]; rfl)
                      have hul : u.length ≤ 8388608 := by have := hl2 u (by rw [hu]; simp); omega
                      rw [hu] at HFN
                      clear HFM HR2 hr0
                      go_upto_region 27 with fail
                      go_cut [1, 6, 13, 14] (fun s1 s6 s13 s14 wx => s1 = .pointer (some ⟨w.heap.size, 0, none⟩) ∧ s6 = .slice (some ⟨g, off, none⟩) 2 C ∧ (∃ a cap, s13 = .slice a 1 cap ∧ SRow wx a cap [u]) ∧ s14 = .nilIface ∧ Below wr.heap.size wr wx)
                      case first =>
                        go_region_held3 (fun W' => W'.cell? ⟨w.heap.size, 2, none⟩ = some (.int .i64 h.a) ∧ W'.cell? ⟨g, off, none⟩ = some (.string ⟨⟨t0⟩⟩) ∧ W'.cell? ⟨g, off + 1, none⟩ = some (.string ⟨⟨t1⟩⟩))
                          (exact HS1.out _ (by repeat (first | exact hb2 | exact hb0 | refine Below.drew ?_)))
                          ((go_at_call 16
                            refine (HFN.out _).mono ?_
                            rintro e w2 ⟨a2, cap2, rfl, hs2, hb2c⟩
                            have hb2 : Below wr.heap.size wr w2 := (Below.drew hb0).trans hb2c))
                        all_goals
                          go_wp2_with fail
                          go_meet
                          exact ⟨rfl, rfl, ⟨_, _, rfl, hs2⟩, rfl, hb2⟩
                      case rest =>
                        obtain ⟨rfl, rfl, ⟨a2, c2, rfl, hs2⟩, rfl, hb2⟩ := hcut
                        obtain ⟨g2, off2, rfl, hgl2, hgc2⟩ : ∃ b off, a2 = some ⟨b, off, none⟩ ∧ b < wc.heap.size ∧ wc.cell? ⟨b, off, none⟩ = some (.string ⟨⟨u⟩⟩) := by
                          rcases hs2.2 with h | ⟨b, off, rfl, hlt, hc⟩
                          · cases h
                          · exact ⟨b, off, rfl, hlt, hc 0 u rfl⟩
                        have hsz2 := hb2.size
                        have HG2 := Lib.hid (fun (d : Nat) (os : Array Obj) => below_regrown wc d os)
                        obtain ⟨k2, k0, k1⟩ := HS1.out _ hb2
                        have hwl2 := Nat.lt_of_lt_of_le hwl hsz2
                        have hgl0 := Nat.lt_of_lt_of_le hgl hsz2
                        have gt0 := fun (d : Nat) (os : Array Obj) => ((HG2.out d os).cell (p := ⟨g, off, none⟩) hgl0).trans k0
                        have gc2 := fun (d : Nat) (os : Array Obj) => ((HG2.out d os).cell (p := ⟨w.heap.size, 2, none⟩) hwl2).trans k2
                        have gu := fun (d : Nat) (os : Array Obj) => ((HG2.out d os).cell (p := ⟨g2, off2, none⟩) hgl2).trans hgc2
                        have HB2X := Lib.hid (HMB.out _ hb2)
                        have HPUT := Lib.hid (fun w => show Calls Tryd.prog 18 #[.string ⟨⟨t0⟩⟩, .int .i64 h.a, .string ⟨⟨u⟩⟩] w fun e w' => e = .returned (.tuple #[.string ⟨⟨(changeF t0 h.a u).2⟩⟩, errH (changeF t0 h.a u).1]) ∧ Below w.heap.size w w' from change_calls t0 (by omega) h.a u hul w)
                        clear hb2 hs2
                        generalize changeF t0 h.a u = q at *
                        go_upto_region 30 with fail
                        refine wp_region_quiet_below (by kernel_rfl) (by kernel_rfl) ?_
                        repeat (first | go_big_quiet_step (exact Calls.regrown_of (HPUT.out _)) | quiet_step (exact Calls.regrown_of (HPUT.out _)))
                        refine wpQuiet_nil ?_
                        intro _ hw'
                        obtain ⟨⟨dq, osq⟩, hw''⟩ := hw'
                        subst hw''
                        have HBQ := Lib.hid (bl_trans HB2X.out (HG2.out dq osq))
                        go_wp2_with fail
                        go_ret2
                        exact ⟨by rw [HR3.out]; rfl, HBQ.out⟩
                    · have HFN := Lib.hid (show ∀ w, Calls Tryd.prog 16 #[.string ⟨⟨t0⟩⟩, .string ⟨⟨t1⟩⟩, .int .i64 h.a, .int .i64 1] w (fun e w' => e = .returned (.tuple #[.slice none 0 0, errV r.1]) ∧ Below w.heap.size w w') from fun w => (HFM.out w).mono (fun e w' hq => by
                        rcases hq with ⟨hb, ⟨_, he⟩ | ⟨h1, _⟩⟩
                        · exact ⟨he, hb⟩
                        · exact absurd h1 hr0))
                      have HR3 := Lib.hid (show h.typed = (r.1, []) by rw [HR2.out, if_pos hr0])
                      have HZ3 := Lib.hid (errH_pos hr0)
                      clear HFM HR2 hr0 hl1 hl2
                      go_upto_region 27 with fail
                      go_cut [1, 6, 14] (fun s1 s6 s12 wx => s1 = .pointer (some ⟨w.heap.size, 0, none⟩) ∧ s6 = .slice (some ⟨g, off, none⟩) 2 C ∧ s12 = errV r.1 ∧ Below wr.heap.size wr wx)
                      case first =>
                        go_region_held3 (fun W' => W'.cell? ⟨w.heap.size, 2, none⟩ = some (.int .i64 h.a) ∧ W'.cell? ⟨g, off, none⟩ = some (.string ⟨⟨t0⟩⟩) ∧ W'.cell? ⟨g, off + 1, none⟩ = some (.string ⟨⟨t1⟩⟩))
                          (exact HS1.out _ (by repeat (first | exact hb2 | exact hb0 | refine Below.drew ?_)))
                          ((go_at_call 16
                            refine (HFN.out _).mono ?_
                            rintro e w2 ⟨rfl, hb2c⟩
                            have hb2 : Below wr.heap.size wr w2 := (Below.drew hb0).trans hb2c))
                        all_goals
                          go_wp2_with fail
                          go_meet
                          exact ⟨rfl, rfl, rfl, hb2⟩
                      case rest =>
                        obtain ⟨rfl, rfl, rfl, hb2⟩ := hcut
                        have HB2X := Lib.hid (HMB.out _ hb2)
                        clear hb2
                        go_wp2_with fail
                        go_ret2
                        exact ⟨by rw [HR3.out, HZ3.out]; rfl, HB2X.out⟩
        · have HR := Lib.hid (show h.typed = (8, []) by rw [HT2.out, if_pos hln])
          have hl1 : ((h.subs.length : Int) != (n : Int)) = true := by simp; omega
          have hl2 : (h.subs.length != n) = true := by simp; omega
          have hl3 : (h.subs.length == n) = false := by rw [beq_eq_false_iff_ne]; exact hln
          have hl4 : ((h.subs.length : Int) == (n : Int)) = false := by rw [beq_eq_false_iff_ne]; omega
          clear hln
          go_wp2_with fail
          go_ret2
          exact ⟨by rw [HR.out]; rfl, HB2.out⟩
end Go.Proofs.YtkobgmacoakelaaDoor
