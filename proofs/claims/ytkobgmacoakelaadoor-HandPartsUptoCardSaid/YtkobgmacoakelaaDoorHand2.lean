/-
  slices.Insert of one text into a row of the call's own.
-/
import Derived.Test.YtkobgmacoakelaaDoorBase
import Derived.Test.YtkobgmacoakelaaDoorBlkG
import Derived.Test.YtkobgmacoakelaaDoorShelfIns
import Derived.Laws.IdiomCopy
namespace Go.Proofs.YtkobgmacoakelaaDoor
set_option linter.unusedVariables false
set_option linter.unusedSimpArgs false
open Go.RowKit Go.Shelf Go.Lib

theorem below_setCells {W : World} {B g : Nat} (hg : B ≤ g) : ∀ (vs : List Value) (o : Nat) (w : World), Below B W w → Below B W (w.setCells g o vs)
  | [], _, _, h => h
  | v :: r, o, w, h => below_setCells hg r (o + 1) _ (h.setCell (p := ⟨g, o, none⟩) hg v)
theorem size_setCells (g : Nat) : ∀ (vs : List Value) (o : Nat) (w : World), (w.setCells g o vs).heap.size = w.heap.size
  | [], _, _ => rfl
  | v :: r, o, w => by rw [World.setCells, size_setCells g r]; simp [World.setCell]
theorem some_setCells (g : Nat) (vs : List Value) (o : Nat) (w : World) (h : ∀ j, j < vs.length → (w.cell? ⟨g, o + j, none⟩).isSome = true) {k : Nat} (hk : (w.cell? ⟨g, k, none⟩).isSome = true) : ((w.setCells g o vs).cell? ⟨g, k, none⟩).isSome = true := by
  by_cases hin : o ≤ k ∧ k < o + vs.length
  · have := World.cell?_setCells_in g vs o w h (k - o) (by omega)
    rw [show o + (k - o) = k by omega] at this
    rw [this]; rfl
  · rw [World.cell?_setCells_out g vs o w ⟨g, k, none⟩ (fun _ _ => by show k < o ∨ o + vs.length ≤ k; omega)]
    exact hk

def putL (A : List (List UInt8)) (k : Nat) (t : List UInt8) : List (List UInt8) := A.take k ++ t :: A.drop k
theorem putL_len (A : List (List UInt8)) (k : Nat) (t : List UInt8) : (putL A k t).length = A.length + 1 := by unfold putL; simp; omega
theorem putL_get {A : List (List UInt8)} {k j : Nat} {t x : List UInt8} (hk : k ≤ A.length) (h : (putL A k t)[j]? = some x) : (j < k ∧ A[j]? = some x) ∨ (j = k ∧ x = t) ∨ (k < j ∧ A[j - 1]? = some x) := by
  unfold putL at h
  have hl : (A.take k).length = k := by rw [List.length_take]; omega
  by_cases h1 : j < k
  · left
    rw [List.getElem?_append_left (by omega), List.getElem?_take_of_lt h1] at h
    exact ⟨h1, h⟩
  · rw [List.getElem?_append_right (by omega), hl] at h
    by_cases h2 : j = k
    · subst h2
      simp at h
      exact Or.inr (Or.inl ⟨rfl, h.symm⟩)
    · obtain ⟨d, hd⟩ : ∃ d, j - k = d + 1 := ⟨j - k - 1, by omega⟩
      rw [hd, List.getElem?_cons_succ, List.getElem?_drop] at h
      refine Or.inr (Or.inr ⟨by omega, ?_⟩)
      rw [show j - 1 = k + d by omega]; exact h

def InsRes (A : List (List UInt8)) (k : Nat) (t : List UInt8) (B : Nat) (W : World) (e : Ending) (w' : World) : Prop :=
  ∃ a cap, e = .returned (.slice a (A.length + 1) cap) ∧ SRow w' a cap (putL A k t) ∧ Below B W w'

theorem strs_one (A : List (List UInt8)) : ∀ v ∈ A.map strV, v.oneCell' = true := by
  intro v hv
  obtain ⟨x, _, rfl⟩ := List.mem_map.1 hv
  rfl

theorem insert_own (A : List (List UInt8)) (v : Value) (k : Nat) (t : List UInt8) (vb : Nat) (W : World) (B : Nat) (hk : k ≤ A.length) (hl : A.length ≤ 1000) (hown : W.ownsRow B 9 1 v A.length (A.map strV)) (hb : Blk W vb 9 #[strV t]) (hne : v.ownBlock ≠ some vb) (hB : B ≤ W.heap.size) :
    Calls Tryd.prog 33 #[v, .int .i64 (k : Int), .slice (some ⟨vb, 0, none⟩) 1 1] W (InsRes A k t B W) := by
  have hvs : ∀ j u, ([strV t] : List Value)[j]? = some u → W.cell? ⟨vb, 0 + j, none⟩ = some u := by
    intro j u hj
    rw [hb.cell, Nat.zero_add]
    simpa using hj
  have h1v : ∀ u ∈ ([strV t] : List Value), u.oneCell' = true := by
    intro u hu
    rw [List.mem_singleton.1 hu]; rfl
  rcases hown.2 with ⟨rfl, h0⟩ | ⟨g, cap, cur, rfl, hBg, hg, hle, hm, hcs, htk⟩
  · have hA : A = [] := List.eq_nil_of_length_eq_zero h0
    subst hA
    obtain rfl : k = 0 := by simpa using hk
    refine (Any2.slices_Insert_string_end_grow Tryd.laysNm222 none 0 0 vb 0 1 1 [] [strV t] W (by omega) (by omega) (by omega) (by omega) rfl rfl (fun _ => rfl) (fun a h => by cases h) hvs h1v).mono ?_
    rintro e w' ⟨rfl, rfl⟩
    refine ⟨_, _, rfl, ⟨?_, Or.inr ⟨W.heap.size, 0, rfl, by simp, fun j x hx => ?_⟩⟩, (Below.drew (Below.refl B W)).alloc hB _⟩
    · show 1 ≤ _
      exact grownCap_ge W (0 + 1) 0 _
    · rcases putL_get (A := []) (by simp) hx with ⟨h, _⟩ | ⟨rfl, rfl⟩ | ⟨h, h2⟩
      · omega
      · show (World.alloc W.drew _).cell? ⟨W.drew.heap.size, 0 + 0, none⟩ = _
        rw [World.cell?_alloc_new, Array.getElem?_append_left (by simp)]
        rfl
      · simp at h2
  · simp only [Nat.mul_one] at hcs htk
    have hbk : Blk W g 9 cur := hg
    have hcell : ∀ j u, (A.map strV)[j]? = some u → W.cell? ⟨g, 0 + j, none⟩ = some u := by
      intro j u hj
      rw [hbk.cell, Nat.zero_add]
      have hjl : j < (A.map strV).length := (List.getElem?_eq_some_iff.1 hj).1
      rw [← htk] at hj
      rw [List.length_map] at hjl
      rw [List.getElem?_take_of_lt hjl] at hj
      rw [← Array.getElem?_toList]; exact hj
    have hsome : ∀ j, j < cap → (W.cell? ⟨g, 0 + j, none⟩).isSome = true := by
      intro j hj
      rw [hbk.cell, Nat.zero_add]
      simp; omega
    have hfz : ∀ j, W.frozen? ⟨g, 0 + j, none⟩ = false := fun j => hbk.frozen _
    have hneb : vb ≠ g := fun e => hne (by rw [e]; rfl)
    have hlm : (A.map strV).length = A.length := List.length_map _
    by_cases hend : k = A.length
    · subst hend
      by_cases hroom : A.length + 1 ≤ cap
      · refine (Any2.slices_Insert_string_end_room Tryd.laysNm222 g 0 A.length cap vb 0 1 1 [strV t] W (by omega) hroom (by unfold maxLen at hm; omega) rfl (fun j hj => by rw [show 0 + A.length + j = 0 + (A.length + j) by omega]; exact hsome _ (by omega)) (fun j _ => hbk.frozen _) hvs h1v).mono ?_
        rintro e w' ⟨rfl, rfl⟩
        refine ⟨_, _, rfl, ⟨by rw [putL_len]; exact hroom, Or.inr ⟨g, 0, rfl, by rw [size_setCells]; exact hbk.lt, fun j x hx => ?_⟩⟩, below_setCells hBg _ _ _ (Below.refl _ _)⟩
        rcases putL_get (Nat.le_refl _) hx with ⟨h, h2⟩ | ⟨rfl, rfl⟩ | ⟨h, h2⟩
        · rw [World.cell?_setCells_out g _ _ _ _ (fun _ _ => by show 0 + j < 0 + A.length ∨ _; omega)]
          exact hcell j _ (by rw [List.getElem?_map, h2]; rfl)
        · have := World.cell?_setCells_in g [strV x] (0 + A.length) W (fun i hi => by simp at hi; subst hi; exact hsome (A.length + 0) (by omega)) 0 (by simp)
          simpa using this
        · have := (List.getElem?_eq_some_iff.1 h2).1
          omega
      · refine (Any2.slices_Insert_string_end_grow Tryd.laysNm222 (some ⟨g, 0, none⟩) A.length cap vb 0 1 1 (A.map strV) [strV t] W (by omega) hle (by omega) (by omega) hlm rfl (fun h => by cases h) (fun a h j u hj => by cases h; rw [Addr.add_lit]; exact hcell j u hj) hvs h1v).mono ?_
        rintro e w' ⟨rfl, rfl⟩
        refine ⟨_, _, rfl, ⟨by rw [putL_len]; exact grownCap_ge W _ _ _, Or.inr ⟨W.heap.size, 0, rfl, by simp, fun j x hx => ?_⟩⟩, (Below.drew (Below.refl B W)).alloc hB _⟩
        show (World.alloc W.drew _).cell? ⟨W.drew.heap.size, 0 + j, none⟩ = _
        rw [World.cell?_alloc_new, Nat.zero_add]
        have hjl : j < A.length + 1 := by have := (List.getElem?_eq_some_iff.1 hx).1; rw [putL_len] at this; exact this
        rw [Array.getElem?_append_left (by simp; omega), List.getElem?_toArray]
        unfold putL at hx
        rw [List.take_length, List.drop_length] at hx
        rw [show A.map strV ++ [strV t] = (A ++ [t]).map strV by simp, List.getElem?_map, hx]
        rfl
    · have hki : k < A.length := by omega
      by_cases hroom : A.length + 1 ≤ cap
      · refine (Any2.slices_Insert_string_shift Tryd.laysNm222 g 0 A.length cap k vb 0 1 1 (A.map strV) [strV t] W hki (by omega) hroom (by unfold maxLen at hm; omega) hneb hlm rfl hcell (fun j hj => hsome j (by omega)) (fun j _ => hfz j) hvs (strs_one A) h1v 9 9 1 cap (by unfold World.shape?; rw [show W.heap[vb]? = _ from hb]; rfl) (by unfold World.shape?; rw [hg]; simp [hcs]) (by omega) (hb.frozen _) (hb.frozen _)).mono ?_
        rintro e w' ⟨rfl, rfl⟩
        have hdl : (List.drop k (A.map strV)).length = A.length - k := by simp
        have hs1 : ∀ i, i < (List.drop k (A.map strV)).length → (W.drew.cell? ⟨g, 0 + (k + 1) + i, none⟩).isSome = true := fun i hi => by
          rw [show 0 + (k + 1) + i = 0 + (k + 1 + i) by omega]; exact hsome _ (by omega)
        have hs2 : ∀ i, i < ([strV t] : List Value).length → ((W.drew.setCells g (0 + (k + 1)) (List.drop k (A.map strV))).cell? ⟨g, 0 + k + i, none⟩).isSome = true := fun i hi => by
          refine some_setCells g _ _ _ hs1 ?_
          rw [show 0 + k + i = 0 + (k + i) by omega]
          exact hsome _ (by simp at hi; omega)
        refine ⟨_, _, rfl, ⟨by rw [putL_len]; exact hroom, Or.inr ⟨g, 0, rfl, by rw [size_setCells, size_setCells]; exact hbk.lt, fun j x hx => ?_⟩⟩, below_setCells hBg _ _ _ (below_setCells hBg _ _ _ (Below.drew (Below.refl _ _)))⟩
        rcases putL_get hk hx with ⟨h, h2⟩ | ⟨rfl, rfl⟩ | ⟨h, h2⟩
        · rw [World.cell?_setCells_out g _ _ _ _ (fun _ _ => by show 0 + j < 0 + k ∨ _; omega), World.cell?_setCells_out g _ _ _ _ (fun _ _ => by show 0 + j < 0 + (k + 1) ∨ _; omega)]
          exact hcell j _ (by rw [List.getElem?_map, h2]; rfl)
        · have := World.cell?_setCells_in g [strV x] (0 + j) _ hs2 0 (by simp)
          simpa using this
        · have hjl := (List.getElem?_eq_some_iff.1 h2).1
          rw [World.cell?_setCells_out g _ _ _ _ (fun _ _ => by show 0 + j < 0 + k ∨ 0 + k + 1 ≤ 0 + j; omega)]
          have := World.cell?_setCells_in g (List.drop k (A.map strV)) (0 + (k + 1)) W.drew hs1 (j - (k + 1)) (by omega)
          rw [show 0 + (k + 1) + (j - (k + 1)) = 0 + j by omega] at this
          rw [this]
          have e1 : (List.drop k (A.map strV))[j - (k + 1)]? = some (strV x) := by
            rw [List.getElem?_drop, show k + (j - (k + 1)) = j - 1 by omega, List.getElem?_map, h2]; rfl
          rw [List.getElem?_eq_getElem (by omega)] at e1
          exact e1
      · refine (Any2.slices_Insert_string_grow Tryd.laysNm222 g 0 A.length cap k vb 0 1 1 (A.map strV) [strV t] W hki (by omega) hle (by omega) (by omega) hlm rfl hcell hvs (strs_one A) h1v).mono ?_
        rintro e w' ⟨rfl, rfl⟩
        obtain ⟨gc, hgc⟩ : ∃ gc, gc = grownCap W (A.length + 1) cap (Tryd.laysNm222_ren.t 9) := ⟨_, rfl⟩
        have hgl : A.length + 1 ≤ gc := by rw [hgc]; exact grownCap_ge W _ _ _
        rw [← hgc]
        obtain ⟨W0, hW0⟩ : ∃ W0, W0 = W.alloc (.cells (((A.map strV).take k).toArray ++ Builtin.zeroCells (Value.string ⟨#[]⟩).cells (A.length + 1 - k) ++ Builtin.zeroCells (Value.string ⟨#[]⟩).cells (gc - (A.length + 1))) 9) := ⟨_, rfl⟩
        have hzc : ∀ n, (Builtin.zeroCells (Value.string ⟨#[]⟩).cells n).size = n := fun n => by rw [size_zeroCells]; exact Nat.mul_one n
        have hnew : ∀ j, W0.cell? ⟨W.heap.size, j, none⟩ = (((A.map strV).take k).toArray ++ Builtin.zeroCells (Value.string ⟨#[]⟩).cells (A.length + 1 - k) ++ Builtin.zeroCells (Value.string ⟨#[]⟩).cells (gc - (A.length + 1)))[j]? := fun j => by rw [hW0, World.cell?_alloc_new]
        have htl : ((A.map strV).take k).length = k := by simp; omega
        have hsz : ∀ j, j < gc → (W0.cell? ⟨W.heap.size, j, none⟩).isSome = true := fun j hj => by
          rw [hnew j]
          rw [Array.getElem?_eq_getElem (by simp only [Array.size_append, hzc, List.size_toArray, htl]; omega)]
          rfl
        have hw0s : W0.heap.size = W.heap.size + 1 := by rw [hW0]; simp
        have hb0 : Below B W W0 := by rw [hW0]; exact (Below.refl B W).alloc hB _
        have hold : ∀ j x, j < k → A[j]? = some x → W0.cell? ⟨W.heap.size, j, none⟩ = some (strV x) := fun j x hj hx => by
          rw [hnew j, Array.getElem?_append_left (by simp only [Array.size_append, hzc, List.size_toArray, htl]; omega), Array.getElem?_append_left (by rw [List.size_toArray, htl]; exact hj), List.getElem?_toArray, List.getElem?_take_of_lt hj, List.getElem?_map, hx]
          rfl
        rw [show W.alloc (.cells (((A.map strV).take k).toArray ++ Builtin.zeroCells (Value.string ⟨#[]⟩).cells (A.length + 1 - k) ++ Builtin.zeroCells (Value.string ⟨#[]⟩).cells (gc - (A.length + 1))) (Tryd.laysNm222_ren.t 9)) = W0 from hW0.symm]
        clear hW0 hnew
        have hdl : (List.drop k (A.map strV)).length = A.length - k := by simp
        have hs1 : ∀ i, i < ([strV t] : List Value).length → (W0.drew.cell? ⟨W.heap.size, k + i, none⟩).isSome = true := fun i hi => hsz (k + i) (by simp at hi; omega)
        have hs2 : ∀ i, i < (List.drop k (A.map strV)).length → ((W0.drew.setCells W.heap.size k [strV t]).drew.cell? ⟨W.heap.size, k + 1 + i, none⟩).isSome = true := fun i hi => by
          refine some_setCells W.heap.size [strV t] k W0.drew hs1 ?_
          exact hsz (k + 1 + i) (by omega)
        refine ⟨_, _, rfl, ⟨by rw [putL_len]; exact hgl, Or.inr ⟨W.heap.size, 0, rfl, by rw [size_setCells]; show W.heap.size < (World.setCells _ _ _ _).heap.size; rw [size_setCells]; show W.heap.size < W0.heap.size; omega, fun j x hx => ?_⟩⟩, below_setCells hB _ _ _ (Below.drew (below_setCells hB _ _ _ (Below.drew hb0)))⟩
        rw [Nat.zero_add]
        rcases putL_get hk hx with ⟨h, h2⟩ | ⟨rfl, rfl⟩ | ⟨h, h2⟩
        · rw [World.cell?_setCells_out W.heap.size _ _ _ _ (fun _ _ => by show j < k + 1 ∨ _; omega)]
          show (World.setCells W0.drew W.heap.size k [strV t]).cell? _ = _
          rw [World.cell?_setCells_out W.heap.size _ _ _ _ (fun _ _ => by show j < k ∨ _; omega)]
          exact hold j x h h2
        · rw [World.cell?_setCells_out W.heap.size _ _ _ _ (fun _ _ => by show j < j + 1 ∨ _; omega)]
          have := World.cell?_setCells_in W.heap.size [strV x] j W0.drew hs1 0 (by simp)
          simpa using this
        · have hjl := (List.getElem?_eq_some_iff.1 h2).1
          have := World.cell?_setCells_in W.heap.size (List.drop k (A.map strV)) (k + 1) _ hs2 (j - (k + 1)) (by omega)
          rw [show k + 1 + (j - (k + 1)) = j by omega] at this
          rw [this]
          have e1 : (List.drop k (A.map strV))[j - (k + 1)]? = some (strV x) := by
            rw [List.getElem?_drop, show k + (j - (k + 1)) = j - 1 by omega, List.getElem?_map, h2]; rfl
          rw [List.getElem?_eq_getElem (by omega)] at e1
          exact e1
end Go.Proofs.YtkobgmacoakelaaDoor
