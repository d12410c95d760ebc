import Derived.Test.YtbnkckjdgpiggaaGreatDoorShelfInsI
import Derived.Test.YtbnkckjdgpiggaaGreatDoorPk
import Derived.Sort.OwnSortedInts
import Derived.Deep.RegionHeld
namespace Go.Proofs.YtbnkckjdgpiggaaGreatDoor
set_option maxRecDepth 100000
set_option maxHeartbeats 16000000
set_option linter.unusedVariables false
set_option linter.unusedSimpArgs false
open Go.RowKit Go.Shelf Go.Lib
theorem zh2 (a : Int) (w : World) : Calls Tryz.prog 16 #[.int .i64 a] w fun e w' => e = .returned (.int .i64 (wrap32 a)) /\ w = w' := by
 go_enter Tryz.func16, Tryz.ntmps16
 go_wp2_with fail
 go_ret
 exact ⟨by simp [wrap32]; unfold wrap64; omega, rfl⟩
theorem zxo (i a : Int) (hi : i = 1 \/ i = 2 \/ i = 3 \/ i = 6 \/ i = 7 \/ i = 8 \/ i = 9 \/ i = 10 \/ i = 11) (b : Int) : ∃ n t, ∀ w, Calls Tryz.prog 66 #[.int .i64 i, .int .i64 a, .int .i64 b] w fun e w' => e = .returned (.tuple #[.int .i64 n, .bool t]) /\ w = w' := by
 rcases hi with rfl | rfl | rfl | rfl | rfl | rfl | rfl | rfl | rfl
 all_goals
   apply Exists.intro
   apply Exists.intro
   intro w
   go_enter Tryz.func66, Tryz.ntmps66
   go_wp2_with fail
   go_ret2
   exact ⟨rfl, rfl⟩
theorem z0x (i a : Int) (hi : i = 4 \/ i = 5) (b : Int) : ∃ n t, ∀ w, Calls Tryz.prog 66 #[.int .i64 i, .int .i64 a, .int .i64 b] w fun e w' => e = .returned (.tuple #[.int .i64 n, .bool t]) /\ w = w' := by
 by_cases hb : b = 0
 . subst hb
   rcases hi with rfl | rfl
   all_goals
     apply Exists.intro
     apply Exists.intro
     intro w
     go_enter Tryz.func66, Tryz.ntmps66
     go_wp2_with fail
     go_ret2
     exact ⟨rfl, rfl⟩
 . have h0 : (b == 0) = false := by rw [beq_eq_false_iff_ne]; exact hb
   rcases hi with rfl | rfl
   all_goals
     apply Exists.intro
     apply Exists.intro
     intro w
     go_enter Tryz.func66, Tryz.ntmps66
     go_wp2_with fail
     go_ret2
     exact ⟨rfl, rfl⟩
theorem zxw (a : Int) : ∃ n t, ∀ b w, Calls Tryz.prog 66 #[.int .i64 12, .int .i64 a, .int .i64 b] w fun e w' => e = .returned (.tuple #[.int .i64 n, .bool t]) /\ w = w' := by
 apply Exists.intro
 apply Exists.intro
 intro b w
 go_enter Tryz.func66, Tryz.ntmps66
 go_wp2_with fail
 go_ret2
 exact ⟨rfl, rfl⟩
theorem zzi (b : Int) (n : Nat) (hn : n <= 63) : 0 <= bits .and .i64 b n /\ bits .and .i64 b n <= n := by
 have h1 : (BitVec.ofInt 64 b &&& BitVec.ofInt 64 (n : Int)).toNat <= n := by
   rw [BitVec.toNat_and, BitVec.ofInt_natCast, BitVec.toNat_ofNat]
   exact Nat.le_trans Nat.and_le_right (Nat.mod_le _ _)
 have h2 : bits .and .i64 b n = IntKind.i64.wrap ((BitVec.ofInt 64 b &&& BitVec.ofInt 64 (n : Int)).toNat : Int) := rfl
 rw [h2]
 generalize (BitVec.ofInt 64 b &&& BitVec.ofInt 64 (n : Int)).toNat = x at h1
 rw [IntKind.wrap_i64]
 omega
theorem zlm (i a b s : Int) (hi : i = 9 \/ i = 10 \/ i = 11) (hs : s = 32 \/ s = 64) : ∃ n, ∀ w, Calls Tryz.prog 67 #[.int .i64 i, .int .i64 a, .int .i64 b, .int .i64 s] w fun e w' => e = .returned (.int .i64 n) /\ w = w' := by
 obtain ⟨h1, h2⟩ : 0 <= bits .and .i64 b 31 /\ bits .and .i64 b 31 <= 31 := zzi b 31 (by omega)
 obtain ⟨h3, h4⟩ : 0 <= bits .and .i64 b 63 /\ bits .and .i64 b 63 <= 63 := zzi b 63 (by omega)
 rcases hi with rfl | rfl | rfl <;> rcases hs with rfl | rfl
 all_goals
   apply Exists.intro
   intro w
   go_enter Tryz.func67, Tryz.ntmps67
   go_wp2_with fail
   go_ret
   exact ⟨rfl, rfl⟩
def Num12 (i : Int) : Prop := 1 <= i /\ i <= 12
theorem zz0 (i a : Int) (hi : i = 9 \/ i = 10 \/ i = 11) (b : Int) (w : World) : Calls Tryz.prog 66 #[.int .i64 i, .int .i64 a, .int .i64 b] w fun e w' => e = .returned (.tuple #[.int .i64 0, .bool false]) /\ w = w' := by
 rcases hi with rfl | rfl | rfl
 all_goals
   go_enter Tryz.func66, Tryz.ntmps66
   go_wp2_with fail
   go_ret2
   exact ⟨rfl, rfl⟩
theorem zpj (t : Nm) (ht : t = [73] \/ t = [74]) (i a b n : Int) (s : Bool) (hi : i = 1 \/ i = 2 \/ i = 3 \/ i = 4 \/ i = 5 \/ i = 6 \/ i = 7 \/ i = 8 \/ i = 12) (h : ∀ w, Calls Tryz.prog 66 #[.int .i64 i, .int .i64 a, .int .i64 b] w fun e w' => e = .returned (.tuple #[.int .i64 n, .bool s]) /\ w = w') (w : World) : Calls Tryz.prog 36 #[.string ⟨⟨t⟩⟩, .int .i64 i, .int .i64 a, .int .i64 b] w fun e w' => e = .returned (.tuple #[.int .i64 (if t = [73] then wrap32 n else n), .bool s]) /\ w = w' := by
 have HW := Hq h
 have HWD := Hq (fun x w => zh2 x w)
 have g1 : (decide (9 <= i) : Bool) = false \/ (decide (i <= 11) : Bool) = false := by rw [decide_eq_false_iff_not, decide_eq_false_iff_not]; omega
 clear h
 rcases ht with rfl | rfl
 . rw [if_pos rfl]
   go_enter Tryz.func36, Tryz.ntmps36
   go_wp2_with fail
   refine (HW.out _).mono ?_
   rintro e w2 ⟨rfl, rfl⟩
   rcases hi with rfl | rfl | rfl | rfl | rfl | rfl | rfl | rfl | rfl
   all_goals
     clear g1
     go_wp2_with fail
     refine (HWD.out _ _).mono ?_
     rintro e w2 ⟨rfl, rfl⟩
     go_wp2_with fail
     go_ret2
     exact ⟨rfl, rfl⟩
 . rw [if_neg (by simp)]
   go_enter Tryz.func36, Tryz.ntmps36
   go_wp2_with fail
   refine (HW.out _).mono ?_
   rintro e w2 ⟨rfl, rfl⟩
   rcases hi with rfl | rfl | rfl | rfl | rfl | rfl | rfl | rfl | rfl
   all_goals
     clear g1
     go_wp2_with fail
     go_ret2
     exact ⟨rfl, rfl⟩
theorem z3l (t : Nm) (ht : t = [73] \/ t = [74]) (i a b : Int) (hi : i = 9 \/ i = 10 \/ i = 11) : ∃ n s, ∀ w, Calls Tryz.prog 36 #[.string ⟨⟨t⟩⟩, .int .i64 i, .int .i64 a, .int .i64 b] w fun e w' => e = .returned (.tuple #[.int .i64 n, .bool s]) /\ w = w' := by
 have HW := Hq (fun w => zz0 i a hi b w)
 have HWD := Hq (fun x w => zh2 x w)
 rcases ht with rfl | rfl
 . obtain ⟨n, hn⟩ := zlm i a b 32 hi (Or.inl rfl)
   have HS := Hq hn
   clear hn
   refine ⟨wrap32 n, true, fun w => ?_⟩
   go_enter Tryz.func36, Tryz.ntmps36
   go_wp2_with fail
   refine (HW.out _).mono ?_
   rintro e w2 ⟨rfl, rfl⟩
   rcases hi with rfl | rfl | rfl
   all_goals
     go_wp2_with fail
     refine (HS.out _).mono ?_
     rintro e w2 ⟨rfl, rfl⟩
     go_wp2_with fail
     refine (HWD.out _ _).mono ?_
     rintro e w2 ⟨rfl, rfl⟩
     go_wp2_with fail
     go_ret2
     exact ⟨rfl, rfl⟩
 . obtain ⟨n, hn⟩ := zlm i a b 64 hi (Or.inr rfl)
   have HS := Hq hn
   clear hn
   refine ⟨n, true, fun w => ?_⟩
   go_enter Tryz.func36, Tryz.ntmps36
   go_wp2_with fail
   refine (HW.out _).mono ?_
   rintro e w2 ⟨rfl, rfl⟩
   rcases hi with rfl | rfl | rfl
   all_goals
     go_wp2_with fail
     refine (HS.out _).mono ?_
     rintro e w2 ⟨rfl, rfl⟩
     go_wp2_with fail
     go_ret2
     exact ⟨rfl, rfl⟩
theorem z0l : ∃ f : Nm -> Int -> Int -> Int -> Int × Bool, (∀ t x y, f t 12 x y = f t 12 x 0) /\ ∀ t, t = [73] \/ t = [74] -> ∀ i : Int, 1 <= i -> i <= 12 -> ∀ a b w, Calls Tryz.prog 36 #[.string ⟨⟨t⟩⟩, .int .i64 i, .int .i64 a, .int .i64 b] w fun e w' => e = .returned (.tuple #[.int .i64 (f t i a b).1, .bool (f t i a b).2]) /\ w = w' := by
 have k1 : ∀ (t : Nm) (i a b : Int), ∃ p : Int × Bool, (t = [73] \/ t = [74]) -> 1 <= i -> i <= 11 -> ∀ w, Calls Tryz.prog 36 #[.string ⟨⟨t⟩⟩, .int .i64 i, .int .i64 a, .int .i64 b] w fun e w' => e = .returned (.tuple #[.int .i64 p.1, .bool p.2]) /\ w = w' := by
   intro t i a b
   by_cases hc : (t = [73] \/ t = [74]) /\ 1 <= i /\ i <= 11
   . obtain ⟨ht, h1, h2⟩ := hc
     by_cases h9 : 9 <= i
     . obtain ⟨n, s, h⟩ := z3l t ht i a b (by omega)
       exact ⟨(n, s), fun _ _ _ => h⟩
     . by_cases h4 : i = 4 \/ i = 5
       . obtain ⟨n, s, h⟩ := z0x i a h4 b
         exact ⟨(_, s), fun _ _ _ => zpj t ht i a b n s (by omega) h⟩
       . obtain ⟨n, s, h⟩ := zxo i a (by omega) b
         exact ⟨(_, s), fun _ _ _ => zpj t ht i a b n s (by omega) h⟩
   . exact ⟨(0, false), fun h1 h2 h3 => absurd ⟨h1, h2, h3⟩ hc⟩
 have k2 : ∀ (t : Nm) (a : Int), ∃ p : Int × Bool, (t = [73] \/ t = [74]) -> ∀ b w, Calls Tryz.prog 36 #[.string ⟨⟨t⟩⟩, .int .i64 12, .int .i64 a, .int .i64 b] w fun e w' => e = .returned (.tuple #[.int .i64 p.1, .bool p.2]) /\ w = w' := by
   intro t a
   obtain ⟨n, s, h⟩ := zxw a
   exact ⟨(if t = [73] then wrap32 n else n, s), fun ht b => zpj t ht 12 a b n s (by omega) (h b)⟩
 refine ⟨fun t i a b => if i = 12 then (k2 t a).choose else (k1 t i a b).choose, fun t x y => ?_, fun t ht i h1 h2 a b w => ?_⟩
 . simp
 . dsimp only
   by_cases h : i = 12
   . subst h
     rw [if_pos rfl]
     exact (k2 t a).choose_spec ht b w
   . rw [if_neg h]
     exact (k1 t i a b).choose_spec ht h1 (by omega) w
abbrev iV (n : Int) : Value := .int .i64 n
def z8x (w : World) (a : Option Addr) (cap : Nat) (A : List Int) : Prop :=
 A.length <= cap /\ (A = [] \/ ∃ b off, a = some ⟨b, off, none⟩ /\ b < w.heap.size /\ ∀ j x, A[j]? = some x -> w.cell? ⟨b, off + j, none⟩ = some (iV x))
theorem z8x.vals {w : World} {a : Option Addr} {cap : Nat} {A : List Int} (h : z8x w a cap A) : zab w a cap (A.map (Value.int .i64)) := by
 obtain ⟨h1, h2 | ⟨b, off, rfl, hlt, hc⟩⟩ := h
 . subst h2; exact ⟨by simp, Or.inl rfl⟩
 . refine ⟨by simpa using h1, Or.inr ⟨b, off, rfl, hlt, fun j x hj => ?_⟩⟩
   rw [List.getElem?_map] at hj
   cases hA : A[j]? with
   | none => rw [hA] at hj; cases hj
   | some y => rw [hA] at hj; cases hj; exact hc j y hA
def z1g (A : List Int) (k : Nat) (t : Int) : List Int := A.take k ++ t :: A.drop k
theorem zgb (A : List Int) (k : Nat) (t : Int) : (z1g A k t).length = A.length + 1 := by unfold z1g; simp; omega
theorem zkr {A : List Int} {k j : Nat} {t x : Int} (hk : k <= A.length) (h : (z1g A k t)[j]? = some x) : (j < k /\ A[j]? = some x) \/ (j = k /\ x = t) \/ (k < j /\ A[j - 1]? = some x) := by
 unfold z1g at h
 have hl : (A.take k).length = k := by rw [List.length_take]; omega
 by_cases h1 : j < k
 . left
   rw [List.getElem?_append_left (by omega), List.getElem?_take_of_lt h1] at h
   exact ⟨h1, h⟩
 . rw [List.getElem?_append_right (by omega), hl] at h
   by_cases h2 : j = k
   . subst h2
     simp at h
     exact Or.inr (Or.inl ⟨rfl, h.symm⟩)
   . obtain ⟨d, hd⟩ : ∃ d, j - k = d + 1 := ⟨j - k - 1, by omega⟩
     rw [hd, List.getElem?_cons_succ, List.getElem?_drop] at h
     refine Or.inr (Or.inr ⟨by omega, ?_⟩)
     rw [show j - 1 = k + d by omega]; exact h
def z6b (A : List Int) (k : Nat) (t : Int) (B : Nat) (W : World) (e : Ending) (w' : World) : Prop :=
 ∃ a cap, e = .returned (.slice a (A.length + 1) cap) /\ z8x w' a cap (z1g A k t) /\ Below B W w'
theorem zt0 (A : List Int) : ∀ v ∈ A.map iV, v.oneCell' = true := by
 intro v hv
 obtain ⟨x, _, rfl⟩ := List.mem_map.1 hv
 rfl
theorem zvc (A : List Int) (v : Value) (k : Nat) (t : Int) (vb : Nat) (W : World) (B : Nat) (hk : k <= A.length) (hl : A.length <= 1000) (hown : W.ownsRow B 3 1 v A.length (A.map iV)) (hb : Blk W vb 3 #[iV t]) (hne : v.ownBlock ≠ some vb) (hB : B <= W.heap.size) :
   Calls Tryz.prog 39 #[v, .int .i64 (k : Int), .slice (some ⟨vb, 0, none⟩) 1 1] W (z6b A k t B W) := by
 have hvs : ∀ j u, ([iV t] : List Value)[j]? = some u -> W.cell? ⟨vb, 0 + j, none⟩ = some u := by
   intro j u hj
   rw [hb.cell, Nat.zero_add]
   simpa using hj
 have h1v : ∀ u ∈ ([iV t] : List Value), u.oneCell' = true := by
   intro u hu
   rw [List.mem_singleton.1 hu]; rfl
 rcases hown.2 with ⟨rfl, h0⟩ | ⟨g, cap, cur, rfl, hBg, hg, hle, hm, hcs, htk⟩
 . have hA : A = [] := List.eq_nil_of_length_eq_zero h0
   subst hA
   obtain rfl : k = 0 := by simpa using hk
   refine (Any2.slices_Insert_int_end_grow Tryz.laysNm221 none 0 0 vb 0 1 1 [] [iV t] W (by omega) (by omega) (by omega) (by omega) rfl rfl (fun _ => rfl) (fun a h => by cases h) hvs h1v).mono ?_
   rintro e w' ⟨rfl, rfl⟩
   refine ⟨_, _, rfl, ⟨?_, Or.inr ⟨W.heap.size, 0, rfl, by simp, fun j x hx => ?_⟩⟩, (Below.drew (Below.refl B W)).alloc hB _⟩
   . show 1 <= _
     exact grownCap_ge W (0 + 1) 0 _
   . rcases zkr (A := []) (by simp) hx with ⟨h, _⟩ | ⟨rfl, rfl⟩ | ⟨h, h2⟩
     . omega
     . show (World.alloc W.drew _).cell? ⟨W.drew.heap.size, 0 + 0, none⟩ = _
       rw [World.cell?_alloc_new, Array.getElem?_append_left (by simp)]
       rfl
     . simp at h2
 . simp only [Nat.mul_one] at hcs htk
   have hbk : Blk W g 3 cur := hg
   have hcell : ∀ j u, (A.map iV)[j]? = some u -> W.cell? ⟨g, 0 + j, none⟩ = some u := by
     intro j u hj
     rw [hbk.cell, Nat.zero_add]
     have hjl : j < (A.map iV).length := (List.getElem?_eq_some_iff.1 hj).1
     rw [<- htk] at hj
     rw [List.length_map] at hjl
     rw [List.getElem?_take_of_lt hjl] at hj
     rw [<- Array.getElem?_toList]; exact hj
   have hsome : ∀ j, j < cap -> (W.cell? ⟨g, 0 + j, none⟩).isSome = true := by
     intro j hj
     rw [hbk.cell, Nat.zero_add]
     simp; omega
   have hfz : ∀ j, W.frozen? ⟨g, 0 + j, none⟩ = false := fun j => hbk.frozen _
   have hneb : vb ≠ g := fun e => hne (by rw [e]; rfl)
   have hlm : (A.map iV).length = A.length := List.length_map _
   by_cases hend : k = A.length
   . subst hend
     by_cases hroom : A.length + 1 <= cap
     . refine (Any2.slices_Insert_int_end_room Tryz.laysNm221 g 0 A.length cap vb 0 1 1 [iV t] W (by omega) hroom (by unfold maxLen at hm; omega) rfl (fun j hj => by rw [show 0 + A.length + j = 0 + (A.length + j) by omega]; exact hsome _ (by omega)) (fun j _ => hbk.frozen _) hvs h1v).mono ?_
       rintro e w' ⟨rfl, rfl⟩
       refine ⟨_, _, rfl, ⟨by rw [zgb]; exact hroom, Or.inr ⟨g, 0, rfl, by rw [zas]; exact hbk.lt, fun j x hx => ?_⟩⟩, zan hBg _ _ _ (Below.refl _ _)⟩
       rcases zkr (Nat.le_refl _) hx with ⟨h, h2⟩ | ⟨rfl, rfl⟩ | ⟨h, h2⟩
       . rw [World.cell?_setCells_out g _ _ _ _ (fun _ _ => by show 0 + j < 0 + A.length \/ _; omega)]
         exact hcell j _ (by rw [List.getElem?_map, h2]; rfl)
       . have := World.cell?_setCells_in g [iV x] (0 + A.length) W (fun i hi => by simp at hi; subst hi; exact hsome (A.length + 0) (by omega)) 0 (by simp)
         simpa using this
       . have := (List.getElem?_eq_some_iff.1 h2).1
         omega
     . refine (Any2.slices_Insert_int_end_grow Tryz.laysNm221 (some ⟨g, 0, none⟩) A.length cap vb 0 1 1 (A.map iV) [iV t] W (by omega) hle (by omega) (by omega) hlm rfl (fun h => by cases h) (fun a h j u hj => by cases h; rw [Addr.add_lit]; exact hcell j u hj) hvs h1v).mono ?_
       rintro e w' ⟨rfl, rfl⟩
       refine ⟨_, _, rfl, ⟨by rw [zgb]; exact grownCap_ge W _ _ _, Or.inr ⟨W.heap.size, 0, rfl, by simp, fun j x hx => ?_⟩⟩, (Below.drew (Below.refl B W)).alloc hB _⟩
       show (World.alloc W.drew _).cell? ⟨W.drew.heap.size, 0 + j, none⟩ = _
       rw [World.cell?_alloc_new, Nat.zero_add]
       have hjl : j < A.length + 1 := by have := (List.getElem?_eq_some_iff.1 hx).1; rw [zgb] at this; exact this
       rw [Array.getElem?_append_left (by simp; omega), List.getElem?_toArray]
       unfold z1g at hx
       rw [List.take_length, List.drop_length] at hx
       rw [show A.map iV ++ [iV t] = (A ++ [t]).map iV by simp, List.getElem?_map, hx]
       rfl
   . have hki : k < A.length := by omega
     by_cases hroom : A.length + 1 <= cap
     . refine (Any2.slices_Insert_int_shift Tryz.laysNm221 g 0 A.length cap k vb 0 1 1 (A.map iV) [iV t] W hki (by omega) hroom (by unfold maxLen at hm; omega) hneb hlm rfl hcell (fun j hj => hsome j (by omega)) (fun j _ => hfz j) hvs (zt0 A) h1v 3 3 1 cap (by unfold World.shape?; rw [show W.heap[vb]? = _ from hb]; rfl) (by unfold World.shape?; rw [hg]; simp [hcs]) (by omega) (hb.frozen _) (hb.frozen _)).mono ?_
       rintro e w' ⟨rfl, rfl⟩
       have hdl : (List.drop k (A.map iV)).length = A.length - k := by simp
       have hs1 : ∀ i, i < (List.drop k (A.map iV)).length -> (W.drew.cell? ⟨g, 0 + (k + 1) + i, none⟩).isSome = true := fun i hi => by
         rw [show 0 + (k + 1) + i = 0 + (k + 1 + i) by omega]; exact hsome _ (by omega)
       have hs2 : ∀ i, i < ([iV t] : List Value).length -> ((W.drew.setCells g (0 + (k + 1)) (List.drop k (A.map iV))).cell? ⟨g, 0 + k + i, none⟩).isSome = true := fun i hi => by
         refine zec g _ _ _ hs1 ?_
         rw [show 0 + k + i = 0 + (k + i) by omega]
         exact hsome _ (by simp at hi; omega)
       refine ⟨_, _, rfl, ⟨by rw [zgb]; exact hroom, Or.inr ⟨g, 0, rfl, by rw [zas, zas]; exact hbk.lt, fun j x hx => ?_⟩⟩, zan hBg _ _ _ (zan hBg _ _ _ (Below.drew (Below.refl _ _)))⟩
       rcases zkr hk hx with ⟨h, h2⟩ | ⟨rfl, rfl⟩ | ⟨h, h2⟩
       . rw [World.cell?_setCells_out g _ _ _ _ (fun _ _ => by show 0 + j < 0 + k \/ _; omega), World.cell?_setCells_out g _ _ _ _ (fun _ _ => by show 0 + j < 0 + (k + 1) \/ _; omega)]
         exact hcell j _ (by rw [List.getElem?_map, h2]; rfl)
       . have := World.cell?_setCells_in g [iV x] (0 + j) _ hs2 0 (by simp)
         simpa using this
       . have hjl := (List.getElem?_eq_some_iff.1 h2).1
         rw [World.cell?_setCells_out g _ _ _ _ (fun _ _ => by show 0 + j < 0 + k \/ 0 + k + 1 <= 0 + j; omega)]
         have := World.cell?_setCells_in g (List.drop k (A.map iV)) (0 + (k + 1)) W.drew hs1 (j - (k + 1)) (by omega)
         rw [show 0 + (k + 1) + (j - (k + 1)) = 0 + j by omega] at this
         rw [this]
         have e1 : (List.drop k (A.map iV))[j - (k + 1)]? = some (iV x) := by
           rw [List.getElem?_drop, show k + (j - (k + 1)) = j - 1 by omega, List.getElem?_map, h2]; rfl
         rw [List.getElem?_eq_getElem (by omega)] at e1
         exact e1
     . refine (Any2.slices_Insert_int_grow Tryz.laysNm221 g 0 A.length cap k vb 0 1 1 (A.map iV) [iV t] W hki (by omega) hle (by omega) (by omega) hlm rfl hcell hvs (zt0 A) h1v).mono ?_
       rintro e w' ⟨rfl, rfl⟩
       obtain ⟨gc, hgc⟩ : ∃ gc, gc = grownCap W (A.length + 1) cap (Tryz.laysNm221_ren.t 3) := ⟨_, rfl⟩
       have hgl : A.length + 1 <= gc := by rw [hgc]; exact grownCap_ge W _ _ _
       rw [<- hgc]
       obtain ⟨W0, hW0⟩ : ∃ W0, W0 = W.alloc (.cells (((A.map iV).take k).toArray ++ Builtin.zeroCells (Value.int .i64 0).cells (A.length + 1 - k) ++ Builtin.zeroCells (Value.int .i64 0).cells (gc - (A.length + 1))) 3) := ⟨_, rfl⟩
       have hzc : ∀ n, (Builtin.zeroCells (Value.int .i64 0).cells n).size = n := fun n => by rw [size_zeroCells]; exact Nat.mul_one n
       have hnew : ∀ j, W0.cell? ⟨W.heap.size, j, none⟩ = (((A.map iV).take k).toArray ++ Builtin.zeroCells (Value.int .i64 0).cells (A.length + 1 - k) ++ Builtin.zeroCells (Value.int .i64 0).cells (gc - (A.length + 1)))[j]? := fun j => by rw [hW0, World.cell?_alloc_new]
       have htl : ((A.map iV).take k).length = k := by simp; omega
       have hsz : ∀ j, j < gc -> (W0.cell? ⟨W.heap.size, j, none⟩).isSome = true := fun j hj => by
         rw [hnew j]
         rw [Array.getElem?_eq_getElem (by simp only [Array.size_append, hzc, List.size_toArray, htl]; omega)]
         rfl
       have hw0s : W0.heap.size = W.heap.size + 1 := by rw [hW0]; simp
       have hb0 : Below B W W0 := by rw [hW0]; exact (Below.refl B W).alloc hB _
       have hold : ∀ j x, j < k -> A[j]? = some x -> W0.cell? ⟨W.heap.size, j, none⟩ = some (iV x) := fun j x hj hx => by
         rw [hnew j, Array.getElem?_append_left (by simp only [Array.size_append, hzc, List.size_toArray, htl]; omega), Array.getElem?_append_left (by rw [List.size_toArray, htl]; exact hj), List.getElem?_toArray, List.getElem?_take_of_lt hj, List.getElem?_map, hx]
         rfl
       rw [show W.alloc (.cells (((A.map iV).take k).toArray ++ Builtin.zeroCells (Value.int .i64 0).cells (A.length + 1 - k) ++ Builtin.zeroCells (Value.int .i64 0).cells (gc - (A.length + 1))) (Tryz.laysNm221_ren.t 3)) = W0 from hW0.symm]
       clear hW0 hnew
       have hdl : (List.drop k (A.map iV)).length = A.length - k := by simp
       have hs1 : ∀ i, i < ([iV t] : List Value).length -> (W0.drew.cell? ⟨W.heap.size, k + i, none⟩).isSome = true := fun i hi => hsz (k + i) (by simp at hi; omega)
       have hs2 : ∀ i, i < (List.drop k (A.map iV)).length -> ((W0.drew.setCells W.heap.size k [iV t]).drew.cell? ⟨W.heap.size, k + 1 + i, none⟩).isSome = true := fun i hi => by
         refine zec W.heap.size [iV t] k W0.drew hs1 ?_
         exact hsz (k + 1 + i) (by omega)
       refine ⟨_, _, rfl, ⟨by rw [zgb]; exact hgl, Or.inr ⟨W.heap.size, 0, rfl, by rw [zas]; show W.heap.size < (World.setCells _ _ _ _).heap.size; rw [zas]; show W.heap.size < W0.heap.size; omega, fun j x hx => ?_⟩⟩, zan hB _ _ _ (Below.drew (zan hB _ _ _ (Below.drew hb0)))⟩
       rw [Nat.zero_add]
       rcases zkr hk hx with ⟨h, h2⟩ | ⟨rfl, rfl⟩ | ⟨h, h2⟩
       . rw [World.cell?_setCells_out W.heap.size _ _ _ _ (fun _ _ => by show j < k + 1 \/ _; omega)]
         show (World.setCells W0.drew W.heap.size k [iV t]).cell? _ = _
         rw [World.cell?_setCells_out W.heap.size _ _ _ _ (fun _ _ => by show j < k \/ _; omega)]
         exact hold j x h h2
       . rw [World.cell?_setCells_out W.heap.size _ _ _ _ (fun _ _ => by show j < j + 1 \/ _; omega)]
         have := World.cell?_setCells_in W.heap.size [iV x] j W0.drew hs1 0 (by simp)
         simpa using this
       . have hjl := (List.getElem?_eq_some_iff.1 h2).1
         have := World.cell?_setCells_in W.heap.size (List.drop k (A.map iV)) (k + 1) _ hs2 (j - (k + 1)) (by omega)
         rw [show k + 1 + (j - (k + 1)) = j by omega] at this
         rw [this]
         have e1 : (List.drop k (A.map iV))[j - (k + 1)]? = some (iV x) := by
           rw [List.getElem?_drop, show k + (j - (k + 1)) = j - 1 by omega, List.getElem?_map, h2]; rfl
         rw [List.getElem?_eq_getElem (by omega)] at e1
         exact e1
noncomputable def ofP : Nm -> Int -> Int -> Int -> Int × Bool := z0l.choose
noncomputable def ofO (t : Nm) (i a b : Int) : Option Int := if (ofP t i a b).2 = true then some (ofP t i a b).1 else none
theorem z5u (t : Nm) (x y : Int) : ofO t 12 x y = ofO t 12 x 0 := by
 unfold ofO
 have h : ofP t 12 x y = ofP t 12 x 0 := z0l.choose_spec.1 t x y
 rw [h]
theorem zqc (t : Nm) (ht : t = [73] \/ t = [74]) (i : Int) (h1 : 1 <= i) (h2 : i <= 12) (a b : Int) (w : World) : Calls Tryz.prog 36 #[.string ⟨⟨t⟩⟩, .int .i64 i, .int .i64 a, .int .i64 b] w fun e w' => e = .returned (.tuple #[.int .i64 (ofP t i a b).1, .bool (ofP t i a b).2]) /\ w = w' := z0l.choose_spec.2 t ht i h1 h2 a b w
def z86 : List PanicEntry := [{ v := .iface 68 (.agg #[]), recovered := false }]
def zbh (w : World) (o : Option Int) (e : Ending) (w' : World) : Prop := Below w.heap.size w w' /\ ((∃ n, o = some n /\ e = .returned (.int .i64 n)) \/ (o = none /\ e = .panicked z86))
theorem zvj (h : Hd) (hk : h.kind = 1) (v : Value) (w : World) : Calls Tryz.prog 18 #[hdV h, v] w (zbh w (some h.a)) := by
 unfold hdV
 rw [hk]
 go_enter Tryz.func18, Tryz.ntmps18
 go_wp2_with fail
 go_ret
 exact ⟨ze (Below.refl _ _) _, Or.inl ⟨_, rfl, rfl⟩⟩
theorem zx9 (h : Hd) (hk : h.kind = 3) (ht : zdb h.ty = true) (ha : 1 <= h.a /\ h.a <= 12) (vs : List Int) (hv : 1 <= vs.length /\ vs.length <= 5) (ga : Option Addr) (gc : Nat) (w : World) (hA : zab w ga gc (vs.map (fun k => .int .i64 k))) : Calls Tryz.prog 18 #[hdV h, .slice ga vs.length gc] w (zbh w (ofO h.ty h.a (vs.getD 0 0) (vs.getD (vs.length - 1) 0))) := by
 obtain ⟨_, h2 | ⟨b, off, rfl, hlt, hc⟩⟩ := hA
 . have : vs.length = 0 := by simpa using congrArg List.length h2
   omega
 have c0 : w.cell? ⟨b, off, none⟩ = some (.int .i64 (vs.getD 0 0)) := hc 0 _ (by rw [List.getElem?_map, List.getElem?_eq_getElem (by omega), List.getD_eq_getElem?_getD, List.getElem?_eq_getElem (by omega)]; rfl)
 have c1 : w.cell? ⟨b, off + (vs.length - 1), none⟩ = some (.int .i64 (vs.getD (vs.length - 1) 0)) := hc _ _ (by rw [List.getElem?_map, List.getElem?_eq_getElem (by omega), List.getD_eq_getElem?_getD, List.getElem?_eq_getElem (by omega)]; rfl)
 generalize vs.getD 0 0 = x at c0 |-
 generalize vs.getD (vs.length - 1) 0 = y at c1 |-
 have HO := Hq (fun w => zqc h.ty (by unfold zdb at ht; simpa using ht) h.a ha.1 ha.2 x y w)
 obtain ⟨k, hkl⟩ : ∃ k, vs.length = k + 1 := ⟨vs.length - 1, by omega⟩
 rw [hkl] at c1 hv |-
 clear hc hkl
 unfold hdV
 rw [hk]
 have hw1 : wrap64 ((k + 1 : Nat) - 1 : Int) = k := by unfold wrap64; omega
 rw [Nat.add_sub_cancel] at c1
 clear hk ht ha
 go_enter Tryz.func18, Tryz.ntmps18
 go_upto_region 6 with fail
 go_quiet (exact (HO.out _).mono (fun e w1 h => by obtain ⟨rfl, rfl⟩ := h; exact ⟨rfl, _, rfl⟩))
 have HB := Hq (show Below w.heap.size w _ from zbv (ze (Below.refl w.heap.size w) (.cells #[.int .i64 3, .string ⟨⟨h.ty⟩⟩, .int .i64 h.a, .slice h.pa h.pos.length h.pc, .slice h.sa h.subs.length h.sc] 25)) nq)
 cases hs : (ofP h.ty h.a x y).2 with
 | true =>
   have HN := Hq (show ofO h.ty h.a x y = some (ofP h.ty h.a x y).1 by unfold ofO; rw [if_pos hs])
   generalize (ofP h.ty h.a x y).1 = n at HN
   clear HO c0 c1 hw1
   go_wp2_with fail
   go_ret
   exact ⟨HB.out, Or.inl ⟨_, HN.out, rfl⟩⟩
 | false =>
   have HN := Hq (show ofO h.ty h.a x y = none by unfold ofO; rw [if_neg (by rw [hs]; simp)])
   clear HO c0 c1 hw1
   go_wp2_with fail
   exact ⟨rfl, HB.out, Or.inr ⟨HN.out, rfl⟩⟩
theorem zz6 (h : Hd) (hk : h.kind = 2) (vs : List Int) (hv : vs.length = 1) (ga : Option Addr) (gc : Nat) (w : World) (hA : zab w ga gc (vs.map (fun k => .int .i64 k))) : Calls Tryz.prog 18 #[hdV h, .slice ga vs.length gc] w (zbh w (some (vs.getD 0 0))) := by
 obtain ⟨_, h2 | ⟨b, off, rfl, hlt, hc⟩⟩ := hA
 . have : vs.length = 0 := by simpa using congrArg List.length h2
   omega
 have c0 : w.cell? ⟨b, off, none⟩ = some (.int .i64 (vs.getD 0 0)) := hc 0 _ (by rw [List.getElem?_map, List.getElem?_eq_getElem (by omega), List.getD_eq_getElem?_getD, List.getElem?_eq_getElem (by omega)]; rfl)
 generalize vs.getD 0 0 = x at c0 |-
 clear hc
 unfold hdV
 rw [hk, hv]
 clear hk
 go_enter Tryz.func18, Tryz.ntmps18
 go_wp2_with fail
 go_ret
 exact ⟨ze (Below.refl _ _) _, Or.inl ⟨_, rfl, rfl⟩⟩
theorem zfk (h s : Hd) (i : Nat) (args : Value) (B : Nat) (w : World) (hB : Blk w B 25 #[.int .i64 h.kind, .string ⟨⟨h.ty⟩⟩, .int .i64 h.a, .slice h.pa h.pos.length h.pc, .slice h.sa h.subs.length h.sc]) (hS : za6 w 5 h.sa h.sc (h.subs.map zc3)) (hi : h.subs[i]? = some s) (hl : h.subs.length <= 2) (o : Option Int)
   (hM : ∀ w', Below w.heap.size w w' -> Calls Tryz.prog 18 #[hdV s, args] w' (zbh w' o)) :
   Calls Tryz.prog 35 #[.int .i64 i, args, .pointer (some ⟨B, 0, none⟩)] w (zbh w o) := by
 obtain ⟨b, off, hsa, hlt, x0, x1, x2, x3, x4⟩ := zbe hS hi
 have hil := (List.getElem?_eq_some_iff.1 hi).1
 have hB4 := hB.cell 4
 have hBl := hB.lt
 have HM := Hq hM
 clear hS hM hi hB
 rw [hsa] at hB4
 clear hsa
 unfold hdV at HM
 go_enter Tryz.func35, Tryz.ntmps35
 go_wp2_with fail
 refine (HM.out _ (Below.refl _ _)).mono ?_
 rintro e w2 ⟨hb, ⟨n, hn, rfl⟩ | ⟨hn, rfl⟩⟩
 . have HN := Hq hn
   clear hn
   go_wp2_with fail
   go_ret
   exact ⟨hb, Or.inl ⟨_, HN.out, rfl⟩⟩
 . exact ⟨rfl, hb, Or.inr ⟨hn, rfl⟩⟩
open Go.Sort
theorem zjr (xs : List Int) (a : Option Addr) (c : Nat) (w : World) (h : zab w a c (xs.map (Value.int .i64))) (hl : xs.length <= 1000) :
   Calls Tryz.prog 38 #[.slice a xs.length c] w fun e w' => ∃ v', e = .returned v' /\ w'.ownsRow w.heap.size 3 1 v' xs.length (xs.map (Value.int .i64)) /\ Below w.heap.size w w' := by
 obtain ⟨_, h2 | ⟨b, off, rfl, hlt, hc⟩⟩ := h
 . have h0 : xs = [] := by simpa using h2
   subst h0
   cases a with
   | none =>
     refine (Tryz.slices_Clone_int_nil 0 c w).mono fun e w' ⟨h1, h2⟩ => ⟨_, h1, ?_, by rw [h2]; exact Below.refl _ _⟩
     exact World.ownsRow_nil _ _ _ _
   | some a => exact (Tryz.slices_Clone_int_zero a c w).mono fun e w' ⟨v', h1, h2, _, h3⟩ => ⟨v', h1, h2, h3⟩
 . refine (Tryz.slices_Clone_int b off xs.length c xs w (Nat.le_refl _) (by omega) (fun j hj => hc j _ (by rw [List.getElem?_map, List.getD_eq_getElem?_getD, List.getElem?_eq_getElem hj]; rfl))).mono fun e w' ⟨v', h1, h2, _, h3⟩ => ⟨v', h1, by simpa using h2, h3⟩
theorem zps {w : World} {B g off n : Nat} (hB : B <= g) (d : Array Int) : Below B w (putRow (Value.int .i64) (Sort.ahead w n) g off d) := by
 refine ⟨rfl, rfl, rfl, by simp, fun k hk => ?_⟩
 have : g ≠ k := by omega
 simp [putRow, mapBlock, Sort.ahead, Array.getElem?_modify, this]
theorem zs6 (xs : List Int) (v : Value) (k : Nat) (W : World) (B : Nat) (hk : k < xs.length) (hl : xs.length <= 1000) (hown : W.ownsRow B 3 1 v xs.length (xs.map (Value.int .i64))) (i j : Int) (hi : i = k) (hj : j = (k : Int) + 1) :
   Calls Tryz.prog 37 #[v, .int .i64 i, .int .i64 j] W fun e w' => ∃ a cap, e = .returned (.slice a (xs.eraseIdx k).length cap) /\ Below B W w' /\ zab w' a cap ((xs.eraseIdx k).map (Value.int .i64)) := by
 subst hi hj
 rcases hown.2 with ⟨_, h0⟩ | ⟨g, cap, cur, rfl, hB, hg, hle, hm, _, htk⟩
 . omega
 have hH : Holds (Value.int .i64) W g 0 xs.toArray := holds_of_blockI hg (by simpa using htk)
 have hd := Tryz.slices_Delete_int g 0 cap k (k + 1) xs W hH hle (by unfold maxLen at hm; omega) (by omega) (by omega)
 have hlist : xs.take k ++ xs.drop (k + 1) ++ List.replicate (k + 1 - k) 0 = xs.eraseIdx k ++ [0] := by
   rw [List.eraseIdx_eq_take_drop_succ, show k + 1 - k = 1 by omega]; rfl
 have hlen : (xs.eraseIdx k).length = xs.length - 1 := by rw [List.length_eraseIdx]; simp [hk]
 rw [hlist, show xs.length - (k + 1 - k) = (xs.eraseIdx k).length by omega] at hd
 refine hd.mono ?_
 rintro e w1 ⟨rfl, q, rfl⟩
 refine ⟨_, cap, rfl, zps hB _, by simp; omega, Or.inr ⟨g, 0, rfl, ?_, fun j x hx => ?_⟩⟩
 . simpa [putRow, mapBlock, Sort.ahead] using (Array.getElem?_eq_some_iff.1 hg).1
 . rw [List.getElem?_map] at hx
   cases hy : (xs.eraseIdx k)[j]? with
   | none => rw [hy] at hx; cases hx
   | some y =>
     rw [hy] at hx
     cases hx
     have hj : j < (xs.eraseIdx k).length := (List.getElem?_eq_some_iff.1 hy).1
     have h1 := holds_putRow (Value.int .i64) (Sort.ahead W q) g 0 xs.toArray (xs.eraseIdx k ++ [0]).toArray (holds_ahead _ _ _ _ _ _ hH) (by simp; omega) j (by simp; omega)
     rw [h1.1]
     have h2 : ((xs.eraseIdx k ++ [0]).toArray)[j]! = y := by
       rw [getElem!_pos _ j (by simp; omega)]
       simp only [List.getElem_toArray]
       rw [List.getElem_append_left hj]
       exact (List.getElem?_eq_some_iff.1 hy).2
     rw [h2]
theorem zyu (h s : Hd) (hk : h.kind = 4) (k : Nat) (ha : h.a = k) (hs : h.subs[0]? = some s) (hsl : h.subs.length <= 2) (vs : List Int) (hv : k < vs.length /\ vs.length <= 1000) (ga : Option Addr) (gc : Nat) (w : World) (hA : zab w ga gc (vs.map (Value.int .i64))) (hS : za6 w 5 h.sa h.sc (h.subs.map zc3)) (o : Option Int)
   (hM : ∀ a c w', Below w.heap.size w w' -> zab w' a c ((vs.eraseIdx k).map (Value.int .i64)) -> Calls Tryz.prog 18 #[hdV s, .slice a (vs.eraseIdx k).length c] w' (zbh w' o)) :
   Calls Tryz.prog 18 #[hdV h, .slice ga vs.length gc] w (zbh w o) := by
 obtain ⟨W, hW⟩ : ∃ W, W = w.alloc (.cells #[.int .i64 4, .string ⟨⟨h.ty⟩⟩, .int .i64 k, .slice h.pa h.pos.length h.pc, .slice h.sa h.subs.length h.sc] 25) := ⟨_, rfl⟩
 have HB := Hq (show Below w.heap.size w W by rw [hW]; exact ze (Below.refl _ _) _)
 have HX := Hq (show Blk W w.heap.size 25 #[.int .i64 4, .string ⟨⟨h.ty⟩⟩, .int .i64 k, .slice h.pa h.pos.length h.pc, .slice h.sa h.subs.length h.sc] by rw [hW]; exact zg _ _ _ _ rfl)
 unfold hdV
 rw [hk, ha]
 go_enter Tryz.func18, Tryz.ntmps18
 go_upto_region 11 with fail
 rw [<- hW]
 clear hW
 have hwk : IntKind.i64.wrap ((k : Int) + 1) = (k : Int) + 1 := by rw [IntKind.wrap_i64]; omega
 have HSC := Hq (fun W' (hb : Below W.heap.size W W') => (HX.out.below hb).cell 2)
 have HB2 := Hq (fun (W1 W2 : World) (h1 : Below W.heap.size W W1) (h2 : Below W1.heap.size W1 W2) => zc h1 h2)
 have HC := Hq (fun W' (hb : Below W.heap.size W W') => zjr vs ga gc W' (hA.below (zc HB.out hb)) hv.2)
 have HD := Hq (fun W' v B (ho : World.ownsRow W' B 3 1 v vs.length (vs.map (Value.int .i64))) i j hi hj => zs6 vs v k W' B hv.1 hv.2 ho i j hi hj)
 have HSUB := Hq (fun W' (hb : Below W.heap.size W W') a c (hz : zab W' a c ((vs.eraseIdx k).map (Value.int .i64))) => show Calls Tryz.prog 35 #[.int .i64 0, .slice a (vs.eraseIdx k).length c, .pointer (some ⟨w.heap.size, 0, none⟩)] W' (zbh W' o) from
   zfk h s 0 (.slice a (vs.eraseIdx k).length c) w.heap.size W' (by rw [hk, ha]; exact HX.out.below hb) (hS.below (zc HB.out hb)) hs hsl o (fun w' hb' => hM a c w' (zc (zc HB.out hb) hb') (hz.below hb')))
 clear hA hS hM hs hv hk ha hsl
 --DROP
 refine wp_region_held_drew (S := fun W' => W'.cell? ⟨w.heap.size, 2, none⟩ = some (.int .i64 k)) (by kernel_rfl) ?_ (fun hHeld => ?_)
 . exact HSC.out _ (Below.refl _ _).drew
 refine wpAnyH_take (i := 0) (oi := { dst := some 45, op := Op.move (Operand.tmp 5), type := 97, pos := "call.go:29", after := #[], guard := none }) (v := ?_) rfl (by kernel_rfl) (by kernel_rfl) (by kernel_rfl) (fun _ _ _ h => h) (Or.inl ⟨by rfl, ?_⟩) (by assumption) ?_
 rotate_left
 . (intro w hSw; (try dsimp only at hSw); go_simp; try with_reducible rfl)
 refine wpAnyH_take (i := 1) (oi := { dst := some 46, op := Op.move (Operand.tmp 1), type := 22, pos := "call.go:29", after := #[], guard := none }) (v := ?_) rfl (by kernel_rfl) (by kernel_rfl) (by kernel_rfl) (fun _ _ _ h => h) (Or.inl ⟨by rfl, ?_⟩) (by assumption) ?_
 rotate_left
 . (intro w hSw; (try dsimp only at hSw); go_simp; try with_reducible rfl)
 refine wpAnyH_take (i := 3) (oi := { dst := some 48, op := Op.fieldAddr 25 (Operand.tmp 2) 2, type := 0, pos := "call.go:29", after := #[], guard := none }) (v := ?_) rfl (by kernel_rfl) (by kernel_rfl) (by kernel_rfl) (fun _ _ _ h => h) (Or.inl ⟨by rfl, ?_⟩) (by assumption) ?_
 rotate_left
 . (intro w hSw; (try dsimp only at hSw); go_simp; try with_reducible rfl)
 refine wpAnyH_take (i := 4) (oi := { dst := some 49, op := Op.load 3 (Operand.tmp 48), type := 3, pos := "call.go:29", after := #[{ on := 3, ground := Ground.data }], guard := none }) (v := ?_) rfl (by kernel_rfl) (by kernel_rfl) (by kernel_rfl) (fun _ _ _ h => h) (Or.inl ⟨by rfl, ?_⟩) (by assumption) ?_
 rotate_left
 . (intro w hSw; (try dsimp only at hSw); go_simp; try with_reducible rfl)
 refine wpAnyH_take (i := 5) (oi := { dst := some 50, op := Op.fieldAddr 25 (Operand.tmp 2) 2, type := 0, pos := "call.go:29", after := #[], guard := none }) (v := ?_) rfl (by kernel_rfl) (by kernel_rfl) (by kernel_rfl) (fun _ _ _ h => h) (Or.inl ⟨by rfl, ?_⟩) (by assumption) ?_
 rotate_left
 . (intro w hSw; (try dsimp only at hSw); go_simp; try with_reducible rfl)
 refine wpAnyH_take (i := 6) (oi := { dst := some 51, op := Op.load 3 (Operand.tmp 50), type := 3, pos := "call.go:29", after := #[{ on := 5, ground := Ground.data }], guard := none }) (v := ?_) rfl (by kernel_rfl) (by kernel_rfl) (by kernel_rfl) (fun _ _ _ h => h) (Or.inl ⟨by rfl, ?_⟩) (by assumption) ?_
 rotate_left
 . (intro w hSw; (try dsimp only at hSw); go_simp; try with_reducible rfl)
 refine wpAnyH_take (i := 7) (oi := { dst := some 52, op := Op.binOp BinOp.add 3 (Operand.tmp 51) (Operand.const (Value.int IntKind.i64 1)) 3, type := 3, pos := "call.go:29", after := #[{ on := 6, ground := Ground.data }], guard := none }) (v := ?_) rfl (by kernel_rfl) (by kernel_rfl) (by kernel_rfl) (fun _ _ _ h => h) (Or.inl ⟨by rfl, ?_⟩) (by assumption) ?_
 rotate_left
 . (intro w hSw; (try dsimp only at hSw); go_simp; try with_reducible rfl)
 try simp only [Act.put, List.setIfInBounds_toArray, List.set_cons_zero, List.set_cons_succ]
 refine wpAnyH_ready (rs := [2]) (by kernel_rfl) (by simp) ?_
 refine AllReadyH.cons (o := { dst := some 47, op := Op.call { callee := Callee.value (Operand.func 38), args := #[Operand.tmp 46], argTypes := #[22] }, type := 22, pos := "call.go:29", after := #[{ on := 1, ground := Ground.data }], guard := none }) rfl (fun K hK => ?_) AllReadyH.nil
 go_simp
 go_wp2_with ((go_at_call 38; refine (HC.out _ (Below.refl _ _).drew).mono ?_; rintro e w2 ⟨v2, rfl, ho, hb2⟩; have HO2 := Hq (show World.ownsRow w2 W.heap.size 3 1 v2 vs.length (vs.map (Value.int .i64)) from ho); have HB02 := Hq (show Below W.heap.size W w2 from HB2.out _ _ (Below.refl _ _).drew hb2); clear ho hb2))
 refine hK.out _ _ ?_ (fun hHeld => ?_)
 . exact HSC.out _ HB02.out
 clear hK K
 try simp only [Act.put, List.setIfInBounds_toArray, List.set_cons_zero, List.set_cons_succ]
 refine wpAnyH_ready (rs := [8]) (by kernel_rfl) (by simp) ?_
 refine AllReadyH.cons (o := { dst := some 53, op := Op.call { callee := Callee.value (Operand.func 37), args := #[Operand.tmp 47, Operand.tmp 49, Operand.tmp 52], argTypes := #[22, 3, 3] }, type := 22, pos := "call.go:29", after := #[{ on := 2, ground := Ground.data }, { on := 4, ground := Ground.data }, { on := 7, ground := Ground.data }, { on := 2, ground := Ground.chain }], guard := none }) rfl (fun K hK => ?_) AllReadyH.nil
 go_simp
 go_wp2_with ((go_at_call 37; refine (HD.out w2 v2 _ HO2.out (k : Int) ((k : Int) + 1) rfl rfl).mono ?_; rintro e w3 ⟨a3, c3, rfl, hb3, hv3⟩; have HB03 := Hq (HB02.out.trans hb3); have HV3 := Hq hv3; clear hb3 hv3))
 refine hK.out _ _ ?_ (fun hHeld => ?_)
 . exact HSC.out _ HB03.out
 clear hK K
 try simp only [Act.put, List.setIfInBounds_toArray, List.set_cons_zero, List.set_cons_succ]
 refine wpAnyH_ready (rs := [9]) (by kernel_rfl) (by simp) ?_
 refine AllReadyH.cons (o := { dst := some 54, op := Op.call { callee := Callee.value (Operand.tmp 45), args := #[Operand.const (Value.int IntKind.i64 0), Operand.tmp 53], argTypes := #[3, 22] }, type := 3, pos := "call.go:29", after := #[{ on := 0, ground := Ground.data }, { on := 8, ground := Ground.data }, { on := 8, ground := Ground.chain }], guard := none }) rfl (fun K hK => ?_) AllReadyH.nil
 go_simp
 go_wp2_with (go_at_call 35; refine (HSUB.out _ HB03.out _ _ HV3.out).mono ?_; rintro e w4 ⟨hb4, ⟨n, hn, rfl⟩ | ⟨hn, rfl⟩⟩)
 rotate_left
 . exact ⟨rfl, (zc (HB.out) (HB03.out.trans (hb4.mono HB03.out.size))), Or.inr ⟨rfl, rfl⟩⟩
 have HN := Hq hn
 have HB04 := Hq (HB03.out.trans (hb4.mono HB03.out.size))
 clear hn hb4
 refine hK.out _ _ ?_ (fun hHeld => ?_)
 . exact HSC.out _ HB04.out
 clear hK K
 refine wpAnyH_take (i := 10) (oi := { dst := some 4, op := Op.assign (Operand.tmp 54), type := 3, pos := "call.go:29", after := #[{ on := 9, ground := Ground.data }, { on := 9, ground := Ground.chain }, { on := 0, ground := Ground.phase }, { on := 1, ground := Ground.phase }, { on := 2, ground := Ground.phase }, { on := 3, ground := Ground.phase }, { on := 4, ground := Ground.phase }, { on := 5, ground := Ground.phase }, { on := 6, ground := Ground.phase }, { on := 7, ground := Ground.phase }, { on := 8, ground := Ground.phase }, { on := 9, ground := Ground.phase }], guard := none }) (v := ?_) rfl (by kernel_rfl) (by kernel_rfl) (by kernel_rfl) (fun _ _ _ h => h) (Or.inl ⟨by rfl, ?_⟩) (by assumption) ?_
 rotate_left
 . (intro w hSw; (try dsimp only at hSw); go_simp; try with_reducible rfl)
 try simp only [Act.put, List.setIfInBounds_toArray, List.set_cons_zero, List.set_cons_succ]
 refine wpAnyH_done (by kernel_rfl) ?_ _
 have HB5 := Hq (zc HB.out HB04.out)
 clear HC HD HSUB HSC HO2 HV3 HB02 HB03 HB2 hwk hHeld
 go_wp2_with fail
 go_ret
 exact ⟨HB5.out, Or.inl ⟨_, HN.out, rfl⟩⟩
 --END
theorem z0d (h s t : Hd) (hk : h.kind = 5) (k : Nat) (ha : h.a = k) (hs : h.subs[0]? = some s) (ht : h.subs[1]? = some t) (hsl : h.subs.length <= 2) (vs : List Int) (hv : k <= vs.length /\ vs.length <= 1000) (ga : Option Addr) (gc : Nat) (w : World) (hA : zab w ga gc (vs.map (Value.int .i64))) (hS : za6 w 5 h.sa h.sc (h.subs.map zc3)) (o2 : Option Int) (o : Int -> Option Int)
   (hM2 : ∀ w', Below w.heap.size w w' -> Calls Tryz.prog 18 #[hdV t, .slice none 0 0] w' (zbh w' o2))
   (hM : ∀ x a c w', o2 = some x -> Below w.heap.size w w' -> zab w' a c ((z1g vs k x).map (Value.int .i64)) -> Calls Tryz.prog 18 #[hdV s, .slice a (vs.length + 1) c] w' (zbh w' (o x))) :
   Calls Tryz.prog 18 #[hdV h, .slice ga vs.length gc] w (zbh w (o2.elim none o)) := by
 obtain ⟨W, hW⟩ : ∃ W, W = w.alloc (.cells #[.int .i64 5, .string ⟨⟨h.ty⟩⟩, .int .i64 k, .slice h.pa h.pos.length h.pc, .slice h.sa h.subs.length h.sc] 25) := ⟨_, rfl⟩
 have HB := Hq (show Below w.heap.size w W by rw [hW]; exact ze (Below.refl _ _) _)
 have HX := Hq (show Blk W w.heap.size 25 #[.int .i64 5, .string ⟨⟨h.ty⟩⟩, .int .i64 k, .slice h.pa h.pos.length h.pc, .slice h.sa h.subs.length h.sc] by rw [hW]; exact zg _ _ _ _ rfl)
 have hWs : w.heap.size <= W.heap.size := HB.out.size
 have HE := Hq (show ∀ x, o2 = some x -> o2.elim none o = o x from fun x hx => by rw [hx]; rfl)
 have HEN := Hq (show o2 = none -> o2.elim none o = none from fun hx => by rw [hx]; rfl)
 generalize o2.elim none o = res at HE HEN |-
 unfold hdV
 rw [hk, ha]
 go_enter Tryz.func18, Tryz.ntmps18
 go_upto_region 13 with fail
 rw [<- hW]
 clear hW
 have HSC := Hq (fun W' (hb : Below W.heap.size W W') => (HX.out.below hb).cell 2)
 have HB2 := Hq (fun (W1 W2 : World) (h1 : Below W.heap.size W W1) (h2 : Below W1.heap.size W1 W2) => zc h1 h2)
 have HC := Hq (fun W' (hb : Below W.heap.size W W') => zjr vs ga gc W' (hA.below (zc HB.out hb)) hv.2)
 have HI := Hq (fun W3 v x B (ho : World.ownsRow W3 B 3 1 v vs.length (vs.map (Value.int .i64))) (hb : B <= W3.heap.size) => zvc vs v k x W3.heap.size (W3.alloc (.cells #[.int .i64 x] 3)) B hv.1 hv.2 (ho.alloc _) (zg _ _ _ _ rfl) (fun e => by have := (ho.lt _ e).2; omega) (by simp; omega))
 have HS1 := Hq (fun W' (hb : Below W.heap.size W W') => show Calls Tryz.prog 35 #[.int .i64 1, .slice none 0 0, .pointer (some ⟨w.heap.size, 0, none⟩)] W' (zbh W' o2) from
   zfk h t 1 (.slice none 0 0) w.heap.size W' (by rw [hk, ha]; exact HX.out.below hb) (hS.below (zc HB.out hb)) ht hsl o2 (fun w' hb' => hM2 w' (zc (zc HB.out hb) hb')))
 have HSUB := Hq (fun W' x (hx : o2 = some x) (hb : Below W.heap.size W W') a c (hz : zab W' a c ((z1g vs k x).map (Value.int .i64))) => show Calls Tryz.prog 35 #[.int .i64 0, .slice a (vs.length + 1) c, .pointer (some ⟨w.heap.size, 0, none⟩)] W' (zbh W' (o x)) from
   zfk h s 0 (.slice a (vs.length + 1) c) w.heap.size W' (by rw [hk, ha]; exact HX.out.below hb) (hS.below (zc HB.out hb)) hs hsl (o x) (fun w' hb' => hM x a c w' hx (zc (zc HB.out hb) hb') (hz.below hb')))
 clear hA hS hM hM2 hs ht hv hk ha hsl
 refine wp_region_held_drew (S := fun W' => W'.cell? ⟨w.heap.size, 2, none⟩ = some (.int .i64 k)) (by kernel_rfl) ?_ (fun hHeld => ?_)
 . exact HSC.out _ (Below.refl _ _).drew
 refine wpAnyH_take (i := 0) (oi := { dst := some 57, op := Op.move (Operand.tmp 5), type := 97, pos := "call.go:31", after := #[], guard := none }) (v := ?_) rfl (by kernel_rfl) (by kernel_rfl) (by kernel_rfl) (fun _ _ _ h => h) (Or.inl ⟨by rfl, ?_⟩) (by assumption) ?_
 rotate_left
 . (intro w hSw; (try dsimp only at hSw); go_simp; try with_reducible rfl)
 refine wpAnyH_take (i := 1) (oi := { dst := some 58, op := Op.move (Operand.tmp 1), type := 22, pos := "call.go:31", after := #[], guard := none }) (v := ?_) rfl (by kernel_rfl) (by kernel_rfl) (by kernel_rfl) (fun _ _ _ h => h) (Or.inl ⟨by rfl, ?_⟩) (by assumption) ?_
 rotate_left
 . (intro w hSw; (try dsimp only at hSw); go_simp; try with_reducible rfl)
 refine wpAnyH_take (i := 3) (oi := { dst := some 60, op := Op.fieldAddr 25 (Operand.tmp 2) 2, type := 0, pos := "call.go:31", after := #[], guard := none }) (v := ?_) rfl (by kernel_rfl) (by kernel_rfl) (by kernel_rfl) (fun _ _ _ h => h) (Or.inl ⟨by rfl, ?_⟩) (by assumption) ?_
 rotate_left
 . (intro w hSw; (try dsimp only at hSw); go_simp; try with_reducible rfl)
 refine wpAnyH_take (i := 4) (oi := { dst := some 61, op := Op.load 3 (Operand.tmp 60), type := 3, pos := "call.go:31", after := #[{ on := 3, ground := Ground.data }], guard := none }) (v := ?_) rfl (by kernel_rfl) (by kernel_rfl) (by kernel_rfl) (fun _ _ _ h => h) (Or.inl ⟨by rfl, ?_⟩) (by assumption) ?_
 rotate_left
 . (intro w hSw; (try dsimp only at hSw); go_simp; try with_reducible rfl)
 refine wpAnyH_take (i := 5) (oi := { dst := some 62, op := Op.move (Operand.tmp 5), type := 97, pos := "call.go:31", after := #[], guard := none }) (v := ?_) rfl (by kernel_rfl) (by kernel_rfl) (by kernel_rfl) (fun _ _ _ h => h) (Or.inl ⟨by rfl, ?_⟩) (by assumption) ?_
 rotate_left
 . (intro w hSw; (try dsimp only at hSw); go_simp; try with_reducible rfl)
 try simp only [Act.put, List.setIfInBounds_toArray, List.set_cons_zero, List.set_cons_succ]
 refine wpAnyH_ready (rs := [2]) (by kernel_rfl) (by simp) ?_
 refine AllReadyH.cons (o := { dst := some 59, op := Op.call { callee := Callee.value (Operand.func 38), args := #[Operand.tmp 58], argTypes := #[22] }, type := 22, pos := "call.go:31", after := #[{ on := 1, ground := Ground.data }], guard := none }) rfl (fun K hK => ?_) AllReadyH.nil
 go_simp
 go_wp2_with ((go_at_call 38; refine (HC.out _ (Below.refl _ _).drew).mono ?_; rintro e w2 ⟨v2, rfl, ho, hb2⟩; have HO2 := Hq (show World.ownsRow w2 W.heap.size 3 1 v2 vs.length (vs.map (Value.int .i64)) from ho); have HB02 := Hq (show Below W.heap.size W w2 from HB2.out _ _ (Below.refl _ _).drew hb2); clear ho hb2))
 refine hK.out _ _ ?_ (fun hHeld => ?_)
 . exact HSC.out _ HB02.out
 clear hK K
 try simp only [Act.put, List.setIfInBounds_toArray, List.set_cons_zero, List.set_cons_succ]
 refine wpAnyH_ready (rs := [6]) (by kernel_rfl) (by simp) ?_
 refine AllReadyH.cons (o := { dst := some 63, op := Op.call { callee := Callee.value (Operand.tmp 62), args := #[Operand.const (Value.int IntKind.i64 1), Operand.const (Value.slice none 0 0)], argTypes := #[3, 22] }, type := 3, pos := "call.go:31", after := #[{ on := 5, ground := Ground.data }, { on := 2, ground := Ground.chain }], guard := none }) rfl (fun K hK => ?_) AllReadyH.nil
 go_simp
 go_wp2_with (go_at_call 35; refine (HS1.out _ HB02.out).mono ?_; rintro e w3 ⟨hb3, ⟨x, hx, rfl⟩ | ⟨hx, rfl⟩⟩)
 rotate_left
 . exact ⟨rfl, zc HB.out (HB02.out.trans (hb3.mono HB02.out.size)), Or.inr ⟨HEN.out hx, rfl⟩⟩
 have HXX := Hq hx
 have HO3 := Hq (zad HO2.out hb3)
 have HB03 := Hq (HB02.out.trans (hb3.mono HB02.out.size))
 have HB04 := Hq (show Below W.heap.size W (w3.alloc (.cells #[.int .i64 x] 3)) from HB03.out.alloc HB03.out.size _)
 clear hx hb3
 refine hK.out _ _ ?_ (fun hHeld => ?_)
 . exact HSC.out _ HB03.out
 clear hK K
 try simp only [Act.put, List.setIfInBounds_toArray, List.set_cons_zero, List.set_cons_succ]
 refine wpAnyH_ready (rs := [7]) (by kernel_rfl) (by simp) ?_
 refine AllReadyH.cons (o := { dst := some 64, op := Op.buildSlice 22 1 #[(0, Operand.tmp 63)], type := 22, pos := "call.go:31", after := #[{ on := 6, ground := Ground.data }], guard := none }) rfl (fun K hK => ?_) AllReadyH.nil
 go_simp
 try go_wp2_with fail
 refine hK.out _ _ ?_ (fun hHeld => ?_)
 . exact HSC.out _ HB04.out
 clear hK K
 try simp only [Act.put, List.setIfInBounds_toArray, List.set_cons_zero, List.set_cons_succ]
 refine wpAnyH_ready (rs := [8]) (by kernel_rfl) (by simp) ?_
 refine AllReadyH.cons (o := { dst := some 65, op := Op.call { callee := Callee.value (Operand.func 39), args := #[Operand.tmp 59, Operand.tmp 61, Operand.tmp 64], argTypes := #[22, 3, 22] }, type := 22, pos := "call.go:31", after := #[{ on := 2, ground := Ground.data }, { on := 4, ground := Ground.data }, { on := 7, ground := Ground.data }, { on := 6, ground := Ground.chain }], guard := none }) rfl (fun K hK => ?_) AllReadyH.nil
 go_simp
 go_wp2_with ((go_at_call 39; refine (HI.out w3 v2 x _ HO3.out HB03.out.size).mono ?_; rintro e w5 ⟨a5, c5, rfl, hr5, hb5⟩; have HV5 := Hq hr5.vals; have HB05 := Hq (HB04.out.trans hb5); clear hr5 hb5))
 refine hK.out _ _ ?_ (fun hHeld => ?_)
 . exact HSC.out _ HB05.out
 clear hK K
 try simp only [Act.put, List.setIfInBounds_toArray, List.set_cons_zero, List.set_cons_succ]
 refine wpAnyH_ready (rs := [9]) (by kernel_rfl) (by simp) ?_
 refine AllReadyH.cons (o := { dst := some 66, op := Op.call { callee := Callee.value (Operand.tmp 57), args := #[Operand.const (Value.int IntKind.i64 0), Operand.tmp 65], argTypes := #[3, 22] }, type := 3, pos := "call.go:31", after := #[{ on := 0, ground := Ground.data }, { on := 8, ground := Ground.data }, { on := 8, ground := Ground.chain }], guard := none }) rfl (fun K hK => ?_) AllReadyH.nil
 go_simp
 go_wp2_with (go_at_call 35; refine (HSUB.out _ x HXX.out HB05.out _ _ HV5.out).mono ?_; rintro e w6 ⟨hb6, ⟨n, hn, rfl⟩ | ⟨hn, rfl⟩⟩)
 rotate_left
 . exact ⟨rfl, zc HB.out (HB05.out.trans (hb6.mono HB05.out.size)), Or.inr ⟨(HE.out x HXX.out).trans hn, rfl⟩⟩
 have HN := Hq ((HE.out x HXX.out).trans hn)
 have HB06 := Hq (HB05.out.trans (hb6.mono HB05.out.size))
 clear hn hb6
 refine hK.out _ _ ?_ (fun hHeld => ?_)
 . exact HSC.out _ HB06.out
 clear hK K
 refine wpAnyH_take (i := 10) (oi := { dst := some 4, op := Op.assign (Operand.tmp 66), type := 3, pos := "call.go:31", after := #[{ on := 9, ground := Ground.data }, { on := 9, ground := Ground.chain }, { on := 0, ground := Ground.phase }, { on := 1, ground := Ground.phase }, { on := 2, ground := Ground.phase }, { on := 3, ground := Ground.phase }, { on := 4, ground := Ground.phase }, { on := 5, ground := Ground.phase }, { on := 6, ground := Ground.phase }, { on := 7, ground := Ground.phase }, { on := 8, ground := Ground.phase }, { on := 9, ground := Ground.phase }], guard := none }) (v := ?_) rfl (by kernel_rfl) (by kernel_rfl) (by kernel_rfl) (fun _ _ _ h => h) (Or.inl ⟨by rfl, ?_⟩) (by assumption) ?_
 rotate_left
 . (intro w hSw; (try dsimp only at hSw); go_simp; try with_reducible rfl)
 try simp only [Act.put, List.setIfInBounds_toArray, List.set_cons_zero, List.set_cons_succ]
 refine wpAnyH_done (by kernel_rfl) ?_ _
 have HB7 := Hq (zc HB.out HB06.out)
 clear HC HI HS1 HSUB HSC HO2 HO3 HV5 HB02 HB03 HB04 HB05 HB06 HB2 hHeld
 go_wp2_with fail
 go_ret
 exact ⟨HB7.out, Or.inl ⟨_, HN.out, rfl⟩⟩
end Go.Proofs.YtbnkckjdgpiggaaGreatDoor
