import Derived.Test.YtbnkckjdgpiggaaGreatDoorBase
namespace Go.Proofs.YtbnkckjdgpiggaaGreatDoor
set_option maxRecDepth 100000
set_option maxHeartbeats 16000000
set_option linter.unusedVariables false
set_option linter.unusedSimpArgs false
open Go.Lib
def z2o (c : Int) : Bool := (decide (97 <= c) && decide (c <= 122)) || (decide (65 <= c) && decide (c <= 90)) || c == 95
def zxe (c : Int) : Bool := decide (48 <= c) && decide (c <= 57)
theorem ztu (b : UInt8) : z2o (b.toNat : Int) = z55 b := by
 rw [Bool.eq_iff_iff]; unfold z2o z55; simp only [Bool.or_eq_true, Bool.and_eq_true, decide_eq_true_eq, beq_iff_eq]; omega
theorem zkw (b : UInt8) : zxe (b.toNat : Int) = zwx b := by
 rw [Bool.eq_iff_iff]; unfold zxe zwx; simp only [Bool.and_eq_true, decide_eq_true_eq]; omega
theorem zzv {s : List UInt8} (h : 20 < s.length) : zr s = false := by
 unfold zr
 rw [decide_eq_false (by omega)]; simp
theorem z3b {s : List UInt8} (h0 : 0 < s.length) (h : zxe (s[0].toNat : Int) = true) : zr s = false := by
 rw [zkw] at h
 cases s with
 | nil => simp at h0
 | cons b r =>
   unfold zr
   simp only [List.getElem_cons_zero] at h
   simp [zor, h]
theorem z2k {s : List UInt8} {k : Nat} (hk : k < s.length) (h : z2o (s[k].toNat : Int) = false) (h2 : zxe (s[k].toNat : Int) = false) : zr s = false := by
 rw [ztu] at h
 rw [zkw] at h2
 cases hn : zr s with
 | false => rfl
 | true =>
   unfold zr at hn
   simp only [Bool.and_eq_true] at hn
   have := List.all_eq_true.1 hn.1.2 s[k] (List.getElem_mem hk)
   rw [h, h2] at this
   cases this
theorem z3h {s : List UInt8} (h0 : 0 < s.length) (h20 : s.length <= 20) (hd : zxe (s[0].toNat : Int) = false) (h : ∀ k, (hk : k < s.length) -> (z2o (s[k].toNat : Int) || zxe (s[k].toNat : Int)) = true) : zr s = true := by
 rw [zkw] at hd
 unfold zr
 simp only [Bool.and_eq_true, decide_eq_true_eq, Bool.not_eq_true']
 refine ⟨⟨⟨?_, h20⟩, List.all_eq_true.2 fun b hb => ?_⟩, ?_⟩
 . cases s with
   | nil => simp at h0
   | cons b r => rfl
 . obtain ⟨k, hk, rfl⟩ := List.mem_iff_getElem.1 hb
   have := h k hk
   rw [ztu, zkw] at this
   exact this
 . cases s with
   | nil => simp at h0
   | cons b r => exact hd
def zmf (s : List UInt8) (k : Nat) : Prop := ∀ j, (hj : j < s.length) -> j < k -> (z2o (s[j].toNat : Int) || zxe (s[j].toNat : Int)) = true
theorem zmf.nil (s : List UInt8) : zmf s 0 := fun j _ h => absurd h (by omega)
theorem zmf.step {s : List UInt8} {k : Nat} (h : zmf s k) (hk : k < s.length) (h1 : (z2o (s[k].toNat : Int) || zxe (s[k].toNat : Int)) = true) : zmf s (k + 1) := fun j hj hjk => by
 by_cases e : j = k
 . subst e; exact h1
 . exact h j hj (by omega)
def zhx (s : List UInt8) (n k : Nat) : Prop := n <= k /\ ∃ P X : List UInt8, s.drop n = P ++ X /\ (∀ b ∈ P, b = 91) /\ P.length = k - n /\ X = s.drop k
theorem zhx.nil (s : List UInt8) (n : Nat) : zhx s n n := ⟨Nat.le_refl _, [], s.drop n, rfl, by simp, by simp, rfl⟩
theorem zhx.step {s : List UInt8} {n k : Nat} (h : zhx s n k) (hk : k < s.length) (h1 : (s[k].toNat : Int) = 91) : zhx s n (k + 1) := by
 obtain ⟨hn, P, X, e, hP, hl, hX⟩ := h
 have hb : s[k] = 91 := UInt8.toNat_inj.1 (by have : (91 : UInt8).toNat = 91 := rfl; omega)
 refine ⟨by omega, P ++ [91], s.drop (k + 1), ?_, ?_, by simp; omega, rfl⟩
 . rw [e, hX, List.drop_eq_getElem_cons hk, hb]; simp
 . intro b hb
   rcases List.mem_append.1 hb with hb | hb
   . exact hP b hb
   . exact List.mem_singleton.1 hb
def zxi (s : List UInt8) (n : Nat) : Prop := ∀ t r, s.drop n = t ++ r -> ¬ zi t
def z2u (s : List UInt8) (n k : Nat) : Prop := n < k /\ k <= s.length /\ zi ((s.drop n).take (k - n))
theorem zk5 {s : List UInt8} {n k : Nat} (h : zhx s n k) (h91 : ∀ c r, s.drop k = c :: r -> c ≠ 91)
   (hb : 3 < k - n \/ s.drop k = [] \/ (∃ c r, s.drop k = c :: r /\ c ≠ 73 /\ c ≠ 74 /\ c ≠ 76) \/ (∃ r, s.drop k = 76 :: r /\ ∀ b ∈ r, b ≠ 59) \/ ∃ m r, s.drop k = 76 :: (m ++ 59 :: r) /\ (∀ b ∈ m, b ≠ 59) /\ zr m = false) : zxi s n := by
 obtain ⟨hn, P, X, e, hP, hl, hX⟩ := h
 intro t r e2 ht
 subst hX
 refine z2a ht (e2.symm.trans e) hP h91 ?_
 by_cases h3 : 3 < P.length
 . exact Or.inl h3
 . refine Or.inr ?_
   have h3 : P.length <= 3 := by omega
   rcases hb with hb | hb | hb | hb | hb
   . omega
   . exact Or.inl ⟨h3, hb⟩
   . exact Or.inr (Or.inl ⟨h3, hb⟩)
   . exact Or.inr (Or.inr (Or.inl ⟨h3, hb⟩))
   . exact Or.inr (Or.inr (Or.inr ⟨h3, hb⟩))
theorem zub {s : List UInt8} {n k : Nat} (h : zhx s n k) (h3 : k - n <= 3) (hk : k < s.length) (hc : (s[k].toNat : Int) = 73 \/ (s[k].toNat : Int) = 74) : z2u s n (k + 1) := by
 obtain ⟨hn, P, X, e, hP, hl, hX⟩ := h
 refine ⟨by omega, by omega, P, [s[k]], ?_, hP, by omega, ?_⟩
 . rw [e, hX, List.drop_eq_getElem_cons hk, show k + 1 - n = (P ++ [s[k]]).length by simp; omega, show P ++ s[k] :: s.drop (k + 1) = (P ++ [s[k]]) ++ s.drop (k + 1) by simp, List.take_left]
 . rcases hc with h | h
   . refine Or.inl ?_
     rw [show s[k] = 73 from UInt8.toNat_inj.1 (by have : (73 : UInt8).toNat = 73 := rfl; omega)]
   . refine Or.inr (Or.inl ?_)
     rw [show s[k] = 74 from UInt8.toNat_inj.1 (by have : (74 : UInt8).toNat = 74 := rfl; omega)]
def z06 (s : List UInt8) (k j : Nat) : Prop := ∀ b ∈ (s.drop k).take (j - k), b ≠ 59
theorem z06.nil (s : List UInt8) (k : Nat) : z06 s k k := fun b hb => by simp at hb
theorem zlr {s : List UInt8} {k j : Nat} (hkj : k <= j) (hj : j < s.length) : (s.drop k).take (j + 1 - k) = (s.drop k).take (j - k) ++ [s[j]] := by
 rw [show j + 1 - k = (j - k) + 1 by omega, List.take_succ_eq_append_getElem (by simp; omega)]
 simp [show k + (j - k) = j by omega]
theorem z06.step {s : List UInt8} {k j : Nat} (h : z06 s k j) (hkj : k <= j) (hj : j < s.length) (h1 : (s[j].toNat : Int) ≠ 59) : z06 s k (j + 1) := by
 intro b hb
 rw [zlr hkj hj] at hb
 rcases List.mem_append.1 hb with hb | hb
 . exact h b hb
 . rw [List.mem_singleton.1 hb]
   intro e
   rw [e] at h1
   exact h1 rfl
theorem z3p {s : List UInt8} {n k j : Nat} (h : zhx s n k) (h3 : k - n <= 3) (hk : k < s.length) (hc : (s[k].toNat : Int) = 76) (hkj : k + 1 <= j) (hj : j < s.length) (hc2 : (s[j].toNat : Int) = 59) (hn : zr ((s.drop (k + 1)).take (j - (k + 1))) = true) : z2u s n (j + 1) := by
 obtain ⟨hnk, P, X, e, hP, hl, hX⟩ := h
 have e1 : s[k] = 76 := UInt8.toNat_inj.1 (by have : (76 : UInt8).toNat = 76 := rfl; omega)
 have e2 : s[j] = 59 := UInt8.toNat_inj.1 (by have : (59 : UInt8).toNat = 59 := rfl; omega)
 have e3 : s.drop k = 76 :: ((s.drop (k + 1)).take (j - (k + 1)) ++ [59] ++ s.drop (j + 1)) := by
   rw [List.drop_eq_getElem_cons hk, e1]
   have := List.take_append_drop (j + 1 - (k + 1)) (s.drop (k + 1))
   rw [zlr hkj hj, e2, List.drop_drop, show k + 1 + (j + 1 - (k + 1)) = j + 1 by omega] at this
   rw [this]
 refine ⟨by omega, by omega, P, 76 :: ((s.drop (k + 1)).take (j - (k + 1)) ++ [59]), ?_, hP, by omega, Or.inr (Or.inr ⟨_, hn, rfl⟩)⟩
 rw [e, hX, e3, show j + 1 - n = (P ++ 76 :: ((s.drop (k + 1)).take (j - (k + 1)) ++ [59])).length by simp; omega,
   show P ++ 76 :: ((s.drop (k + 1)).take (j - (k + 1)) ++ [59] ++ s.drop (j + 1)) = (P ++ 76 :: ((s.drop (k + 1)).take (j - (k + 1)) ++ [59])) ++ s.drop (j + 1) by simp, List.take_left]
theorem zq8 {s : List UInt8} {k j : Nat} (hk : k < s.length) (hc : (s[k].toNat : Int) = 76) (hkj : k + 1 <= j) (hj : j < s.length) (hc2 : (s[j].toNat : Int) = 59) (h59 : z06 s (k + 1) j) (hn : zr ((s.drop (k + 1)).take (j - (k + 1))) = false) :
   ∃ m r, s.drop k = 76 :: (m ++ 59 :: r) /\ (∀ b ∈ m, b ≠ 59) /\ zr m = false := by
 have e1 : s[k] = 76 := UInt8.toNat_inj.1 (by have : (76 : UInt8).toNat = 76 := rfl; omega)
 have e2 : s[j] = 59 := UInt8.toNat_inj.1 (by have : (59 : UInt8).toNat = 59 := rfl; omega)
 refine ⟨(s.drop (k + 1)).take (j - (k + 1)), s.drop (j + 1), ?_, h59, hn⟩
 rw [List.drop_eq_getElem_cons hk, e1]
 have := List.take_append_drop (j + 1 - (k + 1)) (s.drop (k + 1))
 rw [zlr hkj hj, e2, List.drop_drop, show k + 1 + (j + 1 - (k + 1)) = j + 1 by omega] at this
 refine congrArg _ (this.symm.trans (by simp))
theorem zzz {s : List UInt8} {k : Nat} (hk : k < s.length) (hc : (s[k].toNat : Int) = 76) (h59 : z06 s (k + 1) s.length) : ∃ r, s.drop k = 76 :: r /\ ∀ b ∈ r, b ≠ 59 := by
 have e1 : s[k] = 76 := UInt8.toNat_inj.1 (by have : (76 : UInt8).toNat = 76 := rfl; omega)
 refine ⟨s.drop (k + 1), by rw [List.drop_eq_getElem_cons hk, e1], ?_⟩
 unfold z06 at h59
 rwa [List.take_of_length_le (by simp)] at h59
theorem zy1 {s : List UInt8} {k : Nat} (hk : k < s.length) (p : UInt8 -> Prop) (h : p s[k]) : ∀ c r, s.drop k = c :: r -> p c := by
 intro c r e
 rw [List.drop_eq_getElem_cons hk] at e
 cases e; exact h
theorem znt {s : List UInt8} : zi s ↔ z2u s 0 s.length := by
 unfold z2u
 simp only [List.drop_zero, Nat.sub_zero, List.take_length]
 exact ⟨fun h => ⟨by have := (zeb h).1; omega, Nat.le_refl _, h⟩, fun h => h.2.2⟩
theorem zyq {s : List UInt8} {n k j : Nat} (h : z2u s n k) (h' : z2u s n j) : k = j := by
 obtain ⟨h1, h2, h3⟩ := h
 obtain ⟨g1, g2, g3⟩ := h'
 have e := (List.take_append_drop (k - n) (s.drop n)).trans (List.take_append_drop (j - n) (s.drop n)).symm
 obtain ⟨e1, _⟩ := zqe h3 g3 e
 have := congrArg List.length e1
 simp at this; omega
theorem z0z {s : List UInt8} {n k : Nat} (h : zxi s n) (h' : z2u s n k) : False := h _ _ (List.take_append_drop (k - n) (s.drop n)).symm h'.2.2
def zif (s : List UInt8) (k : Nat) (A : List (List UInt8)) : Prop := 1 <= k /\ k <= s.length /\ (∀ t ∈ A, zi t) /\ s.take k = 40 :: A.flatten
theorem zlw {s : List UInt8} {k : Nat} {A : List (List UInt8)} (h : zif s k A) : s = 40 :: (A.flatten ++ s.drop k) := by
 have := List.take_append_drop k s
 rw [h.2.2.2] at this
 exact this.symm
theorem zv6 {s : List UInt8} (h : 0 < s.length) (h40 : (s[0].toNat : Int) = 40) : zif s 1 [] := by
 refine ⟨Nat.le_refl _, h, by simp, ?_⟩
 cases s with
 | nil => simp at h
 | cons b r =>
   simp only [List.getElem_cons_zero] at h40
   have : b = 40 := UInt8.toNat_inj.1 (by have : (40 : UInt8).toNat = 40 := rfl; omega)
   subst this; rfl
theorem z0b {s : List UInt8} {k j : Nat} {A : List (List UInt8)} (h : zif s k A) (ht : z2u s k j) : zif s j (A ++ [(s.drop k).take (j - k)]) := by
 obtain ⟨h1, h2, h3, h4⟩ := h
 obtain ⟨t1, t2, t3⟩ := ht
 refine ⟨by omega, t2, fun t hm => ?_, ?_⟩
 . rcases List.mem_append.1 hm with hm | hm
   . exact h3 t hm
   . rw [List.mem_singleton.1 hm]; exact t3
 . have : s.take j = s.take k ++ (s.drop k).take (j - k) := by
     conv => lhs; rw [show j = k + (j - k) by omega, List.take_add]
   rw [this, h4]; simp
theorem z1o {s : List UInt8} {k : Nat} {A : List (List UInt8)} (h : zif s k A) : A.length <= s.length := by
 have h1 := zl7 A h.2.2.1
 have h2 := congrArg List.length h.2.2.2
 rw [List.length_take, List.length_cons] at h2; omega
theorem zxk {s : List UInt8} {k : Nat} {A : List (List UInt8)} (h : zif s k A) (hn : zxi s k) (h41 : ∀ g, s.drop k ≠ 41 :: g) : ∀ A' g', ¬ zk s A' g' := by
 intro A' g'
 have e := zlw h
 rw [e]
 exact zl2 h.2.2.1 rfl hn h41 A' g'
theorem zn5 {s : List UInt8} {k : Nat} {A : List (List UInt8)} (h : zif s k A) (hk : k < s.length) (h41 : (s[k].toNat : Int) = 41) (hw : 5 < A.length \/ ¬ zf4 (s.drop (k + 1))) : ∀ A' g', ¬ zk s A' g' := by
 intro A' g'
 have e := zlw h
 have e1 : s[k] = 41 := UInt8.toNat_inj.1 (by have : (41 : UInt8).toNat = 41 := rfl; omega)
 rw [List.drop_eq_getElem_cons hk, e1] at e
 rw [e]
 exact zg3 h.2.2.1 rfl hw A' g'
theorem znx {s : List UInt8} {k : Nat} {A : List (List UInt8)} (h : zif s k A) (hk : k < s.length) (h41 : (s[k].toNat : Int) = 41) (h5 : A.length <= 5) (hg : zf4 (s.drop (k + 1))) : zk s A (s.drop (k + 1)) := by
 have e := zlw h
 have e1 : s[k] = 41 := UInt8.toNat_inj.1 (by have : (41 : UInt8).toNat = 41 := rfl; omega)
 rw [List.drop_eq_getElem_cons hk, e1] at e
 exact ⟨e, h.2.2.1, h5, hg⟩
theorem z1b {s : List UInt8} : zxi s s.length := fun t r e ht => by
 have := (zeb ht).1
 have h2 := congrArg List.length e
 simp at h2; omega
theorem zyg {s : List UInt8} {k : Nat} (hk : k < s.length) (h : (s[k].toNat : Int) ≠ 41) : ∀ g, s.drop k ≠ 41 :: g := by
 intro g e
 rw [List.drop_eq_getElem_cons hk] at e
 have e2 := (List.cons.inj e).1
 rw [e2] at h
 exact h rfl
open Go.RowKit Go.Shelf
def SomeB (w : World) (e : Ending) (w' : World) : Prop := (∃ b : Bool, e = .returned (.bool b)) /\ Below w.heap.size w w'
def IsB (b : Bool) (w : World) (e : Ending) (w' : World) : Prop := e = .returned (.bool b) /\ Below w.heap.size w w'
def SomeN (lo hi : Int) (w : World) (e : Ending) (w' : World) : Prop := (∃ n : Int, lo <= n /\ n <= hi /\ e = .returned (.int .i64 n)) /\ Below w.heap.size w w'
theorem zq7 (c : Int) (w : World) : Calls Tryz.prog 74 #[.int .u8 c] w (IsB (zxe c) w) := by
 go_enter Tryz.func74, Tryz.ntmps74
 go_wp2_with fail
 all_goals (go_ret; exact ⟨zaa (by unfold zxe; simp <;> omega), Below.refl _ _⟩)
theorem zoi (c : Int) (w : World) : Calls Tryz.prog 75 #[.int .u8 c] w (IsB (z2o c) w) := by
 go_enter Tryz.func75, Tryz.ntmps75
 go_wp2_with fail
 all_goals (go_ret; exact ⟨zaa (by rw [Bool.eq_iff_iff]; unfold z2o; simp only [Bool.or_eq_true, Bool.and_eq_true, decide_eq_true_eq, beq_iff_eq, Bool.false_eq_true, iff_true, iff_false, false_iff, true_iff] <;> omega), Below.refl _ _⟩)
theorem zsg (s : List UInt8) (w : World) : Calls Tryz.prog 46 #[.string ⟨⟨s⟩⟩] w (IsB (zr s) w) := by
 have HL := Hq (fun c W => zoi c W)
 have HD := Hq (fun c W => zq7 c W)
 obtain ⟨N, hN⟩ : ∃ N, N = zr s := ⟨_, rfl⟩
 rw [<- hN]
 have HN := Hq hN
 clear hN
 by_cases h0 : s.length = 0
 . obtain rfl : s = [] := List.eq_nil_of_length_eq_zero h0
   clear h0
   go_enter Tryz.func46, Tryz.ntmps46
   go_wp2_with fail
   go_ret
   exact ⟨zaa HN.out.symm, Below.refl _ _⟩
 have h1 : (0 : Int) < s.length := by omega
 have h1n : 0 < s.length := by omega
 have h2 : ((s.length : Int) == 0) = false := by rw [beq_eq_false_iff_ne]; omega
 by_cases h20 : 20 < s.length
 . have i20 : (20 : Int) < s.length := by omega
   go_enter Tryz.func46, Tryz.ntmps46
   go_wp2_with fail
   go_ret
   exact ⟨zaa (by rw [HN.out, zzv h20]), Below.refl _ _⟩
 . have i20 : ¬ (20 : Int) < s.length := by omega
   go_enter Tryz.func46, Tryz.ntmps46
   go_wp2_with fail
   refine (HD.out _ _).mono ?_
   rintro e w1 ⟨rfl, hb1⟩
   have HB1 := Hq hb1
   clear hb1
   cases hdg : zxe (s[0].toNat : Int) with
   | true =>
     have HDG := Hq hdg
     clear hdg
     go_wp2_with fail
     go_ret
     exact ⟨zaa (by rw [HN.out, z3b h1n HDG.out]), HB1.out⟩
   | false =>
     have HDG := Hq hdg
     clear hdg
     go_wp2_with fail
     go_loopw [3] (fun i wr => ∃ k : Nat, k <= s.length /\ i = .int .i64 k /\ Below w.heap.size w wr /\ Hid (zmf s k)) (fun i _ => s.length - (RowKit.intOf i).toNat)
     case atStart => exact ⟨0, by omega, rfl, HB1.out, Hq (zmf.nil s)⟩
     case round =>
       obtain ⟨k, hk, rfl, hb, HNo⟩ := hrel
       have HB := Hq hb
       clear hb
       have i0 : (0 : Int) <= k := Int.natCast_nonneg _
       by_cases he : k < s.length
       . have i1 : (k : Int) < s.length := by omega
         have hwr : wrap64 ((k : Int) + 1) = (k : Int) + 1 := IntWalk.wrap64_in _ (by omega)
         go_wp2_with fail
         refine (HL.out _ _).mono ?_
         rintro e w2 ⟨rfl, hb2⟩
         have HB2 := Hq (zc HB.out hb2)
         clear hb2
         cases hl2 : z2o (s[k].toNat : Int) with
         | true =>
           have HL2 := Hq hl2
           clear hl2
           go_wp2_with fail
           go_roundw
           case rel => exact ⟨k + 1, by omega, by simp, HB2.out, Hq (HNo.out.step he (by rw [HL2.out]; rfl))⟩
           case measure => simp [RowKit.intOf]; omega
         | false =>
           have HL2 := Hq hl2
           clear hl2
           go_wp2_with fail
           refine (HD.out _ _).mono ?_
           rintro e w3 ⟨rfl, hb3⟩
           have HB3 := Hq (zc HB2.out hb3)
           clear hb3
           cases hl3 : zxe (s[k].toNat : Int) with
           | true =>
             have HL3 := Hq hl3
             clear hl3
             go_wp2_with fail
             go_roundw
             case rel => exact ⟨k + 1, by omega, by simp, HB3.out, Hq (HNo.out.step he (by rw [HL3.out]; simp))⟩
             case measure => simp [RowKit.intOf]; omega
           | false =>
             have HL3 := Hq hl3
             clear hl3
             go_wp2_with fail
             go_ret
             exact ⟨zaa (by rw [HN.out, z2k he HL2.out HL3.out]), HB3.out⟩
       . obtain rfl : k = s.length := by omega
         go_wp2_with fail
         go_ret
         exact ⟨zaa (by rw [HN.out, z3h h1n (by omega) HDG.out (fun j hj => HNo.out j hj hj)]), HB.out⟩
def zlg (s : List UInt8) (n : Nat) (w : World) (e : Ending) (w' : World) : Prop := (∃ k : Nat, ((k = 0 /\ zxi s n) \/ z2u s n k) /\ e = .returned (.int .i64 k)) /\ Below w.heap.size w w'
theorem zlg.no {s : List UInt8} {n : Nat} {w w' : World} (h : zxi s n) (hb : Below w.heap.size w w') : zlg s n w (.returned (.int .i64 0)) w' := ⟨⟨0, Or.inl ⟨rfl, h⟩, rfl⟩, hb⟩
theorem zi4 (s : List UInt8) (n : Nat) (w : World) (hs : s.length <= 8388608) (hn : n <= s.length) : Calls Tryz.prog 20 #[.string ⟨⟨s⟩⟩, .int .i64 n] w (zlg s n w) := by
 have HN := Hq (fun (t : List UInt8) W => zsg t W)
 go_enter Tryz.func20, Tryz.ntmps20
 go_wp2_with fail
 go_loopw [5] (fun i wr => ∃ k : Nat, n <= k /\ k <= s.length /\ i = .int .i64 k /\ Below w.heap.size w wr /\ Hid (zhx s n k)) (fun i _ => s.length - (RowKit.intOf i).toNat)
 case atStart => exact ⟨n, by omega, by omega, rfl, Below.refl _ _, Hq (zhx.nil s n)⟩
 case round =>
   obtain ⟨k, hnk, hk, rfl, hb, HNo⟩ := hrel
   have HB := Hq hb
   clear hb
   have i0 : (0 : Int) <= k := Int.natCast_nonneg _
   have j0 : (0 : Int) <= n := Int.natCast_nonneg _
   have hsub : wrap64 ((k : Int) - n) = (k : Int) - n := IntWalk.wrap64_in _ (by omega)
   have hwr : wrap64 ((k : Int) + 1) = (k : Int) + 1 := IntWalk.wrap64_in _ (by omega)
   by_cases he : k < s.length
   . have i1 : (k : Int) < s.length := by omega
     cases q91 : ((s[k].toNat : Int) == 91) with
     | true =>
       have H91 := Hq (show (s[k].toNat : Int) = 91 by simpa using q91)
       go_wp2_with fail
       go_roundw
       case rel => exact ⟨k + 1, by omega, by omega, by simp, HB.out, Hq (HNo.out.step he H91.out)⟩
       case measure => simp [RowKit.intOf]; omega
     | false =>
     have H91 := Hq (show ∀ c r, s.drop k = c :: r -> c ≠ 91 from zy1 he (fun c => c ≠ 91) (fun e => by rw [e] at q91; cases q91))
     by_cases h3 : k - n <= 3
     . have i3 : decide ((k : Int) - n > 3) = false := decide_eq_false (by omega)
       have i4 : decide (3 < (k : Int) - n) = false := decide_eq_false (by omega)
       by_cases hw : (s[k].toNat : Int) = 73 \/ (s[k].toNat : Int) = 74
       . have HRES := Hq (show zlg s n w (.returned (.int .i64 ((k : Int) + 1))) w from ⟨⟨k + 1, Or.inr (zub HNo.out h3 he hw), rfl⟩, Below.refl _ _⟩)
         have HT := Hq (zub HNo.out h3 he hw)
         rcases hw with hw | hw
         . have q1 : ((s[k].toNat : Int) == 73) = true := by rw [hw]; rfl
           clear hw
           go_wp2_with fail
           go_ret
           exact ⟨⟨k + 1, Or.inr HT.out, by simp⟩, HB.out⟩
         . have q1 : ((s[k].toNat : Int) == 74) = true := by rw [hw]; rfl
           have q2 : ((s[k].toNat : Int) == 73) = false := by rw [hw]; rfl
           clear hw
           go_wp2_with fail
           go_ret
           exact ⟨⟨k + 1, Or.inr HT.out, by simp⟩, HB.out⟩
       . have q1 : ((s[k].toNat : Int) == 73) = false := by rw [beq_eq_false_iff_ne]; exact fun e => hw (Or.inl e)
         have q2 : ((s[k].toNat : Int) == 74) = false := by rw [beq_eq_false_iff_ne]; exact fun e => hw (Or.inr e)
         have HW := Hq hw
         clear hw
         cases q76 : ((s[k].toNat : Int) == 76) with
         | false =>
           have q77 : ((s[k].toNat : Int) != 76) = true := by rw [bne, q76]; rfl
           have HNT := Hq (show zxi s n from zk5 HNo.out H91.out (Or.inr (Or.inr (Or.inl ⟨s[k], _, List.drop_eq_getElem_cons he, fun e => HW.out (Or.inl (by rw [e]; rfl)), fun e => HW.out (Or.inr (by rw [e]; rfl)), fun e => by rw [e] at q76; cases q76⟩))))
           go_wp2_with fail
           go_ret
           exact zlg.no HNT.out HB.out
         | true =>
           have q77 : ((s[k].toNat : Int) != 76) = false := by rw [bne, q76]; rfl
           have H76 := Hq (show (s[k].toNat : Int) = 76 by simpa using q76)
           go_wp2_with fail
           go_loopw [6] (fun i wr => ∃ j : Nat, k + 1 <= j /\ j <= s.length /\ i = .int .i64 j /\ Below w.heap.size w wr /\ Hid (z06 s (k + 1) j)) (fun i _ => s.length - (RowKit.intOf i).toNat)
           case atStart => exact ⟨k + 1, by omega, by omega, by simp, HB.out, Hq (z06.nil _ _)⟩
           case round =>
             obtain ⟨j, hkj, hj, rfl, hb, H59⟩ := hrel
             have HBr := Hq hb
             clear hb
             have jj0 : (0 : Int) <= j := Int.natCast_nonneg _
             have hwr2 : wrap64 ((j : Int) + 1) = (j : Int) + 1 := IntWalk.wrap64_in _ (by omega)
             by_cases hje : j < s.length
             . have jj1 : (j : Int) < s.length := by omega
               have jk : (k : Int) + 1 <= j := by omega
               have hk1 : (0 : Int) <= (k : Int) + 1 := by omega
               have hjl : (j : Int) <= s.length := by omega
               have hjne : ((j : Int) == (s.length : Int)) = false := by rw [beq_eq_false_iff_ne]; omega
               cases q59 : ((s[j].toNat : Int) == 59) with
               | false =>
                 have q60 : ((s[j].toNat : Int) != 59) = true := by rw [bne, q59]; rfl
                 have HNN := Hq (H59.out.step hkj hje (by simpa using q59))
                 go_wp2_with fail
                 go_roundw
                 case rel => exact ⟨j + 1, by omega, by omega, by simp, HBr.out, HNN⟩
                 case measure => simp [RowKit.intOf]; omega
               | true =>
                 have q60 : ((s[j].toNat : Int) != 59) = false := by rw [bne, q59]; rfl
                 have HJ := Hq (show (s[j].toNat : Int) = 59 by simpa using q59)
                 go_wp2_with fail
                 refine (HN.out _ _).mono ?_
                 rintro e w2 ⟨rfl, hb2⟩
                 have HB2 := Hq (zc HBr.out hb2)
                 clear hb2
                 cases hnm : zr ((s.drop (k + 1)).take (j - (k + 1))) with
                 | true =>
                   have HNM := Hq (z3p HNo.out h3 he H76.out hkj hje HJ.out hnm)
                   clear hnm
                   go_wp2_with fail
                   go_ret
                   exact ⟨⟨j + 1, Or.inr HNM.out, by simp⟩, HB2.out⟩
                 | false =>
                   have HNT := Hq (show zxi s n from zk5 HNo.out H91.out (Or.inr (Or.inr (Or.inr (Or.inr (zq8 he H76.out hkj hje HJ.out H59.out hnm))))))
                   clear hnm
                   go_wp2_with fail
                   go_ret
                   exact zlg.no HNT.out HB2.out
             . obtain rfl : j = s.length := by omega
               have HNT := Hq (show zxi s n from zk5 HNo.out H91.out (Or.inr (Or.inr (Or.inr (Or.inl (zzz he H76.out H59.out))))))
               go_wp2_with fail
               go_ret
               exact zlg.no HNT.out HBr.out
     . have i3 : 3 < (k : Int) - n := by omega
       have HNT := Hq (show zxi s n from zk5 HNo.out H91.out (Or.inl (by omega)))
       go_wp2_with fail
       go_ret
       exact zlg.no HNT.out HB.out
   . obtain rfl : k = s.length := by omega
     have HNT := Hq (show zxi s n from zk5 HNo.out (by simp) (Or.inr (Or.inl (by simp))))
     go_wp2_with fail
     . go_ret
       exact zlg.no HNT.out HB.out
     . go_ret
       exact zlg.no HNT.out HB.out
def z85 (s : List UInt8) (w : World) (e : Ending) (w' : World) : Prop := (∃ b : Bool, (b = true ↔ zi s) /\ e = .returned (.bool b)) /\ Below w.heap.size w w'
theorem zid (s : List UInt8) (w : World) (hs : s.length <= 8388608) : Calls Tryz.prog 21 #[.string ⟨⟨s⟩⟩] w (z85 s w) := by
 have HT := Hq (fun W => (show Calls Tryz.prog 20 #[.string ⟨⟨s⟩⟩, .int .i64 0] W (zlg s 0 W) from zi4 s 0 W hs (by omega)))
 go_enter Tryz.func21, Tryz.ntmps21
 go_wp2_with fail
 . refine (HT.out _).mono ?_
   rintro e w1 ⟨⟨k, hk, rfl⟩, hb1⟩
   have HB1 := Hq hb1
   have HK := Hq hk
   clear hb1 hk
   go_wp2_with fail
   go_ret
   refine ⟨⟨_, ?_, rfl⟩, HB1.out⟩
   rw [znt]
   simp only [beq_iff_eq, Int.natCast_inj]
   constructor
   . rintro rfl
     rcases HK.out with ⟨h, _⟩ | h
     . omega
     . exact h
   . intro h
     rcases HK.out with ⟨_, h2⟩ | h2
     . exact absurd h (z0z h2)
     . exact zyq h2 h
 . go_ret
   refine ⟨⟨_, ?_, rfl⟩, Below.refl _ _⟩
   rw [znt]
   simp only [Bool.false_eq_true, false_iff]
   intro h
   have := h.1
   omega
def z7b (s : List UInt8) (B : Nat) (w : World) (k : Nat) (v : Value) (wr : World) : Prop :=
 Below B w wr /\ ∃ A : List (List UInt8), wr.ownsRow B 9 1 v A.length (A.map zz) /\ zif s k A
def z5k (s : List UInt8) (w : World) (e : Ending) (w' : World) : Prop :=
 Below w.heap.size w w' /\ ((e = .returned (.tuple #[.slice none 0 0, .string ⟨#[]⟩, .bool false]) /\ ∀ A g, ¬ zk s A g) \/
   ∃ v A g, e = .returned (.tuple #[v, .string ⟨⟨g⟩⟩, .bool true]) /\ zk s A g /\ w'.ownsRow w.heap.size 9 1 v A.length (A.map zz))
theorem z5k.no {s : List UInt8} {w w' : World} (hb : Below w.heap.size w w') (h : ∀ A g, ¬ zk s A g) : z5k s w (.returned (.tuple #[.slice none 0 0, .string ⟨#[]⟩, .bool false])) w' := ⟨hb, Or.inl ⟨rfl, h⟩⟩
theorem zbd (s : List UInt8) (hs : s.length <= 8388608) (w : World) : Calls Tryz.prog 8 #[.string ⟨⟨s⟩⟩] w (z5k s w) := by
 obtain ⟨i0, hi, hz0, hz1, hz2⟩ := info_parts ztv
 obtain ⟨B, hB⟩ : ∃ B, B = w.heap.size := ⟨_, rfl⟩
 have HB := Hq hB
 clear hB
 by_cases h0 : s.length = 0
 . obtain rfl : s = [] := List.eq_nil_of_length_eq_zero h0
   clear h0 hs
   go_enter Tryz.func8, Tryz.ntmps8
   go_wp2_with fail
   go_ret3
   exact .no (Below.refl _ _) (fun A g h => by have := h.1; cases this)
 have h1 : (0 : Int) < s.length := by omega
 have h1n : 0 < s.length := by omega
 have h2 : ((s.length : Int) == 0) = false := by rw [beq_eq_false_iff_ne]; omega
 cases q40 : ((s[0].toNat : Int) == 40) with
 | false =>
   have q41 : ((s[0].toNat : Int) != 40) = true := by rw [bne, q40]; rfl
   have HNO := Hq (show ∀ A g, ¬ zk s A g from fun A g h => by
     have e := h.1
     subst e
     simp at q40)
   go_enter Tryz.func8, Tryz.ntmps8
   go_wp2_with fail
   go_ret3
   exact .no (Below.refl _ _) HNO.out
 | true =>
 have q41 : ((s[0].toNat : Int) != 40) = false := by rw [bne, q40]; rfl
 have HST := Hq (zv6 h1n (by simpa using q40))
 have HAT := Hq (fun k W (hk : k <= s.length) => zi4 s k W hs hk)
 go_enter Tryz.func8, Tryz.ntmps8
 go_wp2_with fail
 clear q40 q41
 go_loopw [5, 6] (fun v i wr => ∃ k : Nat, i = .int .i64 k /\ z7b s B w k v wr) (fun _ i _ => s.length - (RowKit.intOf i).toNat)
 case atStart => exact ⟨1, rfl, Below.refl _ _, [], by simpa using World.ownsRow_nil w B _ 1, HST.out⟩
 case round =>
   obtain ⟨k, rfl, hw, A, hown, hrd⟩ := hrel
   have hAl := z1o hrd
   have hk := hrd.2.1
   have hk1 := hrd.1
   have HW := Hq hw
   have HRD := Hq hrd
   obtain ⟨av, cv, rfl, _⟩ := zy hown
   have HO := Hq hown
   have i0' : (0 : Int) <= k := Int.natCast_nonneg _
   clear hw hrd hown
   by_cases he : k < s.length
   . have i1 : (k : Int) < s.length := by omega
     cases q : ((s[k].toNat : Int) == 41) with
     | false =>
       have q2 : ((s[k].toNat : Int) != 41) = true := by rw [bne, q]; rfl
       have HQ := Hq (show (s[k].toNat : Int) ≠ 41 by simpa using q)
       clear q
       go_wp2_with fail
       refine (HAT.out k wr hk).mono ?_
       rintro e w1 ⟨⟨j, hj, rfl⟩, hb1⟩
       rcases hj with ⟨rfl, hno⟩ | hj
       . have HNO := Hq (zxk HRD.out hno (zyg he HQ.out))
         have HB1 := Hq hb1
         clear hno hb1
         go_wp2_with fail
         go_ret3
         have h := HB.out
         subst h
         exact .no (HW.out.trans (HB1.out.mono HW.out.size)) HNO.out
       . have hjk := hj.1
         have hjl := hj.2.1
         have HJ := Hq hj
         have hown1 : w1.ownsRow B 9 1 (.slice av A.length cv) A.length (A.map zz) := zad HO.out hb1
         have hs1 : B <= w1.heap.size := by have := hb1.size; have := HW.out.size; have := HB.out; omega
         have HB1 := Hq hb1
         have j0 : ((j : Int) == 0) = false := by rw [beq_eq_false_iff_ne]; omega
         have j1 : (k : Int) <= j := by omega
         have j2 : (j : Int) <= s.length := by omega
         clear hb1 hj q2
         go_wp2_with (at_builtin; refine wpList_append_own _ rfl _ _ 35 rfl B 9 i0 (.string ByteArray.empty) 1 16 Tryz.underlying35 hi hz0 hz1 hz2 rfl (by decide) _ _ _ rfl (hown1.alloc _) ⟨w1.heap.size, 0, none⟩ 1 1 [zz ((s.drop k).take (j - k))] rfl rfl ?c1 ?c2 ?c3 ?c4 ?c5 ?_)
         case c1 => exact fun i v hi => zdj w1 [zz ((s.drop k).take (j - k))] 9 i v hi
         case c2 => intro x hx; simp only [List.mem_cons, List.mem_nil_iff, or_false] at hx; rcases hx with rfl; rfl
         case c3 => unfold maxLen; omega
         case c4 => omega
         case c5 => simp; omega
         intro v' w2 ho hg _
         have HN := Hq (show z7b s B w j v' w2 from ⟨((HW.out.trans (HB1.out.mono (by have := HW.out.size; have := HB.out; omega))).alloc hs1 _).grown hg (by simp; omega) (fun i hi => (hown1.lt i hi).1), _, by simpa using ho, z0b HRD.out HJ.out⟩)
         clear ho hg hown1 HW HRD HJ HB1 HO
         go_wp2_with fail
         go_roundw
         case rel => exact ⟨j, rfl, HN.out⟩
         case measure => simp [RowKit.intOf]; omega
     | true =>
       have HQ := Hq (show (s[k].toNat : Int) = 41 by simpa using q)
       have q2 : ((s[k].toNat : Int) != 41) = false := by rw [bne, q]; rfl
       clear q
       by_cases h5 : 5 < A.length
       . have i5 : (5 : Int) < A.length := by omega
         have HNO := Hq (zn5 HRD.out he HQ.out (Or.inl h5))
         go_wp2_with fail
         go_ret3
         have h := HB.out
         subst h
         exact .no HW.out HNO.out
       . have i5 : ¬ (5 : Int) < A.length := by omega
         obtain ⟨g, hg⟩ : ∃ g, g = s.drop (k + 1) := ⟨_, rfl⟩
         have HG := Hq hg
         have HGL := Hq (show g.length <= 8388608 by rw [hg, List.length_drop]; omega)
         have htk : List.take (s.length - (k + 1)) (List.drop (k + 1) s) = g := by rw [hg]; exact List.take_of_length_le (by simp)
         clear hg
         by_cases hV : g = [86]
         . have HGO := Hq (show zk s A g by have := znx HRD.out he HQ.out (by omega) (Or.inl (HG.out.symm.trans hV)); rw [HG.out]; exact this)
           clear HG HGL
           subst hV
           go_wp2_with fail
           go_ret3
           have h := HB.out
           subst h
           exact ⟨HW.out, Or.inr ⟨_, A, _, rfl, HGO.out, HO.out⟩⟩
         . have hq : (g == [86]) = false := by rw [beq_eq_false_iff_ne]; exact hV
           have HV := Hq hV
           have HTY := Hq (fun W => zid g W HGL.out)
           clear hV
           go_wp2_with fail
           refine (HTY.out wr).mono ?_
           rintro e w1 ⟨⟨b, hbt, rfl⟩, hb1⟩
           have HB1 := Hq hb1
           have HBT := Hq hbt
           have HO1 := Hq (zad HO.out hb1)
           clear hb1 hbt
           cases b with
           | true =>
             have HGO := Hq (show zk s A g by have := znx HRD.out he HQ.out (by omega) (Or.inr (HG.out ▸ HBT.out.1 rfl)); rw [HG.out]; exact this)
             clear HBT
             go_wp2_with fail
             go_ret3
             have h := HB.out
             subst h
             exact ⟨HW.out.trans (HB1.out.mono HW.out.size), Or.inr ⟨_, A, _, rfl, HGO.out, HO1.out⟩⟩
           | false =>
             have HNO := Hq (zn5 HRD.out he HQ.out (Or.inr (fun h => by
               rw [<- HG.out] at h
               exact h.elim HV.out (fun h2 => by have := HBT.out.2 h2; cases this))))
             clear HBT
             go_wp2_with fail
             go_ret3
             have h := HB.out
             subst h
             exact .no (HW.out.trans (HB1.out.mono HW.out.size)) HNO.out
   . obtain rfl : k = s.length := by omega
     have HNO := Hq (zxk HRD.out z1b (by simp))
     go_wp2_with fail
     go_ret3
     have h := HB.out
     subst h
     exact .no HW.out HNO.out
end Go.Proofs.YtbnkckjdgpiggaaGreatDoor
