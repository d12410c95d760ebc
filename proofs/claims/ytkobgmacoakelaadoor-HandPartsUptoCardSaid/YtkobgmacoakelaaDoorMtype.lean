/-
  The walks of mtype.Drop, its function literal, and mtype.changed.
-/
import Derived.Test.YtkobgmacoakelaaDoorMake
import Derived.Sort.OwnSorted
namespace Go.Proofs.YtkobgmacoakelaaDoor
set_option linter.unusedVariables false
set_option linter.unusedSimpArgs false
open Go.RowKit Go.Shelf Go.Lib Go.Sort

/-- a wrong place -/
theorem drop_bad (n cap : Nat) (a : Option Addr) (i : Int) (W : World) (c : Nat) (hc : W.cell? ⟨c, 0, none⟩ = some (.int .i64 i)) (h : i < 0 ∨ (n : Int) ≤ i) :
    Calls Tryd.prog 36 #[.slice a n cap, .pointer (some ⟨c, 0, none⟩)] W fun e w' => e = .returned (.tuple #[.slice none 0 0, errV 2]) ∧ W = w' := by
  rcases h with h | h
  all_goals
    go_enter Tryd.func36, Tryd.ntmps36
    go_wp2_with fail
    all_goals go_ret2
    all_goals exact ⟨rfl, rfl⟩

theorem putRow_below {w : World} {B g off n : Nat} (hB : B ≤ g) (d : Array (List UInt8)) : Below B w (putRow encStr (Sort.ahead w n) g off d) := by
  refine ⟨rfl, rfl, rfl, by simp, fun k hk => ?_⟩
  have : g ≠ k := by omega
  simp [putRow, mapBlock, Sort.ahead, Array.getElem?_modify, this]

set_option maxRecDepth 100000 in
set_option maxHeartbeats 1000000 in
theorem drop_good (A : List (List UInt8)) (v : Value) (k : Nat) (W : World) (B c : Nat) (hk : k < A.length) (hl : A.length ≤ 5) (hc : W.cell? ⟨c, 0, none⟩ = some (.int .i64 k)) (hown : W.ownsRow B 9 1 v A.length (A.map strV)) :
    Calls Tryd.prog 36 #[v, .pointer (some ⟨c, 0, none⟩)] W fun e w' => ∃ a cap, e = .returned (.tuple #[.slice a (A.length - 1) cap, .nilIface]) ∧ Below B W w' ∧ SRow w' a cap (A.eraseIdx k) := by
  rcases hown.2 with ⟨_, h0⟩ | ⟨g, cap, cur, rfl, hB, hg, hle, hm, _, htk⟩
  · omega
  have hH : Holds encStr W g 0 A.toArray := holds_of_block hg (by simpa [strV, encStr] using htk)
  have hd := Tryd.slices_Delete_string g 0 cap k (k + 1) A W hH hle (by unfold maxLen at hm; omega) (by omega) (by omega)
  have hlist : A.take k ++ A.drop (k + 1) ++ List.replicate (k + 1 - k) [] = A.eraseIdx k ++ [[]] := by
    rw [List.eraseIdx_eq_take_drop_succ, show k + 1 - k = 1 by omega]; rfl
  rw [hlist, show A.length - (k + 1 - k) = A.length - 1 by omega] at hd
  have hd' : ∀ i j : Int, i = k → j = ((k : Int) + 1) → Calls Tryd.prog 37 #[.slice (some ⟨g, 0, none⟩) A.length cap, .int .i64 i, .int .i64 j] W fun e w' => e = .returned (.slice (some ⟨g, 0, none⟩) (A.length - 1) cap) ∧ ∃ q, w' = putRow encStr (Sort.ahead W q) g 0 (A.eraseIdx k ++ [[]]).toArray := by
    intro i j hi hj
    subst hi hj
    exact hd
  have HD := Lib.hid hd'
  have HH := Lib.hid hH
  have HG := Lib.hid hg
  clear hd hd' hH hg hlist htk hown
  go_enter Tryd.func36, Tryd.ntmps36
  go_wp2_with fail
  refine (HD.out _ _ rfl rfl).mono ?_
  rintro e w1 ⟨rfl, q, hw1⟩
  have HW := Lib.hid hw1
  clear hw1
  go_wp2_with fail
  go_ret2
  have hlen : (A.eraseIdx k).length = A.length - 1 := by rw [List.length_eraseIdx]; simp [hk]
  refine ⟨_, cap, rfl, ?_, ?_⟩
  · rw [HW.out]; exact putRow_below hB _
  · refine ⟨by omega, Or.inr ⟨g, 0, rfl, ?_, fun j x hx => ?_⟩⟩
    · rw [HW.out]
      simpa [putRow, mapBlock, Sort.ahead] using (Array.getElem?_eq_some_iff.1 HG.out).1
    · have hj : j < (A.eraseIdx k).length := (List.getElem?_eq_some_iff.1 hx).1
      have h1 := holds_putRow encStr (Sort.ahead W q) g 0 A.toArray (A.eraseIdx k ++ [[]]).toArray (holds_ahead _ _ _ _ _ _ HH.out) (by simp; omega) j (by simp; omega)
      rw [HW.out, h1.1]
      have h2 : ((A.eraseIdx k ++ [[]]).toArray)[j]! = x := by
        rw [getElem!_pos _ j (by simp; omega)]
        simp only [List.getElem_toArray]
        rw [List.getElem_append_left hj]
        exact (List.getElem?_eq_some_iff.1 hx).2
      rw [h2]

/-- what dropping an argument gives -/
def DropRes (m : List UInt8) (i : Int) (w : World) (e : Ending) (w' : World) : Prop :=
  Below w.heap.size w w' ∧ ∃ (s : List UInt8) (ev : Value), e = .returned (.tuple #[.string ⟨⟨s⟩⟩, ev]) ∧ s.length ≤ 200 ∧
    ((∃ k, ev = errV k) ∨ (ev = .nilIface ∧ ∃ A g k, MethodOk m A g ∧ i = (k : Nat) ∧ k < A.length ∧ s = 40 :: ((A.eraseIdx k).flatten ++ 41 :: g)))

theorem drop_len {A : List (List UInt8)} {g : List UInt8} (hl : A.length ≤ 5) (hA : ∀ t ∈ A, TypeOk t) (hg : GivesOk g) : (40 :: (A.flatten ++ 41 :: g)).length ≤ 200 := by
  have h1 := flat_len A hA
  have h2 : g.length ≤ 25 := by
    rcases hg with rfl | hg
    · simp
    · exact (type_len hg).2
  simp only [List.length_cons, List.length_append]
  omega

set_option maxRecDepth 100000 in
set_option maxHeartbeats 1000000 in
theorem changed_drop (m : List UInt8) (hm : m.length ≤ 8388608) (i : Int) (W : World) (c : Nat) (hcl : c < W.heap.size) (hc : W.cell? ⟨c, 0, none⟩ = some (.int .i64 i)) :
    Calls Tryd.prog 30 #[.string ⟨⟨m⟩⟩, .func (.func 36) #[] #[.pointer (some ⟨c, 0, none⟩)]] W fun e w' => DropRes m i W e w' := by
  go_enter Tryd.func30, Tryd.ntmps30
  go_wp2_with fail
  refine (method_calls m hm _).mono ?_
  rintro e w1 ⟨hb1, ⟨rfl, _⟩ | ⟨v, A, g, rfl, hA, hown⟩⟩
  · go_wp2_with fail
    go_ret2
    exact ⟨hb1, [], errV 1, rfl, by simp, Or.inl ⟨1, rfl⟩⟩
  · have hc1 : w1.cell? ⟨c, 0, none⟩ = some (.int .i64 i) := by rw [hb1.cell (p := ⟨c, 0, none⟩) hcl]; exact hc
    have HB1 := Lib.hid hb1
    have HA := Lib.hid hA
    have HO := Lib.hid hown
    have hl := hA.2.2.1
    clear hb1 hA hown hc
    by_cases hi : 0 ≤ i ∧ i < A.length
    · obtain ⟨k, rfl⟩ : ∃ k : Nat, i = k := ⟨i.toNat, by omega⟩
      have hk : k < A.length := by omega
      go_wp2_with fail
      refine (drop_good A v k w1 _ c hk hl hc1 HO.out).mono ?_
      rintro e w2 ⟨a, cap, rfl, hb2, hr⟩
      have HB2 := Lib.hid hb2
      have HR := Lib.hid hr
      have hlen : A.length - 1 = (A.eraseIdx k).length := by rw [List.length_eraseIdx]; simp [hk]
      have hty : ∀ t ∈ A.eraseIdx k, TypeOk t := fun t ht => HA.out.2.1 t (List.mem_of_mem_eraseIdx ht)
      have HTY := Lib.hid hty
      clear hb2 hr hty hc1
      rw [hlen]
      have hl2 : (A.eraseIdx k).length ≤ 5 := by omega
      have HK := Lib.hid (make_ok (A.eraseIdx k) a cap g w2 HR.out hl2 HTY.out HA.out.2.2.2)
      have hsz := drop_len hl2 HTY.out HA.out.2.2.2
      have HS := Lib.hid hsz
      clear hlen hl2 hsz
      go_wp2_with fail
      refine HK.out.mono ?_
      rintro e w3 ⟨rfl, hb3⟩
      go_wp2_with fail
      go_ret2
      exact ⟨bl_trans (HB1.out.trans HB2.out) hb3, _, _, rfl, HS.out, Or.inr ⟨rfl, A, g, k, HA.out, rfl, hk, rfl⟩⟩
    · obtain ⟨C, hv⟩ : ∃ C : Option Addr × Nat, v = .slice C.1 A.length C.2 := by
        rcases HO.out.2 with ⟨h, h0⟩ | ⟨g2, c2, _, h, _⟩
        · exact ⟨(none, 0), by rw [h, h0]⟩
        · exact ⟨(some ⟨g2, 0, none⟩, c2), h⟩
      subst hv
      have HD := Lib.hid (drop_bad A.length C.2 C.1 i w1 c hc1 (by omega))
      clear hc1
      go_wp2_with fail
      refine HD.out.mono ?_
      rintro e w2 ⟨rfl, rfl⟩
      go_wp2_with fail
      go_ret2
      exact ⟨HB1.out, [], errV 2, rfl, by simp, Or.inl ⟨2, rfl⟩⟩

set_option maxRecDepth 100000 in
set_option maxHeartbeats 1000000 in
theorem drop_calls (m : List UInt8) (hm : m.length ≤ 8388608) (i : Int) (w : World) :
    Calls Tryd.prog 17 #[.string ⟨⟨m⟩⟩, .int .i64 i] w fun e w' => DropRes m i w e w' := by
  have hch := changed_drop m hm i (w.alloc (.cells #[.int .i64 i] 3)) w.heap.size (by simp) (World.cell?_alloc_new _ _ _ _)
  have HC := Lib.hid hch
  have hmf : ∀ (fn : Fn) (first cap : Array Value) (w : World), (Instr.makeFunc fn first cap).run Tryd.prog w = .ok (.func fn first cap) w := fun _ _ _ _ => rfl
  clear hch
  go_enter Tryd.func17, Tryd.ntmps17
  go_wp2_with fail
  refine HC.out.mono ?_
  rintro e w1 ⟨hb1, s, ev, rfl, hs, hd⟩
  have HB := Lib.hid hb1
  have HD := Lib.hid hd
  clear hb1 hd
  go_wp2_with fail
  go_ret2
  exact ⟨bl_trans (bl_alloc (Below.refl _ _) _) HB.out, s, ev, rfl, hs, HD.out⟩
end Go.Proofs.YtkobgmacoakelaaDoor
