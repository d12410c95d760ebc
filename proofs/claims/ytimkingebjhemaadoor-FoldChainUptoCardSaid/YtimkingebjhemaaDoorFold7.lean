/-
  The walk of fold.All at the codes that the law meets.
-/
import Derived.Test.YtimkingebjhemaaDoorFold6
namespace Go.Proofs.YtimkingebjhemaaDoor
set_option linter.unusedVariables false
set_option linter.unusedSimpArgs false
open Go.RowKit Go.Shelf Go.Lib

theorem dull_pairs : ∀ ts : List Int, Dull (pairs ts ++ [giveI])
  | [] => ⟨Or.inl rfl, trivial⟩
  | a :: ts => ⟨Or.inr (Or.inr ⟨a, addI, _, rfl, rfl, Or.inr (Or.inl rfl)⟩), Or.inr (Or.inl (by decide)), dull_pairs ts⟩
theorem dull_folded (s u : Int) (ts : List Int) : Dull (folded s u ts) :=
  ⟨Or.inr (Or.inr ⟨_, nopR, _, rfl, rfl, Or.inl rfl⟩), Or.inr (Or.inl (by decide)), Or.inr (Or.inl (by decide)), dull_pairs ts⟩
theorem dull_one (s : Int) : Dull (chain s []) :=
  ⟨Or.inr (Or.inr ⟨_, giveI, _, rfl, rfl, Or.inr (Or.inr rfl)⟩), Or.inl rfl, trivial⟩
theorem calm_pairs {ts : List Int} {x : InsR} (h : x ∈ pairs ts ++ [giveI]) : jumpsB x.op = false := by
  rcases List.mem_append.1 h with h | h
  · simp only [pairs, List.mem_flatMap, List.mem_cons, List.mem_nil_iff, or_false] at h
    obtain ⟨a, _, rfl | rfl⟩ := h <;> rfl
  · rw [List.mem_singleton.1 h]; rfl
theorem calm_folded {s u : Int} {ts : List Int} {x : InsR} (h : x ∈ folded s u ts) : jumpsB x.op = false := by
  unfold folded at h
  simp only [List.mem_cons] at h
  rcases h with rfl | rfl | rfl | h
  · rfl
  · rfl
  · rfl
  · exact calm_pairs h
theorem calm_one {s : Int} {x : InsR} (h : x ∈ chain s []) : jumpsB x.op = false := by
  unfold chain at h
  rcases List.mem_cons.1 h with rfl | h
  · rfl
  · exact calm_pairs h
theorem chain_short {s : Int} {ts : List Int} : ∀ x ∈ chain s ts, x.ty.length ≤ 8388608 := by
  intro x h
  unfold chain at h
  rcases List.mem_cons.1 h with rfl | h
  · simp [pushI]
  rcases List.mem_append.1 h with h | h
  · simp only [pairs, List.mem_flatMap, List.mem_cons, List.mem_nil_iff, or_false] at h
    obtain ⟨a, _, rfl | rfl⟩ := h <;> simp [pushI, addI]
  · rw [List.mem_singleton.1 h]; simp [giveI]
theorem folded_short {s u : Int} {ts : List Int} : ∀ x ∈ folded s u ts, x.ty.length ≤ 8388608 := by
  intro x h
  unfold folded at h
  simp only [List.mem_cons] at h
  rcases h with rfl | rfl | rfl | h
  · simp [pushI]
  · simp [nopR]
  · simp [nopR]
  · exact chain_short (s := 0) x (List.mem_cons_of_mem _ h)
theorem code_addr {w : World} {a : Option Addr} {cap : Nat} {l : List InsR} (h : CodeAt w a cap l) (h0 : l ≠ []) : ∃ b off, a = some ⟨b, off, none⟩ := by
  obtain ⟨x, hx⟩ : ∃ x, l[0]? = some x := ⟨_, List.getElem?_eq_getElem (List.length_pos_iff.2 h0)⟩
  obtain ⟨b, off, rfl, _⟩ := h.cells hx
  exact ⟨b, off, rfl⟩

def AllRes (l : List InsR) (w : World) (e : Ending) (w' : World) : Prop :=
  ∃ v, e = .returned (.tuple #[v, .nilIface]) ∧ w'.ownsRow w.heap.size 36 6 v l.length (l.map insCells).flatten ∧ Below w.heap.size w w'

set_option maxRecDepth 100000 in
set_option maxHeartbeats 1000000 in
theorem all_one (s : Int) (hs : wrap32 s = s) (a : Option Addr) (cap : Nat) (w : World) (hC : CodeAt w a cap (chain s [])) (hF : FormsAt w) :
    Calls Tryd.prog 9 #[.slice a (chain s []).length cap] w (AllRes (chain s []) w) := by
  have HK := Lib.hid (flow_ok (chain s []) a cap w hC hF chain_short (chain_ok hs (by simp) (by simp)))
  obtain ⟨b, off, rfl⟩ := code_addr hC (by simp [chain])
  have HC := Lib.hid hC
  have HO := Lib.hid (fun w h => once_none (chain s []) b off cap w h (dull_one s) (fun x hx => calm_one hx) (by simp [chain]) (by simp [chain, pairs]))
  clear hC hF hs
  generalize chain s [] = l at *
  go_enter Tryd.func9, Tryd.ntmps9
  go_wp2_with fail
  refine HK.out.mono ?_
  rintro e w1 ⟨rfl, hb1⟩
  go_wp2_with fail
  refine (HO.out _ (HC.out.below hb1)).mono ?_
  rintro e w2 ⟨v, rfl, ho, hb2⟩
  go_wp2_with fail
  refine wp_loop_rounds 1 ?_
  rw [rounds_succ]
  go_wp2_with fail
  go_ret2
  exact ⟨v, rfl, ho.mono hb1.size, bl_trans hb1 hb2⟩

set_option maxRecDepth 100000 in
set_option maxHeartbeats 1000000 in
theorem all_sum (s u : Int) (ts : List Int) (hs : wrap32 s = s) (hu : ∀ a ∈ u :: ts, wrap32 a = a) (hl : ts.length ≤ 13) (a : Option Addr) (cap : Nat) (w : World) (hC : CodeAt w a cap (chain s (u :: ts))) (hF : FormsAt w) :
    Calls Tryd.prog 9 #[.slice a (chain s (u :: ts)).length cap] w (AllRes (folded s u ts) w) := by
  have HK := Lib.hid (flow_ok (chain s (u :: ts)) a cap w hC hF chain_short (chain_ok hs hu (by simp; omega)))
  obtain ⟨b, off, rfl⟩ := code_addr hC (by simp [chain])
  have HC := Lib.hid hC
  have hpl : (pairs ts ++ [giveI]).length ≤ 900 := by simp [pairs_len]; omega
  have HO := Lib.hid (fun w h => once_sum s u (pairs ts ++ [giveI]) hs (hu u (by simp)) b off cap w h (fun x hx => calm_pairs hx) (by simp) hpl)
  have HO2 := Lib.hid (fun b off cap w h => once_none (folded s u ts) b off cap w h (dull_folded s u ts) (fun x hx => calm_folded hx) (by simp [folded]) (by simp only [folded, List.length_cons]; omega))
  have hfl : (folded s u ts).length = (pairs ts ++ [giveI]).length + 3 := by simp [folded]
  have hch : chain s (u :: ts) = pushI s :: pushI u :: addI :: (pairs ts ++ [giveI]) := by simp [chain, pairs_cons]
  have hfo : pushI (wrap32 (s + u)) :: nopR :: nopR :: (pairs ts ++ [giveI]) = folded s u ts := rfl
  have h0 : folded s u ts ≠ [] := by simp [folded]
  rw [← hch, hfo, ← hfl] at HO
  have H0 := Lib.hid h0
  clear hC hF hs hu hpl hch hfo hfl h0
  generalize chain s (u :: ts) = l at *
  generalize folded s u ts = m at *
  go_enter Tryd.func9, Tryd.ntmps9
  go_wp2_with fail
  refine HK.out.mono ?_
  rintro e w1 ⟨rfl, hb1⟩
  go_wp2_with fail
  refine (HO.out _ (HC.out.below hb1)).mono ?_
  rintro e w2 ⟨v, rfl, ho, hb2⟩
  obtain ⟨A2, C2, rfl, hc2⟩ := code_of_own ho
  obtain ⟨b2, off2, rfl⟩ := code_addr hc2 H0.out
  have HC2 := Lib.hid hc2
  have HB2 := Lib.hid (bl_trans hb1 hb2)
  clear ho hc2 hb1 hb2
  go_wp2_with fail
  refine wp_loop_rounds 2 ?_
  rw [rounds_succ]
  go_wp2_with fail
  refine (HO2.out _ _ _ _ HC2.out).mono ?_
  rintro e w3 ⟨v, rfl, ho, hb3⟩
  have HO3 := Lib.hid (ho.mono HB2.out.size)
  have HB3 := Lib.hid (bl_trans HB2.out hb3)
  clear ho hb3
  go_wp2_with fail
  rw [rounds_succ]
  go_wp2_with fail
  go_ret2
  exact ⟨v, rfl, HO3.out, HB3.out⟩
end Go.Proofs.YtimkingebjhemaaDoor
