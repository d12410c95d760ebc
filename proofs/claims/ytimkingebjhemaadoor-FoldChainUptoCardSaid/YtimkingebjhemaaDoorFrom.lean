/-
  The walk of flow.From: the places that can be come to.
-/
import Derived.Test.YtimkingebjhemaaDoorRowInt
import Derived.Test.YtimkingebjhemaaDoorFlow
import Derived.WalkSmall
import Derived.Deep.AppendLies
import Derived.Deep.LoopGhost
namespace Go.Proofs.YtimkingebjhemaaDoor
set_option linter.unusedVariables false
set_option linter.unusedSimpArgs false
open Go.RowKit Go.Shelf Go.Lib

theorem info_bool : (Tryd.prog.info? 4).map (fun i => (i.zero, i.size, i.bytes)) = some (some (.bool false), 1, 1) := by kernel_rfl

/-- what the search holds -/
def SrchAt (l : List InsR) (T : List Nat) (B : Nat) (w : World) (S g : Nat) (seen : List Bool) (todo : List Nat) (v : Value) (wr : World) : Prop :=
  Srch l T seen todo ∧ Below B w wr ∧ wr.ownsRow B 4 1 (.slice (some ⟨S, 0, none⟩) l.length l.length) l.length (seen.map .bool) ∧ wr.ownsRow B 3 1 v todo.length (todo.map intV) ∧ 3 * unseen seen + todo.length ≤ g ∧ B ≤ wr.heap.size

theorem last_cases {α : Type} (l : List α) : l = [] ∨ ∃ r x, l = r ++ [x] := by
  rcases List.eq_nil_or_concat l with h | ⟨r, x, h⟩
  · exact Or.inl h
  · exact Or.inr ⟨r, x, by simpa using h⟩

theorem own_cap {w : World} {B : Nat} {e : TypeId} {size : Nat} {A : Option Addr} {n C : Nat} {xs : List Value} (h : w.ownsRow B e size (.slice A n C) n xs) : n ≤ C := by
  rcases h.2 with ⟨h1, h2⟩ | ⟨g, cap, cur, h1, _, _, h2, _⟩
  · omega
  · simp only [Value.slice.injEq] at h1; omega

theorem srch_skip {l : List InsR} {T : List Nat} {B S g gb C i : Nat} {w wr : World} {seen : List Bool} {rest : List Nat} (h : SrchAt l T B w S g seen (rest ++ [i]) (.slice (some ⟨gb, 0, none⟩) (rest.length + 1) C) wr) (hi : seen[i]? = some true) :
    SrchAt l T B w S (g - 1) seen rest (.slice (some ⟨gb, 0, none⟩) rest.length C) wr ∧ 1 ≤ g := by
  obtain ⟨h1, h2, h3, h4, h5, h6⟩ := h
  simp only [List.length_append, List.length_singleton, List.map_append, List.map_cons, List.map_nil] at h4 h5
  exact ⟨⟨h1.skip hi, h2, h3, ownsRow_pop (by simp) h4, by omega, h6⟩, by omega⟩

/-- behind the store, the call and the append -/
theorem srch_visit {l : List InsR} {T : List Nat} {B S g gb C i : Nat} {w wr w1 w2 : World} {seen : List Bool} {rest : List Nat} {va v' : Value} (hl : FlowOk l) (h : SrchAt l T B w S g seen (rest ++ [i]) (.slice (some ⟨gb, 0, none⟩) (rest.length + 1) C) wr) (hi : seen[i]? = some false)
    (hb : Below wr.heap.size (wr.setCell ⟨S, i, none⟩ (.bool true)) w1) (ho : w2.ownsRow B 3 1 v' (rest.length + (aft l i).length) (rest.map intV ++ (aft l i).map intV)) (hg : w1.grownBy w2 (Value.slice (some ⟨gb, 0, none⟩) rest.length C).ownBlock) :
    SrchAt l T B w S (g - 2) (seen.set i true) (rest ++ aft l i) v' w2 ∧ 2 ≤ g := by
  obtain ⟨h1, h2, h3, h4, h5, h6⟩ := h
  have hne : gb ≠ S := by
    intro e
    subst e
    exact own_ne h4 h3 (by decide) (k := gb) rfl rfl
  obtain ⟨hst, hgs⟩ := h3.stored i (.bool true)
  have hBS : B ≤ S := (h3.lt S rfl).1
  have hs1 : (wr.setCell ⟨S, i, none⟩ (.bool true)).heap.size = wr.heap.size := by simp [World.setCell]
  have hb' : Below (wr.setCell ⟨S, i, none⟩ (.bool true)).heap.size (wr.setCell ⟨S, i, none⟩ (.bool true)) w1 := by rw [hs1]; exact hb
  have hb1 : Below B w w1 := (h2.setCell (p := ⟨S, i, none⟩) hBS _).trans (hb'.mono (by rw [hs1]; exact h6))
  have hsz : wr.heap.size ≤ w1.heap.size := by have := hb'.size; rwa [hs1] at this
  have hu := unseen_set seen i hi
  have ha := aft_len l i
  simp only [List.length_append, List.length_singleton] at h5
  refine ⟨⟨h1.visit hl, hb1.grown hg (by omega) (fun k hk => by simp [Value.ownBlock] at hk; subst hk; exact (h4.lt gb rfl).1), ?_, ?_, ?_, ?_⟩, by omega⟩
  · have h7 := own_below hst hb'
    have h8 := h7.kept hg (Or.inr (by simp [Value.ownBlock]; exact fun e => hne e.symm))
    rw [List.map_set]; exact h8
  · rw [List.length_append, List.map_append]; exact ho
  · rw [List.length_append]; omega
  · have := hg.size; omega

theorem srch_start {l : List InsR} {T : List Nat} {B S : Nat} {w w1 w2 : World} {v : Value} (hT : ∀ i ∈ T, i < l.length) (hb : Below B w w1) (hB : B ≤ w1.heap.size)
    (ho : w1.ownsRow B 4 1 (.slice (some ⟨S, 0, none⟩) l.length l.length) l.length (List.replicate l.length (.bool false))) (ho2 : w2.ownsRow B 3 1 v T.length (T.map intV)) (hg : w1.grownBy w2 (Value.slice none 0 0).ownBlock) (hl : l.length ≤ 40) (hTl : T.length ≤ 100) :
    SrchAt l T B w S 220 (List.replicate l.length false) T v w2 := by
  refine ⟨Srch.start hT, hb.grown hg hB (by intro k hk; simp [Value.ownBlock] at hk), ?_, ho2, ?_, Nat.le_trans hB hg.size⟩
  · have := ho.kept hg (Or.inr (by simp [Value.ownBlock]))
    simpa using this
  · have : unseen (List.replicate l.length false) ≤ l.length := by
      unfold unseen
      have := List.countP_le_length (p := (! ·)) (l := List.replicate l.length false)
      simpa using this
    omega

def FromRes (l : List InsR) (T : List Nat) (w : World) (e : Ending) (w' : World) : Prop :=
  ∃ (v : Value) (seen : List Bool), e = .returned v ∧ w'.ownsRow w.heap.size 4 1 v l.length (seen.map .bool) ∧ seen.length = l.length ∧ (∀ i : Nat, seen[i]? = some true ↔ Rch l T i) ∧ Below w.heap.size w w'

set_option maxRecDepth 100000 in
set_option maxHeartbeats 2000000 in
theorem from_calls (l : List InsR) (a : Option Addr) (cap : Nat) (T : List Nat) (ta : Option Addr) (tcap : Nat) (w : World) (hC : CodeAt w a cap l) (hl : FlowOk l) (hT : ∀ i ∈ T, i < l.length) (hTl : T.length ≤ 100)
    (hV : ValsAt w ta tcap (T.map intV)) (hV0 : T ≠ []) :
    Calls Tryd.prog 19 #[.slice a l.length cap, .slice ta T.length tcap] w fun e w' => FromRes l T w e w' := by
  have hlen := hl.len
  have HC := Lib.hid hC
  have HL := Lib.hid hl
  have HT := Lib.hid hT
  have HV := Lib.hid hV
  have HV0 := Lib.hid hV0
  clear hC hl hT hV hV0
  obtain ⟨B, hB⟩ : ∃ B, B = w.heap.size := ⟨_, rfl⟩
  have HB := Lib.hid hB
  clear hB
  go_enter Tryd.func19, Tryd.ntmps19
  go_wp2_with (at_make; refine wpList_make_ones Tryd.underlying51 info_bool rfl (by decide) rfl _ _ rfl B _ _ l.length rfl rfl ?c1 ?c2 ?c3 ?c4 ?_)
  case c1 => rfl
  case c2 => rfl
  case c3 => omega
  case c4 => rw [HB.out]; exact Nat.le_refl _
  intro w1 ho1 hg1
  have hb1 : Below B w w1 := (Below.refl _ _).grown hg1 (by rw [HB.out]; exact Nat.le_refl _) (by intro k hk; cases hk)
  have hsz1 : B ≤ w1.heap.size := by have := hb1.size; rw [HB.out]; have := hg1.size; exact this
  have hs := src_of_vals (HV.out.below (hb1.mono (by rw [HB.out]; exact Nat.le_refl _))) (intV_one T) (Or.inl (by intro h; exact HV0.out (List.map_eq_nil_iff.1 h)))
  rw [List.length_map] at hs
  have HS := Lib.hid hs
  have HO1 := Lib.hid ho1
  have HB1 := Lib.hid hb1
  generalize hS : w.heap.size = S at HO1 ⊢
  clear hs ho1 hb1 hg1
  go_wp2_with (at_builtin; refine wpList_append_src rowInt rfl _ _ rfl B _ 0 [] rfl ?c1 _ T.length (T.map intV) rfl ?c2 ?c3 ?c4 ?c5 ?_)
  case c1 => exact World.ownsRow_nil _ _ _ _
  case c2 => exact HS.out
  case c3 => omega
  case c4 => omega
  case c5 => exact hsz1
  intro v2 w2 ho2 hg2
  have HST := Lib.hid (srch_start HT.out HB1.out hsz1 HO1.out ho2 hg2 hlen hTl)
  obtain ⟨A2, C2, rfl, hx1, hx2⟩ := vals_of_own ho2
  clear ho2 hg2 HO1 HS HB1 hsz1 hS HT HV HV0 hx1 hx2
  go_wp2_with fail
  go_loopg [1] 220 (fun g v wr => ∃ (seen : List Bool) (todo : List Nat) (A : Option Addr) (C : Nat), v = .slice A todo.length C ∧ g ≤ 220 ∧ SrchAt l T B w S g seen todo (.slice A todo.length C) wr)
  case atStart => exact ⟨_, T, A2, C2, rfl, Nat.le_refl _, HST.out⟩
  case round =>
    obtain ⟨seen, todo, A, C, rfl, hg, hs⟩ := hrel
    have htl : todo.length ≤ 220 := by have := hs.2.2.2.2.1; omega
    rcases last_cases todo with rfl | ⟨rest, i, rfl⟩
    · have HS := Lib.hid hs
      clear hs
      go_wp2_with fail
      go_ret
      have h := HB.out
      subst h
      exact ⟨_, seen, rfl, HS.out.2.2.1, HS.out.1.len, HS.out.1.done, HS.out.2.1⟩
    · simp only [List.length_append, List.length_singleton] at htl hs ⊢
      have HS := Lib.hid hs
      have hil : i < l.length := hs.1.lt i (by simp)
      have hsn : seen.length = l.length := hs.1.len
      have hto := hs.2.2.2.1
      rw [List.length_append, List.length_singleton] at hto
      obtain ⟨gb, cap', hA, hBg, hgl⟩ := hto.form (by omega)
      simp only [Value.slice.injEq] at hA
      obtain ⟨rfl, _, rfl⟩ := hA
      have hci : wr.cell? ⟨gb, rest.length, none⟩ = some (.int .i64 i) := by
        rw [hto.cellAt rest.length (by omega)]
        simp
      obtain ⟨sb, hsb⟩ : ∃ sb, seen[i]? = some sb := ⟨_, List.getElem?_eq_getElem (by omega)⟩
      have hcs : wr.cell? ⟨S, i, none⟩ = some (.bool sb) := by
        rw [hs.2.2.1.cellAt i (by omega), List.getElem?_map, hsb]; rfl
      have hrc := own_cap hto
      have hfs : wr.frozen? ⟨S, i, none⟩ = false := hs.2.2.1.frozenAt i
      clear hs hto
      cases sb with
      | true =>
        obtain ⟨hn1, hn2⟩ := srch_skip HS.out hsb
        have HN := Lib.hid hn1
        clear hn1 hsb HS
        go_wp2_with fail
        go_roundg (gk - 1)
        case measure => omega
        case rel => exact ⟨seen, rest, _, C, rfl, by omega, HN.out⟩
      | false =>
        have HSB := Lib.hid hsb
        have hsz := HS.out.2.2.2.2.2
        clear hsb
        have hBS : B ≤ S := (HS.out.2.2.1.lt S rfl).1
        have hcW : CodeAt (wr.setCell ⟨S, i, none⟩ (.bool true)) a cap l := HC.out.below (by
          have h := HB.out
          subst h
          exact HS.out.2.1.setCell (p := ⟨S, i, none⟩) hBS _)
        have HCW := Lib.hid hcW
        clear hcW
        go_wp2_with fail
        refine (after_calls l a cap i _ HCW.out HL.out hil).mono ?_
        rintro e w3 ⟨va, rfl, hova, hb3⟩
        have hs1 : (wr.setCell ⟨S, i, none⟩ (.bool true)).heap.size = wr.heap.size := by simp [World.setCell]
        rw [hs1] at hova hb3
        have hne : gb ≠ S := by
          intro e
          have h4 := HS.out.2.2.2.1
          subst e
          exact own_ne h4 HS.out.2.2.1 (by decide) (k := gb) rfl rfl
        have hot : w3.ownsRow B 3 1 (.slice (some ⟨gb, 0, none⟩) rest.length C) rest.length (rest.map intV) := by
          have h4 := HS.out.2.2.2.1
          simp only [List.length_append, List.length_singleton, List.map_append, List.map_cons, List.map_nil] at h4
          have h5 := (ownsRow_pop (by simp) h4).kept (HS.out.2.2.1.stored i (.bool true)).2 (Or.inr (by simp [Value.ownBlock]; exact hne))
          exact own_below h5 (by rw [hs1]; exact hb3)
        have hsr := SrcRow.of_own hova (intV_one _)
        have hsz3 : B ≤ w3.heap.size := Nat.le_trans (by rw [hs1]; exact hsz) hb3.size
        have hal := aft_len l i
        have HOT := Lib.hid hot
        have HSR := Lib.hid hsr
        have HB3 := Lib.hid hb3
        clear hova hb3 hot hsr hs1 hne HCW
        go_wp2_with (at_builtin; refine wpList_append_src rowInt rfl _ _ rfl B _ rest.length (rest.map intV) rfl ?c1 _ (aft l i).length ((aft l i).map intV) rfl ?c2 ?c3 ?c4 ?c5 ?_)
        case c1 => exact HOT.out
        case c2 => exact HSR.out
        case c3 => omega
        case c4 => omega
        case c5 => exact hsz3
        intro v4 w4 ho4 hg4
        obtain ⟨hn1, hn2⟩ := srch_visit (va := va) HL.out HS.out HSB.out HB3.out ho4 hg4
        have HN := Lib.hid hn1
        obtain ⟨A4, C4, rfl, hx1, hx2⟩ := vals_of_own ho4
        clear hn1 hx1 hx2 ho4 hg4 HOT HSR HB3 HS HSB
        go_wp2_with fail
        go_roundg (gk - 2)
        case measure => omega
        case rel =>
          rw [← List.length_append] at HN ⊢
          exact ⟨seen.set i true, rest ++ aft l i, A4, C4, rfl, by omega, HN.out⟩
end Go.Proofs.YtimkingebjhemaaDoor
