/-
  A stepper in memory; the walks of need, known, pop, put.
-/
import Derived.Test.YtanjggdmgeedlaaGreatDoorPStp
import Derived.Test.YtanjggdmgeedlaaGreatDoorGb
import Derived.Test.YtanjggdmgeedlaaGreatDoorRevOwn
import Derived.Test.YtanjggdmgeedlaaGreatDoorCode
import Derived.WalkLawsBesides
import Derived.Deep.AppendLies
namespace Go.Proofs.YtanjggdmgeedlaaGreatDoor
set_option linter.unusedVariables false
set_option linter.unusedSimpArgs false
open Go.RowKit Go.Shelf Go.Lib

/-- what a stepper panics with -/
def unfitP : List PanicEntry := [{ v := .iface 137 (.agg #[]), recovered := false }]
/-- a stepper: its block c, its two rows of its own -/
structure StpAt (L : List ClassR) (w : World) (B c b : Nat) (fr gv : Nm) (f : FrR) (la : Option Addr) (lc : Nat) (sa : Option Addr) (sc : Nat) : Prop where
  blk : Blk w c 142 #[.map (some b), .string ⟨⟨fr⟩⟩, .string ⟨⟨gv⟩⟩, .slice la f.loc.length lc, .slice sa f.st.length sc]
  lo : w.ownsRow B 9 1 (.slice la f.loc.length lc) f.loc.length (f.loc.map strV)
  so : w.ownsRow B 9 1 (.slice sa f.st.length sc) f.st.length (f.st.map strV)
  ap : ∀ k, (Value.slice la f.loc.length lc).ownBlock = some k → (Value.slice sa f.st.length sc).ownBlock ≠ some k
  cB : B ≤ c
  kok : KOk L f
def Stp (L : List ClassR) (w : World) (B c b : Nat) (fr gv : Nm) (f : FrR) : Prop := ∃ la lc sa sc, StpAt L w B c b fr gv f la lc sa sc
theorem Stp.kok {L : List ClassR} {w : World} {B c b : Nat} {fr gv : Nm} {f : FrR} (h : Stp L w B c b fr gv f) : KOk L f := by obtain ⟨_, _, _, _, h⟩ := h; exact h.kok
theorem Stp.cB {L : List ClassR} {w : World} {B c b : Nat} {fr gv : Nm} {f : FrR} (h : Stp L w B c b fr gv f) : B ≤ c := by obtain ⟨_, _, _, _, h⟩ := h; exact h.cB
theorem Stp.below {L : List ClassR} {w w' : World} {B c b : Nat} {fr gv : Nm} {f : FrR} (h : Stp L w B c b fr gv f) (hb : Below w.heap.size w w') : Stp L w' B c b fr gv f := by
  obtain ⟨la, lc, sa, sc, h⟩ := h
  exact ⟨la, lc, sa, sc, h.blk.below hb, own_below h.lo hb, own_below h.so hb, h.ap, h.cB, h.kok⟩
theorem Stp.cell0 {L : List ClassR} {w : World} {B c b : Nat} {fr gv : Nm} {f : FrR} (h : Stp L w B c b fr gv f) : w.cell? ⟨c, 0, none⟩ = some (.map (some b)) := by obtain ⟨_, _, _, _, h⟩ := h; exact h.blk.cell 0
theorem Stp.lt {L : List ClassR} {w : World} {B c b : Nat} {fr gv : Nm} {f : FrR} (h : Stp L w B c b fr gv f) : c < w.heap.size := by obtain ⟨_, _, _, _, h⟩ := h; exact h.blk.lt
/-- a row's beginning -/
theorem rowOwn_init {w : World} {B : Nat} {e : TypeId} {a : Option Addr} {n cap : Nat} {xs : List Value} {x : Value} (h : w.ownsRow B e 1 (.slice a (n + 1) cap) (n + 1) (xs ++ [x])) : w.ownsRow B e 1 (.slice a n cap) n xs := by
  have hl : xs.length = n := by have := h.1; simp at this; omega
  refine ⟨by rw [hl]; omega, ?_⟩
  rcases h.2 with ⟨_, h0⟩ | ⟨g, cap', cur, hv, hB, hg, hle, hmx, hsz, htk⟩
  · omega
  · simp only [Value.slice.injEq] at hv
    obtain ⟨rfl, _, rfl⟩ := hv
    refine Or.inr ⟨g, cap, cur, rfl, hB, hg, by omega, hmx, hsz, ?_⟩
    have := congrArg (List.take (n * 1)) htk
    rw [List.take_take, Nat.min_eq_left (by omega)] at this
    rw [this, List.take_append_of_le_length (by omega), List.take_of_length_le (by omega)]
theorem rowOwn_at {w : World} {B : Nat} {e : TypeId} {a : Option Addr} {n cap : Nat} {xs : List Value} (h : w.ownsRow B e 1 (.slice a n cap) n xs) {j : Nat} {u : Value} (hj : xs[j]? = some u) : ∃ g, a = some ⟨g, 0, none⟩ ∧ g < w.heap.size ∧ B ≤ g ∧ w.cell? ⟨g, j, none⟩ = some u ∧ w.frozen? ⟨g, j, none⟩ = false ∧ n ≤ cap := by
  rcases h.2 with ⟨_, h0⟩ | ⟨g, cap', cur, hv, hB, hg, hle, hmx, hsz, htk⟩
  · have := h.1; rw [h0] at this
    have : xs = [] := List.eq_nil_of_length_eq_zero (by omega)
    subst this; simp at hj
  · have hc := h.cells (g := g) (by rw [hv]; rfl) j u hj
    simp only [Value.slice.injEq] at hv
    obtain ⟨rfl, _, rfl⟩ := hv
    have e : (⟨g, 0, none⟩ : Addr).add j = ⟨g, j, none⟩ := by unfold Addr.add; split <;> simp_all
    rw [e] at hc
    exact ⟨g, rfl, (Array.getElem?_eq_some_iff.1 hg).1, hB, hc, by simp [World.frozen?, hg], hle⟩

theorem wpList_append_one_lies {P : Program} {W : World} {t e : TypeId} {size bytes : Nat} (T : RowT P t e size bytes) {ops : Array Oper} {rest : List Oper} {o : Oper} {a : Act} {Q : Exit → Act → World → Prop} (hgd : o.guard = none) (s x : Operand)
    (ho : o.op = .call { callee := .builtin .append, args := #[s, x], argTypes := #[t, t] }) (B : Nat) (v : Value) (n : Nat) (xs : List Value) (hs : a.eval s = v) (hown : W.ownsRow B e size v n xs)
    (ys : List Value) (hy : ys.length = size) (h1 : ∀ u ∈ ys, u.oneCell' = true) (g : Nat) (hx : a.eval x = .slice (some ⟨g, 0, none⟩) 1 1) (hg : g = W.heap.size) (hn : n + 1 ≤ 1000000000) (hb : (n + 1) * bytes ≤ 140737488355328) (hB : B ≤ W.heap.size)
    (h : ∀ k cap w', w'.ownsRow B e size (.slice (some ⟨k, 0, none⟩) (n + 1) cap) (n + 1) (xs ++ ys) → (W.alloc (.cells ys.toArray e)).grownBy w' v.ownBlock → (v.ownBlock = some k ∨ k = W.heap.size + 1) → wpList P ops Q rest (a.put o.dst (.slice (some ⟨k, 0, none⟩) (n + 1) cap)) w') :
    wpList P ops Q (o :: rest) a (W.alloc (.cells ys.toArray e)) := by
  subst hg
  obtain ⟨i, z, hi, hz, hsz, hby, hzs⟩ := T.info
  exact wpList_append_lies _ hgd s x t ho B e i z size bytes T.slice hi hz hsz hby hzs T.pos v n xs hs (hown.alloc _) ⟨W.heap.size, 0, none⟩ 1 1 ys hx (by omega) (fun j u hj => new_cells W ys e j u hj) h1 (by omega) (by unfold maxLen; omega) hb (by simp; omega) (W.heap.size + 1) (by simp)
    (fun k cap w' h2 h3 h4 _ => h k cap w' h2 h3 h4)
theorem own_keep2 {w w' : World} {B : Nat} {e : TypeId} {size : Nat} {v : Value} {n : Nat} {xs : List Value} (h : w.ownsRow B e size v n xs) (hk : ∀ g, v.ownBlock = some g → w'.heap[g]? = w.heap[g]?) : w'.ownsRow B e size v n xs := by
  refine ⟨h.1, ?_⟩
  rcases h.2 with h1 | ⟨g, cap, cur, hv, hB, hg, h3⟩
  · exact Or.inl h1
  · exact Or.inr ⟨g, cap, cur, hv, hB, (hk g (by rw [hv]; rfl)).trans hg, h3⟩
/-- a row of texts and the stepper's block are apart -/
theorem own_nstp {w : World} {B c n : Nat} {v : Value} {xs : List Value} {cs : Array Value} (ho : w.ownsRow B 9 1 v n xs) (hb : Blk w c 142 cs) : v.ownBlock ≠ some c := by
  intro hv
  rcases ho.2 with ⟨rfl, _⟩ | ⟨g2, _, _, rfl, _, hg2, _⟩
  · cases hv
  · simp only [Value.ownBlock, Option.some.injEq] at hv
    subst hv
    rw [show w.heap[g2]? = some (.cells _ _ (0, 0)) from hb] at hg2
    simp at hg2

theorem need_true (w : World) : Calls Tryz.prog 123 #[.bool true] w fun e w' => e = .returned (.tuple #[]) ∧ w' = w := by
  go_enter Tryz.func123, Tryz.ntmps123
  go_wp2_with fail
  go_end0
  exact ⟨rfl, rfl⟩
theorem need_false (w : World) : Calls Tryz.prog 123 #[.bool false] w fun e w' => e = .panicked unfitP ∧ w' = w := by
  go_enter Tryz.func123, Tryz.ntmps123
  go_wp2_with fail
  exact ⟨rfl, rfl, rfl⟩
theorem need_calls (q : Bool) (w : World) : Calls Tryz.prog 123 #[.bool q] w fun e w' => e = (if q = true then .returned (.tuple #[]) else .panicked unfitP) ∧ w' = w := by
  cases q with
  | true => exact need_true w
  | false => exact need_false w

/-- what is known of an answer without a result -/
def StRes (L : List ClassR) (r : Option FrR) (B c b : Nat) (fr gv : Nm) (w0 : World) (e : Ending) (w' : World) : Prop :=
  Below B w0 w' ∧ ((r = none ∧ e = .panicked unfitP) ∨ ∃ f, r = some f ∧ e = .returned (.tuple #[]) ∧ Stp L w' B c b fr gv f)

set_option maxRecDepth 100000 in
set_option maxHeartbeats 2000000 in
theorem known_calls (l : List ClassR) (L : List CP) (b c B : Nat) (fr gv : Nm) (f : FrR) (t : Nm) (w0 w : World) (hW : WOk w0 b l L) (hB : B = w0.heap.size) (hb : Below B w0 w) (hs : Stp (wl l) w B c b fr gv f) (ht : t.length ≤ 8388608) :
    Calls Tryz.prog 128 #[.pointer (some ⟨c, 0, none⟩), .string ⟨⟨t⟩⟩] w fun e w' => e = (if kindErr (wl l) t = 0 then .returned (.tuple #[]) else .panicked unfitP) ∧ Below w.heap.size w w' := by
  subst hB
  have HK := Lib.hid (kind_calls l L b t w (hW.below hb) ht)
  obtain ⟨la, lc, sa, sc, h⟩ := hs
  have e0 := h.blk.cell 0
  have e1 := h.blk.lt
  by_cases hk : kindErr (wl l) t = 0
  · rw [if_pos hk]
    rw [hk, errOf_zero] at HK
    clear hW hb h hk
    go_enter Tryz.func128, Tryz.ntmps128
    go_wp2_with fail
    refine HK.out.mono ?_
    rintro e w2 ⟨rfl, hb2⟩
    have HB2 := Lib.hid hb2
    clear hb2
    go_wp2_with fail
    refine (need_true _).mono ?_
    rintro e w3 ⟨rfl, rfl⟩
    go_wp2_with fail
    go_end0
    exact ⟨rfl, HB2.out⟩
  · rw [if_neg hk]
    rw [errOf_ne hk] at HK
    generalize kindErr (wl l) t = z at *
    clear hW hb h hk
    go_enter Tryz.func128, Tryz.ntmps128
    go_wp2_with fail
    refine HK.out.mono ?_
    rintro e w2 ⟨rfl, hb2⟩
    have HB2 := Lib.hid hb2
    clear hb2
    go_wp2_with fail
    refine (need_false _).mono ?_
    rintro e w3 ⟨rfl, rfl⟩
    go_wp2_with fail
    exact ⟨rfl, rfl, HB2.out⟩

def PopRes (L : List ClassR) (r : Option (Nm × FrR)) (B c b : Nat) (fr gv : Nm) (w : World) (e : Ending) (w' : World) : Prop :=
  w.grownBy w' (some c) ∧ ((r = none ∧ e = .panicked unfitP) ∨ ∃ k f, r = some (k, f) ∧ e = .returned (.string ⟨⟨k⟩⟩) ∧ Stp L w' B c b fr gv f)

set_option maxRecDepth 100000 in
set_option maxHeartbeats 2000000 in
theorem pop_calls (L : List ClassR) (b c B : Nat) (fr gv : Nm) (f : FrR) (w : World) (hs : Stp L w B c b fr gv f) :
    Calls Tryz.prog 124 #[.pointer (some ⟨c, 0, none⟩)] w (PopRes L (popF f) B c b fr gv w) := by
  obtain ⟨la, lc, sa, sc, h⟩ := hs
  have e0 := h.blk.cell 4
  have e1 := h.blk.lt
  rcases pop_cases f with h0 | ⟨A, k, h0⟩
  · rw [popF_nil h0]
    simp only [h0, List.length_nil] at e0
    clear h h0
    go_enter Tryz.func124, Tryz.ntmps124
    go_wp2_with fail
    refine (need_false _).mono ?_
    rintro e w3 ⟨rfl, rfl⟩
    go_wp2_with fail
    exact ⟨rfl, gb_refl _ _, Or.inl ⟨rfl, rfl⟩⟩
  · rw [popF_snoc h0]
    obtain ⟨lo, st⟩ := f
    dsimp only at h0 e0
    subst h0
    rw [show (A ++ [k]).length = A.length + 1 by simp] at e0
    have hso := h.so
    simp only [List.map_append, List.map_cons, List.map_nil, List.length_append, List.length_singleton] at hso
    obtain ⟨g, hga, hgl, hgB, hgc, _, hcap⟩ := rowOwn_at hso (j := A.length) (u := strV k) (by rw [List.getElem?_append_right (by simp)]; simp)
    have e2 := h.blk.frozen 4
    have hA : A.length < 8 := by have := h.kok.st; simp at this; omega
    have HP := Lib.hid (h.kok.pop (popF_snoc (f := ⟨lo, A ++ [k]⟩) rfl))
    have HS := Lib.hid h
    have HO := Lib.hid (rowOwn_init hso)
    rw [hga] at e0
    have HGA := Lib.hid hga
    have hk2 : w.cell? ⟨g, A.length, none⟩ = some (.string ⟨⟨k⟩⟩) := hgc
    clear h hso hga hgc
    go_enter Tryz.func124, Tryz.ntmps124
    go_wp2_with fail
    refine (need_true _).mono ?_
    rintro e w3 ⟨rfl, rfl⟩
    have i0 : (0 : Int) ≤ (A.length : Int) := Int.natCast_nonneg _
    have i1 : (A.length : Int) < (A.length : Int) + 1 := by omega
    have i2 : (A.length : Int) ≤ (sc : Int) := by omega
    have HR := Lib.hid (show Stp L (w3.setCell ⟨c, 4, none⟩ (.slice (some ⟨g, 0, none⟩) A.length sc)) B c b fr gv ⟨lo, A⟩ from by
      have hh := HS.out
      have hlo : (Value.slice la lo.length lc).ownBlock ≠ some c := own_nstp hh.lo hh.blk
      have hso : (Value.slice sa A.length sc).ownBlock ≠ some c := own_nstp HO.out hh.blk
      refine ⟨la, lc, sa, sc, by rw [HGA.out]; exact blk_set hh.blk 4 _, own_set hh.lo hlo _, own_set HO.out hso _, fun k hk => ?_, hh.cB, HP.out.1⟩
      have := hh.ap k hk
      rw [HGA.out] at this ⊢
      exact this)
    have HG := Lib.hid (gb_set (gb_refl w3 c) 4 (.slice (some ⟨g, 0, none⟩) A.length sc))
    go_wp2_with fail
    go_ret
    exact ⟨HG.out, Or.inr ⟨k, _, rfl, rfl, HR.out⟩⟩

set_option maxRecDepth 100000 in
set_option maxHeartbeats 2000000 in
theorem put_calls (L : List ClassR) (b c B : Nat) (fr gv : Nm) (f : FrR) (k : Nm) (w0 w : World) (hb : Below B w0 w) (hB : B ≤ w.heap.size) (hs : Stp L w B c b fr gv f) (hk : kindErr L k = 0) :
    Calls Tryz.prog 122 #[.pointer (some ⟨c, 0, none⟩), .string ⟨⟨k⟩⟩] w (StRes L (putF f k) B c b fr gv w0) := by
  obtain ⟨la, lc, sa, sc, h⟩ := hs
  have e0 := h.blk.cell 4
  have e1 := h.blk.lt
  have HB := Lib.hid hb
  have HB0 := Lib.hid hB
  by_cases h8 : f.st.length < 8
  · have HP := Lib.hid (show putF f k = some ⟨f.loc, f.st ++ [k]⟩ by unfold putF; rw [if_pos h8])
    have HS := Lib.hid h
    have hl : (f.st.length : Int) < 8 := by omega
    have HKO := Lib.hid ((h.kok.put hk HP.out).1)
    clear h hb hB hk
    go_enter Tryz.func122, Tryz.ntmps122
    go_wp2_with fail
    refine (need_true _).mono ?_
    rintro e w3 ⟨rfl, rfl⟩
    go_wp2_with (at_builtin; refine wpList_append_one_lies rowStr rfl _ _ rfl B _ f.st.length (f.st.map strV) rfl ?c0 [.string ⟨⟨k⟩⟩] rfl ?c1 _ rfl ?cg ?c2 ?c3 ?c4 ?_)
    case c0 => exact HS.out.so
    case c1 => intro u hu; simp only [List.mem_singleton] at hu; rw [hu]; rfl
    case cg => simp
    case c2 => omega
    case c3 => omega
    case c4 => exact HB0.out
    intro g4 c4 w4 ho4 hg4 hl4
    have hS := HS.out
    have hcs : (Value.slice sa f.st.length sc).ownBlock ≠ some c := own_nstp hS.so hS.blk
    have hblk : Blk w4 c 142 #[.map (some b), .string ⟨⟨fr⟩⟩, .string ⟨⟨gv⟩⟩, .slice la f.loc.length lc, .slice sa f.st.length sc] := (hg4.block c (by simp; omega) (fun e => hcs e.symm)).trans (hS.blk.alloc _)
    have hlo4 : w4.ownsRow B 9 1 (.slice la f.loc.length lc) f.loc.length (f.loc.map strV) := own_keep2 (hS.lo.alloc _) (fun g hg => hg4.block g (by have := (hS.lo.lt g hg).2; simp; omega) (fun e => hS.ap g hg e.symm))
    have hap4 : ∀ k, (Value.slice la f.loc.length lc).ownBlock = some k → (Value.slice (some ⟨g4, 0, none⟩) (f.st.length + 1) c4).ownBlock ≠ some k := fun k hk e => by
      simp only [Value.ownBlock, Option.some.injEq] at e
      subst e
      rcases hl4 with h | h
      · exact hS.ap _ hk h
      · have := (hS.lo.lt _ hk).2; omega
    have hbw4 : Below B w0 w4 := (HB.out.alloc HB0.out _).trans ⟨hg4.os, hg4.tape, hg4.output, hg4.size, fun i hi => hg4.block i (by have := HB0.out; simp; omega) (fun e => by have := (hS.so.lt i e.symm).1; omega)⟩
    have z0 := hblk.cell 4
    have z1 := hblk.frozen 4
    have z2 := hblk.lt
    have HR := Lib.hid (show Stp L (w4.setCell ⟨c, 4, none⟩ (.slice (some ⟨g4, 0, none⟩) (f.st.length + 1) c4)) B c b fr gv ⟨f.loc, f.st ++ [k]⟩ from by
      have hll : (f.st ++ [k]).length = f.st.length + 1 := by simp
      have ho5 : w4.ownsRow B 9 1 (.slice (some ⟨g4, 0, none⟩) (f.st ++ [k]).length c4) (f.st ++ [k]).length ((f.st ++ [k]).map strV) := by rw [hll, List.map_append]; exact ho4
      refine ⟨la, lc, some ⟨g4, 0, none⟩, c4, by show Blk _ _ _ #[_, _, _, _, .slice _ (f.st ++ [k]).length _]; rw [hll]; exact blk_set hblk 4 _, own_set hlo4 (own_nstp hlo4 hblk) _, own_set ho5 (own_nstp ho5 hblk) _, ?_, hS.cB, HKO.out⟩
      show ∀ k2, _ → (Value.slice _ (f.st ++ [k]).length _).ownBlock ≠ _
      rw [hll]; exact hap4)
    have HBW := Lib.hid (hbw4.setCell (p := ⟨c, 4, none⟩) hS.cB (.slice (some ⟨g4, 0, none⟩) (f.st.length + 1) c4))
    clear ho4 hg4 hl4 hS hcs hblk hlo4 hap4 hbw4
    go_wp2_with fail
    go_end0
    exact ⟨HBW.out, Or.inr ⟨_, HP.out, rfl, HR.out⟩⟩
  · have HP := Lib.hid (show putF f k = none by unfold putF; rw [if_neg h8])
    have hl : ¬ (f.st.length : Int) < 8 := by omega
    clear h hb hB hk
    go_enter Tryz.func122, Tryz.ntmps122
    go_wp2_with fail
    refine (need_false _).mono ?_
    rintro e w3 ⟨rfl, rfl⟩
    go_wp2_with fail
    exact ⟨rfl, HB.out, Or.inl ⟨HP.out, rfl⟩⟩
end Go.Proofs.YtanjggdmgeedlaaGreatDoor
