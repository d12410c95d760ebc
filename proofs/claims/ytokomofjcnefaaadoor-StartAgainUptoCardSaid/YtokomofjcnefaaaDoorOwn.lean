/-
  Rows of the call's own, and slices that came in: one law for 'append(v, x)' with one element just built, for whatever element type; how rows are kept; what a slice reads as.
-/
import Derived.Test.YtokomofjcnefaaaDoorAppRow
import Derived.Test.YtokomofjcnefaaaDoorSmall
import Derived.Laws.OwnMore
import Derived.Deep.Onto
namespace Go.Proofs.YtokomofjcnefaaaDoor
set_option linter.unusedVariables false
set_option linter.unusedSimpArgs false
open Go.RowKit

/-- a slice type, its element's type, its cells and bytes -/
structure RowT (P : Program) (t e : TypeId) (size bytes : Nat) : Prop where
  slice : P.underlying t = some (.slice e)
  info : ∃ i z, P.info? e = some i ∧ i.zero = some z ∧ i.size = size ∧ i.bytes = bytes ∧ z.cells.size = size
  pos : 0 < size

theorem RowT.mk' {P : Program} {t e : TypeId} {size bytes : Nat} {z : Value} (h : P.underlying t = some (.slice e)) (hi : (P.info? e).map (fun i => (i.zero, i.size, i.bytes)) = some (some z, size, bytes)) (hz : z.cells.size = size) (hp : 0 < size) : RowT P t e size bytes := by
  refine ⟨h, ?_, hp⟩
  cases hh : P.info? e with
  | none => rw [hh] at hi; cases hi
  | some i =>
    rw [hh] at hi
    simp only [Option.map_some, Option.some.injEq, Prod.mk.injEq] at hi
    exact ⟨i, z, rfl, hi.1, hi.2.1, hi.2.2, hz⟩

theorem wpList_append_one {P : Program} {W : World} {t e : TypeId} {size bytes : Nat} (T : RowT P t e size bytes) {ops : Array Oper} {rest : List Oper} {o : Oper} {a : Act} {Q : Exit → Act → World → Prop} (hgd : o.guard = none) (s x : Operand)
    (ho : o.op = .call { callee := .builtin .append, args := #[s, x], argTypes := #[t, t] }) (B : Nat) (v : Value) (n : Nat) (xs : List Value) (hs : a.eval s = v) (hown : W.ownsRow B e size v n xs)
    (ys : List Value) (hy : ys.length = size) (h1 : ∀ u ∈ ys, u.oneCell' = true) (g : Nat) (hx : a.eval x = .slice (some ⟨g, 0, none⟩) 1 1) (hg : g = W.heap.size) (hn : n + 1 ≤ 1000000000) (hb : (n + 1) * bytes ≤ 140737488355328) (hB : B ≤ W.heap.size)
    (h : ∀ v' w', w'.ownsRow B e size v' (n + 1) (xs ++ ys) → (W.alloc (.cells ys.toArray e)).grownBy w' v.ownBlock → wpList P ops Q rest (a.put o.dst v') w') :
    wpList P ops Q (o :: rest) a (W.alloc (.cells ys.toArray e)) := by
  subst hg
  obtain ⟨i, z, hi, hz, hsz, hby, hzs⟩ := T.info
  exact wpList_append_own _ hgd s x t ho B e i z size bytes T.slice hi hz hsz hby hzs T.pos v n xs hs (hown.alloc _) ⟨W.heap.size, 0, none⟩ 1 1 ys hx (by omega) (fun j u hj => new_cells W ys e j u hj) h1 (by unfold maxLen; omega) hb (by simp; omega)
    (fun v' w' h2 h3 _ => h v' w' h2 h3)

theorem wpList_append_src {P : Program} {W : World} {t e : TypeId} {size bytes : Nat} (T : RowT P t e size bytes) {ops : Array Oper} {rest : List Oper} {o : Oper} {a : Act} {Q : Exit → Act → World → Prop} (hgd : o.guard = none) (s x : Operand)
    (ho : o.op = .call { callee := .builtin .append, args := #[s, x], argTypes := #[t, t] }) (B : Nat) (v : Value) (n : Nat) (xs : List Value) (hs : a.eval s = v) (hown : W.ownsRow B e size v n xs)
    (xv : Value) (m : Nat) (news : List Value) (hx : a.eval x = xv) (hsrc : SrcRow W size xv m news) (hn : n + m ≤ 1000000000) (hb : (n + m) * bytes ≤ 140737488355328) (hB : B ≤ W.heap.size)
    (h : ∀ v' w', w'.ownsRow B e size v' (n + m) (xs ++ news) → W.grownBy w' v.ownBlock → wpList P ops Q rest (a.put o.dst v') w') :
    wpList P ops Q (o :: rest) a W := by
  obtain ⟨i, z, hi, hz, hsz, hby, hzs⟩ := T.info
  exact wpList_append_row hgd s x t ho B e i z size bytes T.slice hi hz hsz hby hzs T.pos v n xs hs hown xv m news hx hsrc (by unfold maxLen; omega) hb hB h

theorem grown_below {W w' : World} {o : Obj} {B : Nat} {v : Value} {e : TypeId} {size n : Nat} {xs : List Value} (hB : B ≤ W.heap.size) (hown : W.ownsRow B e size v n xs) (hg : (W.alloc o).grownBy w' v.ownBlock) : Below B W w' :=
  ((Below.refl B W).alloc hB o).grown hg (by simp; omega) (fun k hk => (hown.lt k hk).1)

theorem own_below {w w' : World} {B : Nat} {e : TypeId} {size : Nat} {v : Value} {n : Nat} {xs : List Value} (h : w.ownsRow B e size v n xs) (hb : Below w.heap.size w w') : w'.ownsRow B e size v n xs :=
  h.kept (row := none) ⟨hb.os, hb.tape, hb.output, hb.size, fun k hk _ => hb.block k hk⟩ (by cases hv : Value.ownBlock v <;> simp)

theorem below_dn {B : Nat} {a w : World} (h : Below B a w) (n : Nat) : Below B a (w.drewN n) := ⟨h.os, h.tape, h.output, h.size, h.block⟩
theorem own_dn {w : World} {B : Nat} {e : TypeId} {size : Nat} {v : Value} {n : Nat} {xs : List Value} (h : w.ownsRow B e size v n xs) (k : Nat) : (w.drewN k).ownsRow B e size v n xs := h
theorem slice_of_own {w : World} {B : Nat} {e : TypeId} {size : Nat} {v : Value} {n : Nat} {xs : List Value} (h : w.ownsRow B e size v n xs) : ∃ a cap, v = .slice a n cap ∧ n ≤ cap := by
  rcases h.2 with ⟨rfl, h0⟩ | ⟨g, cap, cur, rfl, _, _, hle, _⟩
  · exact ⟨none, 0, by rw [h0], by omega⟩
  · exact ⟨_, cap, rfl, hle⟩

/-- a slice of one-cell elements reads as these values -/
def ValsAt (w : World) (a : Option Addr) (cap : Nat) (xs : List Value) : Prop :=
  xs.length ≤ cap ∧ (xs = [] ∨ ∃ b off, a = some ⟨b, off, none⟩ ∧ b < w.heap.size ∧ ∀ j x, xs[j]? = some x → w.cell? ⟨b, off + j, none⟩ = some x)

theorem ValsAt.below {w w' : World} {a : Option Addr} {cap : Nat} {xs : List Value} (h : ValsAt w a cap xs) (hb : Below w.heap.size w w') : ValsAt w' a cap xs := by
  obtain ⟨h1, h2 | ⟨b, off, rfl, hlt, hc⟩⟩ := h
  · exact ⟨h1, Or.inl h2⟩
  · exact ⟨h1, Or.inr ⟨b, off, rfl, Nat.lt_of_lt_of_le hlt hb.size, fun j x hx => by rw [hb.cell (p := ⟨b, off + j, none⟩) hlt]; exact hc j x hx⟩⟩

theorem vals_of_own {w : World} {B : Nat} {e : TypeId} {v : Value} {n : Nat} {xs : List Value} (h : w.ownsRow B e 1 v n xs) : ∃ a cap, v = .slice a n cap ∧ xs.length = n ∧ ValsAt w a cap xs := by
  have hl : xs.length = n := by have := h.1; omega
  rcases h.2 with ⟨rfl, h0⟩ | ⟨g, cap, cur, rfl, _, hg, hle, _, _, _⟩
  · exact ⟨none, 0, by rw [h0], hl, by omega, Or.inl (List.eq_nil_of_length_eq_zero (by omega))⟩
  · refine ⟨_, cap, rfl, hl, by omega, Or.inr ⟨g, 0, rfl, (Array.getElem?_eq_some_iff.1 hg).1, fun j x hx => ?_⟩⟩
    have := h.cells (g := g) rfl j x hx
    have e : (⟨g, 0, none⟩ : Addr).add j = ⟨g, j, none⟩ := by unfold Addr.add; split <;> simp_all
    rw [e] at this
    rw [Nat.zero_add]; exact this

/-- a slice of elements of several cells each reads as these lists of cells -/
def RowsAt (w : World) (size : Nat) (a : Option Addr) (cap : Nat) (L : List (List Value)) : Prop :=
  L.length ≤ cap ∧ (L = [] ∨ ∃ b off, a = some ⟨b, off, none⟩ ∧ b < w.heap.size ∧ ∀ k cs, L[k]? = some cs → ∀ j u, cs[j]? = some u → w.cell? ⟨b, off + k * size + j, none⟩ = some u)

theorem RowsAt.below {w w' : World} {size : Nat} {a : Option Addr} {cap : Nat} {L : List (List Value)} (h : RowsAt w size a cap L) (hb : Below w.heap.size w w') : RowsAt w' size a cap L := by
  obtain ⟨h1, h2 | ⟨b, off, rfl, hlt, hc⟩⟩ := h
  · exact ⟨h1, Or.inl h2⟩
  · exact ⟨h1, Or.inr ⟨b, off, rfl, Nat.lt_of_lt_of_le hlt hb.size, fun k cs hk j u hu => by rw [hb.cell (p := ⟨b, off + k * size + j, none⟩) hlt]; exact hc k cs hk j u hu⟩⟩

theorem flat_get : ∀ (L : List (List Value)) (size k j : Nat) (cs : List Value) (u : Value), (∀ c ∈ L, c.length = size) → L[k]? = some cs → cs[j]? = some u → L.flatten[k * size + j]? = some u
  | [], _, k, j, cs, u, _, h, _ => by simp at h
  | c :: L, size, 0, j, cs, u, hl, h, hu => by
    simp at h; subst h
    have hj : j < c.length := (List.getElem?_eq_some_iff.1 hu).1
    simp only [List.flatten_cons, Nat.zero_mul, Nat.zero_add]
    rw [List.getElem?_append_left hj]; exact hu
  | c :: L, size, k + 1, j, cs, u, hl, h, hu => by
    have ih := flat_get L size k j cs u (fun x hx => hl x (by simp [hx])) (by simpa using h) hu
    have hc := hl c (by simp)
    simp only [List.flatten_cons]
    rw [List.getElem?_append_right (by rw [hc, Nat.succ_mul]; omega), hc, Nat.succ_mul]
    rw [show k * size + size + j - size = k * size + j by omega]; exact ih

theorem rows_of_own {w : World} {B : Nat} {e : TypeId} {size : Nat} {v : Value} {L : List (List Value)} (h : w.ownsRow B e size v L.length L.flatten) (hL : ∀ c ∈ L, c.length = size) : ∃ a cap, v = .slice a L.length cap ∧ RowsAt w size a cap L := by
  rcases h.2 with ⟨rfl, h0⟩ | ⟨g, cap, cur, rfl, _, hg, hle, _, _, _⟩
  · exact ⟨none, 0, by rw [h0], by omega, Or.inl (List.eq_nil_of_length_eq_zero h0)⟩
  · refine ⟨_, cap, rfl, hle, Or.inr ⟨g, 0, rfl, (Array.getElem?_eq_some_iff.1 hg).1, fun k cs hk j u hu => ?_⟩⟩
    have := h.cells (g := g) rfl (k * size + j) u (flat_get L size k j cs u hL hk hu)
    have e : (⟨g, 0, none⟩ : Addr).add (k * size + j) = ⟨g, k * size + j, none⟩ := by unfold Addr.add; split <;> simp_all
    rw [e] at this
    rw [Nat.zero_add]; exact this

theorem wpList_make_ones {P : Program} {W : World} {t e : TypeId} {bytes : Nat} {z : Value} (ht : P.underlying t = some (.slice e)) (hi : (P.info? e).map (fun i => (i.zero, i.size, i.bytes)) = some (some z, 1, bytes)) (hz : z.cells = #[z]) (hby : bytes ≤ 1000)
    {ops : Array Oper} {rest : List Oper} {o : Oper} {a : Act} {Q : Exit → Act → World → Prop} (hgd : o.guard = none) (l c : Operand) (hop : o.op = Op.makeSlice t l c) (B : Nat) (L C : Int) (n : Nat)
    (hl : a.eval l = .int .i64 L) (hc : a.eval c = .int .i64 C) (hL : L = (n : Int)) (hC : C = (n : Int)) (hn : n ≤ 1000000) (hB : B ≤ W.heap.size)
    (h : ∀ w', w'.ownsRow B e 1 (.slice (some ⟨W.heap.size, 0, none⟩) n n) n (List.replicate n z) → W.grownBy w' none → wpList P ops Q rest (a.put o.dst (.slice (some ⟨W.heap.size, 0, none⟩) n n)) w') :
    wpList P ops Q (o :: rest) a W := by
  cases hh : P.info? e with
  | none => rw [hh] at hi; cases hi
  | some i =>
    rw [hh] at hi
    simp only [Option.map_some, Option.some.injEq, Prod.mk.injEq] at hi
    have hm : i.bytes * n ≤ 1000 * 1000000 := Nat.mul_le_mul (by omega) hn
    refine wpList_make_full W hgd l c t hop B e i z 1 ht hh hi.1 hi.2.1 .i64 .i64 L C n hl hc hL hC (by omega) (by unfold maxLen; omega) hB (fun w' h1 h2 => h w' ?_ h2)
    rw [hz, Nat.mul_one, toList_madeCells_one] at h1
    exact h1

theorem src_of_vals {w : World} {a : Option Addr} {cap : Nat} {xs : List Value} (h : ValsAt w a cap xs) (h1 : ∀ u ∈ xs, u.oneCell' = true) (h0 : xs ≠ [] ∨ (a = none ∧ cap = 0)) : SrcRow w 1 (.slice a xs.length cap) xs.length xs := by
  refine ⟨by omega, h1, ?_⟩
  rcases h0 with h0 | ⟨rfl, rfl⟩
  · obtain ⟨_, h2 | ⟨b, off, rfl, _, hc⟩⟩ := h
    · exact absurd h2 h0
    · refine Or.inr ⟨_, _, rfl, fun j u hj => ?_⟩
      have e : (⟨b, off, none⟩ : Addr).add j = ⟨b, off + j, none⟩ := by unfold Addr.add; split <;> simp_all
      rw [e]; exact hc j u hj
  · obtain ⟨hl, _⟩ := h
    have : xs = [] := List.eq_nil_of_length_eq_zero (by omega)
    subst this
    exact Or.inl ⟨rfl, rfl⟩

/-- rows of different element types never share a block -/
theorem own_ne {w : World} {B B' : Nat} {e e' : TypeId} {size size' : Nat} {v v' : Value} {n n' : Nat} {xs xs' : List Value} (h : w.ownsRow B e size v n xs) (h' : w.ownsRow B' e' size' v' n' xs') (hne : e ≠ e') {k : Nat} (hk : v.ownBlock = some k) : v'.ownBlock ≠ some k := by
  rcases h.2 with ⟨rfl, _⟩ | ⟨g, cap, cur, rfl, _, hg, _⟩
  · simp [Value.ownBlock] at hk
  · simp [Value.ownBlock] at hk
    subst hk
    rcases h'.2 with ⟨rfl, _⟩ | ⟨g', cap', cur', rfl, _, hg', _⟩
    · simp [Value.ownBlock]
    · simp only [Value.ownBlock]
      intro e1
      have : g' = g := by simpa using e1
      subst this
      rw [hg] at hg'
      simp only [Option.some.injEq, Obj.cells.injEq] at hg'
      exact hne hg'.2.1

theorem below_setCell_own {W w : World} {B g j : Nat} (h : Below B W w) (hg : B ≤ g) (u : Value) : Below B W (w.setCell ⟨g, j, none⟩ u) := h.setCell hg u
end Go.Proofs.YtokomofjcnefaaaDoor
