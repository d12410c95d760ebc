/-
  LockFair: what stands at the head of its two loops, and how one round leads to the next: no program in sight.
-/
import Derived.Test.YtnamnihdbemkhaaDoorLock2
namespace Go.Proofs.YtnamnihdbemkhaaDoor
set_option linter.unusedVariables false
set_option linter.unusedSimpArgs false
open Go.RowKit Go.Shelf Go.Lib

/-- a, a + 1, .. n numbers -/
def up (a : Int) : Nat → List Int
  | 0 => []
  | n + 1 => a :: up (a + 1) n
theorem up_len : ∀ (n : Nat) (a : Int), (up a n).length = n
  | 0, _ => rfl
  | n + 1, a => by simp [up, up_len n]
theorem up_snoc : ∀ (n : Nat) (a : Int), up a (n + 1) = up a n ++ [a + n]
  | 0, a => by simp [up]
  | n + 1, a => by
    rw [up, up_snoc n (a + 1), up]
    simp
    omega

def ints (xs : List Int) : List Value := xs.map (Value.int .i64)

theorem KeptBut.below {S : Nat → Prop} {w w' : World} {B : Nat} (h : KeptBut S w w') (hS : ∀ b, S b → B ≤ b) (hB : B ≤ w.heap.size) : Below B w w' :=
  ⟨h.2.1, h.2.2.1, h.2.2.2.1, h.1, fun k hk => h.2.2.2.2 k (by omega) (fun hs => by have := hS k hs; omega)⟩

/-- the first loop's head, some have come -/
def In1 (B : Nat) (wr : World) (L M1 M2 : Nat) (kk : Int) (k : Nat) (v : Value) : Prop :=
  ∃ K ws f2, B ≤ K ∧ LockAt wr K 0 1 ws ∧ wr.ownsRow B 3 1 ws (up 1 (k - 1)).length (ints (up 1 (k - 1))) ∧ IMap wr M1 1 (putf (fun _ => none) kk (.pointer (some ⟨K, 0, none⟩))) ∧
    IMap wr M2 (k - 1) f2 ∧ (∀ z : Int, z < 1 ∨ (k : Int) ≤ z → f2 z = none) ∧ (∀ g, ws.ownBlock = some g → v.ownBlock ≠ some g)

def Ph1 (B : Nat) (w wr : World) (L M1 M2 : Nat) (kk : Int) (k : Nat) (v : Value) : Prop :=
  Below B w wr ∧ B ≤ wr.heap.size ∧ B ≤ M1 ∧ B ≤ M2 ∧ M1 ≠ M2 ∧ LocksAt wr L M1 M2 ∧ wr.ownsRow B 3 1 v (up 1 (k - 1)).length (ints (up 1 (k - 1))) ∧
  ((k = 0 ∧ v = .slice none 0 0 ∧ IMap wr M1 0 (fun _ => none) ∧ IMap wr M2 0 (fun _ => none)) ∨ (1 ≤ k ∧ In1 B wr L M1 M2 kk k v))

/-- the rest of a row -/
def Rest (w : World) (v : Value) (xs : List Int) : Prop :=
  ∃ a c, v = .slice a xs.length c ∧ xs.length ≤ c ∧ (xs = [] ∨ ∃ g o cs, a = some ⟨g, o, none⟩ ∧ w.heap[g]? = some (Obj.cells cs 3 (0, 0)) ∧ ∀ j x, xs[j]? = some x → w.cell? ⟨g, o + j, none⟩ = some (.int .i64 x))

theorem Rest.of_own {w : World} {B : Nat} {v : Value} {xs : List Int} (h : w.ownsRow B 3 1 v xs.length (ints xs)) : Rest w v xs := by
  rcases h.2 with ⟨rfl, h0⟩ | ⟨g, cap, cur, rfl, _, hg, hle, _, _, _⟩
  · exact ⟨none, 0, by rw [h0], by omega, Or.inl (List.eq_nil_of_length_eq_zero h0)⟩
  · refine ⟨_, cap, rfl, hle, Or.inr ⟨g, 0, cur, rfl, hg, fun j x hx => ?_⟩⟩
    have := h.cells (g := g) rfl j (.int .i64 x) (by unfold ints; rw [List.getElem?_map, hx]; rfl)
    have e : (⟨g, 0, none⟩ : Addr).add j = ⟨g, j, none⟩ := by unfold Addr.add; split <;> simp_all
    rw [e] at this
    rw [Nat.zero_add]; exact this

theorem Rest.nrow {w : World} {v : Value} {xs : List Int} (h : Rest w v xs) : NRow w v xs := by
  obtain ⟨a, c, rfl, _, h | ⟨g, o, cs, rfl, hg, hc⟩⟩ := h
  · exact ⟨a, c, rfl, Or.inl h⟩
  · exact ⟨_, c, rfl, Or.inr ⟨g, o, rfl, (Array.getElem?_eq_some_iff.1 hg).1, hc⟩⟩

theorem Rest.kept {w w' : World} {v : Value} {xs : List Int} (h : Rest w v xs) (hk : ∀ (g : Nat) (cs : Array Value), w.heap[g]? = some (Obj.cells cs 3 (0, 0)) → w'.heap[g]? = w.heap[g]?) : Rest w' v xs := by
  obtain ⟨a, c, rfl, hl, h | ⟨g, o, cs, rfl, hg, hc⟩⟩ := h
  · exact ⟨a, c, rfl, hl, Or.inl h⟩
  · exact ⟨_, c, rfl, hl, Or.inr ⟨g, o, cs, rfl, (hk g cs hg).trans hg, fun j x hx => (World.cell?_of_block (hk g cs hg)).trans (hc j x hx)⟩⟩

theorem Rest.tail {w : World} {a : Option Addr} {x : Int} {xs : List Int} {c : Nat} {g o : Nat} (hle : xs.length ≤ c) (h : xs = [] ∨ ∃ cs, w.heap[g]? = some (Obj.cells cs 3 (0, 0)) ∧ ∀ j y, (x :: xs)[j]? = some y → w.cell? ⟨g, o + j, none⟩ = some (.int .i64 y))
    (ha : a = if c = 0 then some ⟨g, o, none⟩ else some ⟨g, o + 1, none⟩) : Rest w (.slice a xs.length c) xs := by
  refine ⟨a, c, rfl, hle, ?_⟩
  rcases h with h | ⟨cs, hg, hc⟩
  · exact Or.inl h
  · by_cases h0 : xs = []
    · exact Or.inl h0
    · have : 0 < xs.length := List.length_pos_iff.2 h0
      refine Or.inr ⟨g, o + 1, cs, by rw [ha, if_neg (by omega)], hg, fun j y hy => ?_⟩
      have := hc (j + 1) y (by simpa using hy)
      rwa [show o + (j + 1) = o + 1 + j by omega] at this

/-- the second loop's head -/
def Ph2 (B : Nat) (w wr : World) (L M1 M2 : Nat) (kk : Int) (many k : Nat) (v : Value) : Prop :=
  Below B w wr ∧ B ≤ wr.heap.size ∧ B ≤ M1 ∧ B ≤ M2 ∧ M1 ≠ M2 ∧ LocksAt wr L M1 M2 ∧ ∃ n f2, IMap wr M2 n f2 ∧ (∀ z : Int, z ≤ k ∨ (many : Int) ≤ z → f2 z = none) ∧
  ((k < many ∧ ∃ K ws, B ≤ K ∧ LockAt wr K k 1 ws ∧ IMap wr M1 1 (putf (fun _ => none) kk (.pointer (some ⟨K, 0, none⟩))) ∧ Rest wr ws (up (k + 1) (many - 1 - k)) ∧ Rest wr v (up (k + 1) (many - 1 - k))) ∨
   (k = many ∧ ∃ f1, IMap wr M1 1 f1 ∧ f1 kk = none))

theorem ph1_start {B : Nat} {w wr : World} {L M1 M2 : Nat} {kk : Int} (hb : Below B w wr) (hB : B ≤ wr.heap.size) (h1 : B ≤ M1) (h2 : B ≤ M2) (hne : M1 ≠ M2) (hL : LocksAt wr L M1 M2) (i1 : IMap wr M1 0 (fun _ => none)) (i2 : IMap wr M2 0 (fun _ => none)) :
    Ph1 B w wr L M1 M2 kk 0 (.slice none 0 0) :=
  ⟨hb, hB, h1, h2, hne, hL, World.ownsRow_nil _ _ _ _, Or.inl ⟨rfl, rfl, i1, i2⟩⟩

/-- the first one has come -/
theorem ph1_first {B : Nat} {w wr w' : World} {L M1 M2 : Nat} {kk : Int} (h : Ph1 B w wr L M1 M2 kk 0 (.slice none 0 0)) (hK : LockAt w' wr.heap.size 0 1 (.slice none 0 0)) (hI : IMap w' M1 1 (putf (fun _ => none) kk (.pointer (some ⟨wr.heap.size, 0, none⟩)))) (hk : KeptBut (· = M1) wr w') :
    Ph1 B w w' L M1 M2 kk 1 (.slice none 0 0) := by
  obtain ⟨hb, hB, h1, h2, hne, hL, ho, ⟨_, _, i1, i2⟩ | ⟨h0, _⟩⟩ := h
  · have hLM : L ≠ M1 := by
      obtain ⟨o, ho1, ho2⟩ := i1.block
      intro e
      rw [e] at hL
      unfold LocksAt at hL
      rw [hL] at ho1
      exact ho2 _ _ _ (by simpa using ho1.symm)
    refine ⟨hb.trans (hk.below (fun b hb => by rw [hb]; exact h1) hB), Nat.le_trans hB hk.1, h1, h2, hne, ?_, World.ownsRow_nil _ _ _ _, Or.inr ⟨by omega, wr.heap.size, _, fun _ => none, hB, hK, World.ownsRow_nil _ _ _ _, hI, ?_, fun _ _ => rfl, by simp [Value.ownBlock]⟩⟩
    · exact (hk.2.2.2.2 L (Array.getElem?_eq_some_iff.1 hL).1 hLM).trans hL
    · exact i2.kept (hk.2.2.2.2 M2 i2.lt hne.symm)
  · omega

theorem in1_apart {B : Nat} {wr : World} {L M1 M2 K : Nat} {n1 n2 : Nat} {f1 f2 : Int → Option Value} {kk a b : Int} {ws : Value} (hL : LocksAt wr L M1 M2) (hK : LockAt wr K a b ws) (i1 : IMap wr M1 n1 f1) (i2 : IMap wr M2 n2 f2) : L ≠ K ∧ L ≠ M1 ∧ L ≠ M2 ∧ K ≠ M1 ∧ K ≠ M2 := by
  obtain ⟨o1, p1, q1⟩ := i1.block
  obtain ⟨o2, p2, q2⟩ := i2.block
  unfold LocksAt at hL
  unfold LockAt at hK
  refine ⟨?_, ?_, ?_, ?_, ?_⟩
  · intro e; rw [e, hK] at hL; simp at hL
  · intro e; rw [e, p1] at hL; exact q1 _ _ _ (by simpa using hL)
  · intro e; rw [e, p2] at hL; exact q2 _ _ _ (by simpa using hL)
  · intro e; rw [e, p1] at hK; exact q1 _ _ _ (by simpa using hK)
  · intro e; rw [e, p2] at hK; exact q2 _ _ _ (by simpa using hK)

theorem ints_snoc (xs : List Int) (x : Int) : ints xs ++ [.int .i64 x] = ints (xs ++ [x]) := by simp [ints]

set_option maxHeartbeats 1000000 in
/-- one more waits -/
theorem ph1_next {B : Nat} {w wr w1 w2 : World} {L M1 M2 K : Nat} {kk : Int} {k : Nat} {v ws ws' : Value} {f2 : Int → Option Value} (h1k : 1 ≤ k)
    (hb : Below B w wr) (hB : B ≤ wr.heap.size) (h1 : B ≤ M1) (h2 : B ≤ M2) (hne : M1 ≠ M2) (hL : LocksAt wr L M1 M2) (ho : wr.ownsRow B 3 1 v (up 1 (k - 1)).length (ints (up 1 (k - 1))))
    (hBK : B ≤ K) (hK : LockAt wr K 0 1 ws) (hws : wr.ownsRow B 3 1 ws (up 1 (k - 1)).length (ints (up 1 (k - 1)))) (i1 : IMap wr M1 1 (putf (fun _ => none) kk (.pointer (some ⟨K, 0, none⟩)))) (i2 : IMap wr M2 (k - 1) f2)
    (hf2 : ∀ z : Int, z < 1 ∨ (k : Int) ≤ z → f2 z = none) (hap : ∀ g, ws.ownBlock = some g → v.ownBlock ≠ some g)
    (hK1 : LockAt w1 K 0 1 ws') (ho1 : w1.ownsRow B 3 1 ws' ((ints (up 1 (k - 1))).length + 1) (ints (up 1 (k - 1)) ++ [.int .i64 k])) (hap1 : ws'.ownBlock = ws.ownBlock ∨ ∀ g, ws'.ownBlock = some g → wr.heap.size ≤ g)
    (hI1 : IMap w1 M2 (k - 1 + 1) (putf f2 k (.int .i64 kk))) (hk1 : KeptBut (fun b => b = M2 ∨ b = K ∨ ws.ownBlock = some b) wr w1) {o : Obj} {g cap : Nat}
    (ho2 : w2.ownsRow B 3 1 (.slice (some ⟨g, 0, none⟩) ((up 1 (k - 1)).length + 1) cap) ((up 1 (k - 1)).length + 1) (ints (up 1 (k - 1)) ++ [.int .i64 k])) (hg : (w1.alloc o).grownBy w2 v.ownBlock) (hat : v.ownBlock = some g ∨ g = w1.heap.size + 1) :
    Ph1 B w w2 L M1 M2 kk (k + 1) (.slice (some ⟨g, 0, none⟩) ((up 1 (k - 1)).length + 1) cap) := by
  obtain ⟨nLK, nL1, nL2, nK1, nK2⟩ := in1_apart (B := B) (kk := kk) hL hK i1 i2
  have hwsL : ws.ownBlock ≠ some L := own_apart hws hL (by simp)
  obtain ⟨o1, p1, q1⟩ := i1.block
  obtain ⟨o2, p2, q2⟩ := i2.block
  have hws1 : ws.ownBlock ≠ some M1 := own_apart hws p1 (fun cs fr => q1 cs _ fr)
  have hvL : v.ownBlock ≠ some L := own_apart ho hL (by simp)
  have hvK : v.ownBlock ≠ some K := own_apart ho hK (by simp)
  have hv1 : v.ownBlock ≠ some M1 := own_apart ho p1 (fun cs fr => q1 cs _ fr)
  have hv2 : v.ownBlock ≠ some M2 := own_apart ho p2 (fun cs fr => q2 cs _ fr)
  have hs1 := hk1.1
  have hs2 := hg.size
  simp at hs2
  have hLlt : L < wr.heap.size := (Array.getElem?_eq_some_iff.1 hL).1
  have hKlt : K < wr.heap.size := (Array.getElem?_eq_some_iff.1 hK).1
  have old : ∀ b, b < w1.heap.size → v.ownBlock ≠ some b → w2.heap[b]? = w1.heap[b]? := fun b hb hn => (hg.block b (by simp; omega) (fun e => hn e.symm)).trans (Below.heap_alloc _ _ _ hb)
  have e1 : up 1 (k + 1 - 1) = up 1 (k - 1) ++ [(k : Int)] := by
    obtain ⟨j, rfl⟩ : ∃ j, k = j + 1 := ⟨k - 1, by omega⟩
    rw [show j + 1 + 1 - 1 = j + 1 by omega, up_snoc, show j + 1 - 1 = j by omega]
    congr 2
    simp
    omega
  have e2 : (ints (up 1 (k - 1))).length = (up 1 (k - 1)).length := by simp [ints]
  have hbel1 : Below B wr w1 := hk1.below (fun b hb => by
    rcases hb with rfl | rfl | hb
    · exact h2
    · exact hBK
    · exact (hws.lt b hb).1) hB
  have hbel2 : Below B w1 w2 := ((Below.refl B w1).alloc (by omega) o).grown hg (by simp; omega) (fun j hj => (ho.lt j hj).1)
  have hdis : ∀ g', ws'.ownBlock = some g' → v.ownBlock ≠ some g' := by
    intro g' hg'
    rcases hap1 with h | h
    · exact hap g' (h ▸ hg')
    · have := h g' hg'
      intro e
      have := (ho.lt g' e).2
      omega
  have ho1' : w2.ownsRow B 3 1 ws' (up 1 (k + 1 - 1)).length (ints (up 1 (k + 1 - 1))) := by
    rw [e1, ← ints_snoc, List.length_append, ← e2]
    refine (ho1.alloc o).kept hg ?_
    cases hw : ws'.ownBlock with
    | none => exact Or.inl rfl
    | some g' => exact Or.inr (fun e => hdis g' hw e.symm)
  refine ⟨hb.trans (hbel1.trans hbel2), by omega, h1, h2, hne, ?_, ?_, Or.inr ⟨by omega, K, ws', putf f2 k (.int .i64 kk), hBK, ?_, ho1', ?_, ?_, ?_, ?_⟩⟩
  · exact (old L (by omega) hvL).trans ((hk1.2.2.2.2 L hLlt (fun h => by rcases h with h | h | h; exact nL2 h; exact nLK h; exact hwsL h)).trans hL)
  · rw [e1, ← ints_snoc, List.length_append]
    exact ho2
  · exact (old K (by omega) hvK).trans hK1
  · exact (i1.kept (hk1.2.2.2.2 M1 i1.lt (fun h => by rcases h with h | h | h; exact hne h; exact nK1 h.symm; exact hws1 h))).kept (old M1 (by have := i1.lt; omega) hv1)
  · exact (hI1.kept (old M2 hI1.lt hv2)).cong (by omega) (fun _ => rfl)
  · intro z hz
    rw [putf_other _ _ _ (by omega)]
    exact hf2 z (by omega)
  · intro g' hg' e
    simp only [Value.ownBlock, Option.some.injEq] at e
    rcases hat with h | h
    · exact hdis g' hg' (e ▸ h)
    · have := (ho1.lt g' hg').2
      omega

theorem ph1_end {B : Nat} {w wr : World} {L M1 M2 : Nat} {kk : Int} {many : Nat} {v : Value} (h : Ph1 B w wr L M1 M2 kk many v) (hm : 2 ≤ many) : Ph2 B w wr L M1 M2 kk many 0 v := by
  obtain ⟨hb, hB, h1, h2, hne, hL, ho, ⟨h0, _⟩ | ⟨_, K, ws, f2, hBK, hK, hws, i1, i2, hf2, _⟩⟩ := h
  · omega
  · refine ⟨hb, hB, h1, h2, hne, hL, many - 1, f2, i2, fun z hz => hf2 z (by omega), Or.inl ⟨by omega, K, ws, hBK, hK, i1, ?_, ?_⟩⟩
    · have := Rest.of_own hws
      simpa using this
    · have := Rest.of_own ho
      simpa using this

theorem Rest.below {w w' : World} {v : Value} {xs : List Int} (h : Rest w v xs) (hb : Below w.heap.size w w') : Rest w' v xs :=
  h.kept fun g cs hg => hb.block g (Array.getElem?_eq_some_iff.1 hg).1

theorem Ph2.below {B : Nat} {w wr w' : World} {L M1 M2 : Nat} {kk : Int} {many k : Nat} {v : Value} (h : Ph2 B w wr L M1 M2 kk many k v) (hb : Below wr.heap.size wr w') : Ph2 B w w' L M1 M2 kk many k v := by
  obtain ⟨hb0, hB, h1, h2, hne, hL, n, f2, i2, hf2, h⟩ := h
  refine ⟨hb0.trans (hb.mono hB), Nat.le_trans hB hb.size, h1, h2, hne, (hb.block L (Array.getElem?_eq_some_iff.1 hL).1).trans hL, n, f2, i2.below hb, hf2, ?_⟩
  rcases h with ⟨hk, K, ws, hBK, hK, i1, r1, r2⟩ | ⟨hk, f1, i1, hf1⟩
  · exact Or.inl ⟨hk, K, ws, hBK, (hb.block K (Array.getElem?_eq_some_iff.1 hK).1).trans hK, i1.below hb, r1.below hb, r2.below hb⟩
  · exact Or.inr ⟨hk, f1, i1.below hb, hf1⟩

theorem up_rest {many k : Nat} (h : k + 1 < many) : up ((k : Int) + 1) (many - 1 - k) = ((k : Int) + 1) :: up (((k + 1 : Nat) : Int) + 1) (many - 1 - (k + 1)) := by
  obtain ⟨j, hj⟩ : ∃ j, many - 1 - k = j + 1 := ⟨many - 2 - k, by omega⟩
  rw [hj, show many - 1 - (k + 1) = j by omega, up]
  simp

/-- the next one has the lock -/
theorem ph2_next {B : Nat} {w wr w' : World} {L M1 M2 K n : Nat} {kk : Int} {many k : Nat} {f2 : Int → Option Value} (hk : k + 1 < many)
    (hb0 : Below B w wr) (hB : B ≤ wr.heap.size) (h1 : B ≤ M1) (h2 : B ≤ M2) (hne : M1 ≠ M2) (hL : LocksAt wr L M1 M2) (i2 : IMap wr M2 n f2) (hf2 : ∀ z : Int, z ≤ k ∨ (many : Int) ≤ z → f2 z = none)
    (hBK : B ≤ K) {ws : Value} (hK : LockAt wr K k 1 ws) (i1 : IMap wr M1 1 (putf (fun _ => none) kk (.pointer (some ⟨K, 0, none⟩)))) {ws' v' : Value} (r1 : Rest wr ws' (up (((k + 1 : Nat) : Int) + 1) (many - 1 - (k + 1)))) (r2 : Rest wr v' (up (((k + 1 : Nat) : Int) + 1) (many - 1 - (k + 1))))
    (hK' : LockAt w' K ((k : Int) + 1) 1 ws') (i2' : IMap w' M2 n (delf f2 ((k : Int) + 1))) (hk' : KeptBut (fun b => b = M2 ∨ b = K) wr w') : Ph2 B w w' L M1 M2 kk many (k + 1) v' := by
  obtain ⟨nLK, nL1, nL2, nK1, nK2⟩ := in1_apart (B := B) (kk := kk) hL hK i1 i2
  have hr : ∀ (g : Nat) (cs : Array Value), wr.heap[g]? = some (Obj.cells cs 3 (0, 0)) → w'.heap[g]? = wr.heap[g]? := by
    intro g cs hg
    refine hk'.2.2.2.2 g (Array.getElem?_eq_some_iff.1 hg).1 (fun h => ?_)
    rcases h with rfl | rfl
    · obtain ⟨o2, p2, q2⟩ := i2.block
      rw [hg] at p2
      exact q2 _ _ _ (by simpa using p2.symm)
    · unfold LockAt at hK
      rw [hK] at hg
      simp at hg
  refine ⟨hb0.trans (hk'.below (fun b hb => by rcases hb with rfl | rfl <;> assumption) hB), Nat.le_trans hB hk'.1, h1, h2, hne, ?_, n, _, i2', ?_, Or.inl ⟨hk, K, ws', hBK, ?_, ?_, r1.kept hr, r2.kept hr⟩⟩
  · exact (hk'.2.2.2.2 L (Array.getElem?_eq_some_iff.1 hL).1 (fun h => by rcases h with h | h; exact nL2 h; exact nLK h)).trans hL
  · intro z hz
    by_cases e : z = (k : Int) + 1
    · rw [e, delf_same]
    · rw [delf_other _ _ e]
      exact hf2 z (by omega)
  · have : ((k + 1 : Nat) : Int) = (k : Int) + 1 := by omega
    rw [this]
    exact hK'
  · exact i1.kept (hk'.2.2.2.2 M1 i1.lt (fun h => by rcases h with h | h; exact hne h; exact nK1 h.symm))

/-- nobody has it -/
theorem ph2_last {B : Nat} {w wr w' : World} {L M1 M2 K n : Nat} {kk : Int} {many k : Nat} {f2 : Int → Option Value} {v : Value} (hk : k + 1 = many)
    (hb0 : Below B w wr) (hB : B ≤ wr.heap.size) (h1 : B ≤ M1) (h2 : B ≤ M2) (hne : M1 ≠ M2) (hL : LocksAt wr L M1 M2) (i2 : IMap wr M2 n f2) (hf2 : ∀ z : Int, z ≤ k ∨ (many : Int) ≤ z → f2 z = none)
    (hBK : B ≤ K) {ws : Value} (hK : LockAt wr K k 1 ws) (i1 : IMap wr M1 1 (putf (fun _ => none) kk (.pointer (some ⟨K, 0, none⟩))))
    (i1' : IMap w' M1 1 (delf (putf (fun _ => none) kk (.pointer (some ⟨K, 0, none⟩))) kk)) (hk' : KeptBut (fun b => b = M1 ∨ b = K) wr w') : Ph2 B w w' L M1 M2 kk many (k + 1) v := by
  obtain ⟨nLK, nL1, nL2, nK1, nK2⟩ := in1_apart (B := B) (kk := kk) hL hK i1 i2
  refine ⟨hb0.trans (hk'.below (fun b hb => by rcases hb with rfl | rfl <;> assumption) hB), Nat.le_trans hB hk'.1, h1, h2, hne, ?_, n, f2, ?_, fun z hz => hf2 z (by omega), Or.inr ⟨hk, _, i1', delf_same _ _⟩⟩
  · exact (hk'.2.2.2.2 L (Array.getElem?_eq_some_iff.1 hL).1 (fun h => by rcases h with h | h; exact nL1 h; exact nLK h)).trans hL
  · exact i2.kept (hk'.2.2.2.2 M2 i2.lt (fun h => by rcases h with h | h; exact hne h.symm; exact nK2 h.symm))

end Go.Proofs.YtnamnihdbemkhaaDoor
