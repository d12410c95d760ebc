/-
  Plain law (no program): heaps of things: what a value holds, what is wrong with a heap.
  Things and heaps in memory.
  Values in a row of the call's own.
  The walk of heap.Does: exact.
-/
import Derived.Test.YtfddgdbebhmcnaaGreatDoorPm
import Derived.RowKit
import Derived.Test.YtfddgdbebhmcnaaGreatDoorBase
import Derived.Test.YtfddgdbebhmcnaaGreatDoorKb
import Derived.Test.YtfddgdbebhmcnaaGreatDoorSa
namespace Go.Proofs.YtfddgdbebhmcnaaGreatDoor
set_option linter.unusedVariables false
set_option linter.unusedSimpArgs false
open Go.Lib Go.RowKit

structure ValR where
  kind : Int
  n : Int
structure ThingR where
  ty : Nm
  has : List ValR

open Classical in
/-- does one text of a kind fit another one -/
noncomputable def doesN (L : List ClassR) (s t : Nm) : Bool := if h : ∃ p : Kd × Kd, s = p.1.text ∧ t = p.2.text then doesK L h.choose.1 h.choose.2 else false
theorem doesN_text (L : List ClassR) (a b : Kd) : doesN L a.text b.text = doesK L a b := by
  have hex : ∃ p : Kd × Kd, a.text = p.1.text ∧ b.text = p.2.text := ⟨(a, b), rfl, rfl⟩
  unfold doesN
  rw [dif_pos hex]
  obtain ⟨h1, h2⟩ := hex.choose_spec
  rw [← text_inj h1, ← text_inj h2]

/-- the class in the type of a thing that is none's array -/
def clsOf (t : Nm) : Nm := (t.drop 1).dropLast
theorem clsOf_thing (n : Nm) : clsOf (Kd.ty 0 (.cls n)).text = n := by simp [clsOf, Kd.text, Bse.text]
/-- the types of what a thing has -/
noncomputable def typesH (L : List ClassR) (x : ThingR) : List Nm := if x.ty.head? = some 91 then List.replicate x.has.length x.ty.tail else (slotsF L (clsOf x.ty)).map (·.2.ty)

/-- does a value hold a type, in a heap with things of these types -/
noncomputable def valB (L : List ClassR) (tys : List Nm) (v : ValR) (t : Nm) : Bool :=
  if v.kind = 1 then t == [73] && decide (v.n = wrap32 v.n)
  else if v.kind = 2 then t == [74]
  else if v.kind = 3 then ((t.head? == some 76 || t.head? == some 91) && decide (0 ≤ v.n ∧ v.n ≤ tys.length)) && (decide (v.n = 0) || doesN L (tys.getD (v.n - 1).toNat []) t)
  else false

open Classical in
/-- what is wrong with a thing's form -/
noncomputable def formErr (L : List ClassR) (x : ThingR) : Int :=
  if ¬ TypeOk x.ty ∨ numB x.ty = true then 1
  else if kindErr L x.ty ≠ 0 then kindErr L x.ty
  else if x.ty.head? = some 76 ∧ (look L (clsOf x.ty)).elim false (·.face) = true then 7
  else if (x.ty.head? = some 91 ∧ 10 < x.has.length) ∨ (typesH L x).length ≠ x.has.length then 8
  else 0
noncomputable def frmErrs (L : List ClassR) (X : List ThingR) (j : Nat) : Int := (X[j]?).elim 0 (formErr L)
/-- does a thing hold what it should -/
noncomputable def thingB (L : List ClassR) (tys : List Nm) (x : ThingR) : Bool := (List.range (typesH L x).length).all fun i => valB L tys (x.has.getD i ⟨0, 0⟩) ((typesH L x).getD i [])
noncomputable def rightErr (L : List ClassR) (X : List ThingR) : Int :=
  if 50 < X.length then 4
  else if firstNZ (frmErrs L X) X.length ≠ 0 then firstNZ (frmErrs L X) X.length
  else if X.all (thingB L (X.map (·.ty))) = true then 0 else 7
/-- what is wrong with classes and a heap -/
noncomputable def hpErr (l : List ClassR) (X : List ThingR) : Int := if readErr l ≠ 0 then readErr l else rightErr (wl l) X

theorem right_zero {L : List ClassR} {X : List ThingR} : rightErr L X = 0 ↔ X.length ≤ 50 ∧ (∀ x ∈ X, formErr L x = 0) ∧ ∀ x ∈ X, thingB L (X.map (·.ty)) x = true := by
  unfold rightErr
  constructor
  · intro h
    split at h
    · omega
    split at h
    · rename_i h1 h2; exact absurd h h2
    rename_i h1 h2
    split at h
    · rename_i h3
      refine ⟨by omega, fun x hx => ?_, fun x hx => List.all_eq_true.1 h3 x hx⟩
      obtain ⟨j, hj⟩ := List.getElem?_of_mem hx
      have := (firstNZ_zero _ _).1 (Classical.not_not.1 h2) j (List.getElem?_eq_some_iff.1 hj).1
      unfold frmErrs at this
      rw [hj] at this
      exact this
    · omega
  · rintro ⟨h1, h2, h3⟩
    rw [if_neg (by omega), if_neg, if_pos (List.all_eq_true.2 h3)]
    intro h
    refine h ((firstNZ_zero _ _).2 fun j hj => ?_)
    unfold frmErrs
    rw [List.getElem?_eq_getElem hj]
    exact h2 _ (List.getElem_mem hj)
theorem hp_zero {l : List ClassR} {X : List ThingR} : hpErr l X = 0 ↔ Good l ∧ rightErr (wl l) X = 0 := by
  unfold hpErr
  constructor
  · intro h
    split at h
    · rename_i h1; exact absurd h h1
    · rename_i h1; exact ⟨(readErr_zero l).1 (Classical.not_not.1 h1), h⟩
  · rintro ⟨h1, h2⟩
    rw [if_neg (by rw [(readErr_zero l).2 h1]; simp), h2]

/-- the types of things that are in form -/
theorem form_kd {L : List ClassR} {x : ThingR} (h : formErr L x = 0) : ∃ d b, x.ty = (Kd.ty d b).text ∧ (Kd.ty d b).Ok L ∧ (Kd.ty d b).refs = true ∧ (typesH L x).length = x.has.length ∧ (x.ty.head? = some 91 → x.has.length ≤ 10) := by
  unfold formErr at h
  split at h
  · omega
  rename_i h1
  split at h
  · rename_i h2; exact absurd h h2
  rename_i h2
  split at h
  · omega
  split at h
  · omega
  rename_i h3 h4
  obtain ⟨k, hk, e⟩ := kind_zero.1 (Classical.not_not.1 h2)
  have hn : ¬ numB x.ty = true := fun e => h1 (Or.inr e)
  have hT : TypeOk x.ty := Classical.not_not.1 fun e => h1 (Or.inl e)
  obtain ⟨d, b, e2, _⟩ := type_kd.1 hT
  have := text_inj (e.symm.trans e2)
  subst this
  refine ⟨d, b, e, hk, ?_, by omega, fun hh => Nat.le_of_not_lt fun hlt => h4 (Or.inl ⟨hh, hlt⟩)⟩
  cases d with
  | succ d => rfl
  | zero =>
    cases b with
    | int => exact absurd (by rw [e]; rfl) hn
    | long => exact absurd (by rw [e]; rfl) hn
    | cls n => rfl
end Go.Proofs.YtfddgdbebhmcnaaGreatDoor
namespace Go.Proofs.YtfddgdbebhmcnaaGreatDoor
set_option linter.unusedVariables false
set_option linter.unusedSimpArgs false
open Go.RowKit Go.Shelf Go.Lib

abbrev HA := Option Addr × Nat
def vCells (v : ValR) : List Value := [.int .i64 v.kind, .int .i64 v.n]
def vV (v : ValR) : Value := .agg #[.int .i64 v.kind, .int .i64 v.n]
def thCells (x : ThingR) (p : HA) : List Value := [.string ⟨⟨x.ty⟩⟩, .slice p.1 x.has.length p.2]
def thV (x : ThingR) (p : HA) : Value := .agg #[.string ⟨⟨x.ty⟩⟩, .slice p.1 x.has.length p.2]
def HasAt (w : World) (l : List ValR) (p : HA) : Prop := RowsAt w 2 p.1 p.2 (l.map vCells)
theorem HasAt.below {w w' : World} {l : List ValR} {p : HA} (h : HasAt w l p) (hb : Below w.heap.size w w') : HasAt w' l p := RowsAt.below h hb
theorem HasAt.cells {w : World} {l : List ValR} {p : HA} (h : HasAt w l p) {k : Nat} {v : ValR} (hx : l[k]? = some v) : ∃ b off, p.1 = some ⟨b, off, none⟩ ∧ b < w.heap.size ∧ w.cell? ⟨b, off + k * 2, none⟩ = some (.int .i64 v.kind) ∧ w.cell? ⟨b, off + k * 2 + 1, none⟩ = some (.int .i64 v.n) := by
  obtain ⟨_, h2 | ⟨b, off, hp, hlt, hc⟩⟩ := h
  · have : l = [] := by simpa using h2
    subst this; simp at hx
  · have hh := hc k (vCells v) (by rw [List.getElem?_map, hx]; rfl)
    exact ⟨b, off, hp, hlt, hh 0 _ rfl, hh 1 _ rfl⟩
/-- a slice of things -/
def ThingsAt (w : World) (a : Option Addr) (cap : Nat) (X : List ThingR) (ps : List HA) : Prop :=
  ps.length = X.length ∧ RowsAt w 2 a cap (List.zipWith thCells X ps) ∧ ∀ (k : Nat) (x : ThingR) (p : HA), X[k]? = some x → ps[k]? = some p → HasAt w x.has p
theorem ThingsAt.below {w w' : World} {a : Option Addr} {cap : Nat} {X : List ThingR} {ps : List HA} (h : ThingsAt w a cap X ps) (hb : Below w.heap.size w w') : ThingsAt w' a cap X ps :=
  ⟨h.1, h.2.1.below hb, fun k m p hm hp => (h.2.2 k m p hm hp).below hb⟩
theorem ThingsAt.cells {w : World} {a : Option Addr} {cap : Nat} {X : List ThingR} {ps : List HA} (h : ThingsAt w a cap X ps) {k : Nat} {x : ThingR} (hx : X[k]? = some x) : ∃ (b : Nat) (off : Nat) (p : HA), a = some ⟨b, off, none⟩ ∧ b < w.heap.size ∧ ps[k]? = some p ∧ HasAt w x.has p ∧
    w.cell? ⟨b, off + k * 2, none⟩ = some (.string ⟨⟨x.ty⟩⟩) ∧ w.cell? ⟨b, off + k * 2 + 1, none⟩ = some (.slice p.1 x.has.length p.2) := by
  obtain ⟨hl, hr, hm⟩ := h
  obtain ⟨hk, hx'⟩ := List.getElem?_eq_some_iff.1 hx
  have hkp : k < ps.length := by omega
  obtain ⟨p, hp⟩ : ∃ p, ps[k]? = some p := ⟨_, List.getElem?_eq_getElem hkp⟩
  have hz : (List.zipWith thCells X ps)[k]? = some (thCells x p) := by
    rw [List.getElem?_zipWith, hx, hp]
  obtain ⟨_, h2 | ⟨b, off, rfl, hlt, hc⟩⟩ := hr
  · rw [h2] at hz; simp at hz
  · have hh := hc k _ hz
    exact ⟨b, off, p, rfl, hlt, hp, hm k x p hx hp, hh 0 _ rfl, hh 1 _ rfl⟩
/-- bounds -/
def ThB (x : ThingR) : Prop := x.ty.length ≤ 8388608 ∧ x.has.length ≤ 8388608 ∧ ∀ v ∈ x.has, (-9223372036854775808 ≤ v.kind ∧ v.kind ≤ 9223372036854775807) ∧ -9223372036854775808 ≤ v.n ∧ v.n ≤ 9223372036854775807
def HpB (X : List ThingR) : Prop := X.length ≤ 8388608 ∧ ∀ x ∈ X, ThB x

/-- a text that is a type's, with short names -/
def DT (t : Nm) : Prop := ∃ d b, t = (Kd.ty d b).text ∧ d ≤ 3 ∧ b.cl.length ≤ 20
theorem dt_ok {t : Nm} (h : TypeOk t) : DT t := by
  obtain ⟨d, b, e, hd, hn⟩ := type_kd.1 h
  refine ⟨d, b, e, hd, ?_⟩
  cases b with
  | int => simp [Bse.cl]
  | long => simp [Bse.cl]
  | cls n => exact (name_len (hn n rfl)).2
theorem dt_len {t : Nm} (h : DT t) : t.length ≤ 25 := by
  obtain ⟨d, b, rfl, hd, hb⟩ := h
  cases b with
  | int => simp [Kd.text, Bse.text]; omega
  | long => simp [Kd.text, Bse.text]; omega
  | cls n => simp [Bse.cl] at hb; simp [Kd.text, Bse.text]; omega
end Go.Proofs.YtfddgdbebhmcnaaGreatDoor
namespace Go.Proofs.YtfddgdbebhmcnaaGreatDoor
set_option linter.unusedVariables false
set_option linter.unusedSimpArgs false
open Go.RowKit Go.Shelf Go.Lib

/-- values in a row of the call's own -/
def valsL (l : List ValR) : List Value := (l.map vCells).flatten
theorem vCells_one (v : ValR) : ∀ u ∈ vCells v, u.oneCell' = true := by
  intro u hu
  simp only [vCells, List.mem_cons, List.mem_nil_iff, or_false] at hu
  rcases hu with rfl | rfl <;> rfl
theorem valsL_len (l : List ValR) : (valsL l).length = l.length * 2 := by
  unfold valsL
  induction l with
  | nil => rfl
  | cons x r ih => simp only [List.map_cons, List.flatten_cons, List.length_append, ih, List.length_cons]; simp [vCells]; omega
theorem valsL_one (l : List ValR) : ∀ u ∈ valsL l, u.oneCell' = true := by
  intro u hu
  unfold valsL at hu
  obtain ⟨c, hc, hu⟩ := List.mem_flatten.1 hu
  obtain ⟨v, _, rfl⟩ := List.mem_map.1 hc
  exact vCells_one v u hu
def OwnV (w : World) (B : Nat) (l : List ValR) (q : HA) : Prop := w.ownsRow B 42 2 (.slice q.1 l.length q.2) l.length (valsL l)
theorem OwnV.at {w : World} {B : Nat} {l : List ValR} {q : HA} (h : OwnV w B l q) : HasAt w l q := by
  have h' : w.ownsRow B 42 2 (.slice q.1 l.length q.2) (l.map vCells).length (l.map vCells).flatten := by rw [List.length_map]; exact h
  obtain ⟨a, cap, h1, h2⟩ := rows_of_own h' (by intro c hc; obtain ⟨x, _, rfl⟩ := List.mem_map.1 hc; rfl)
  simp only [Value.slice.injEq] at h1
  obtain ⟨rfl, _, rfl⟩ := h1
  exact h2
theorem own_keep {w w' : World} {B : Nat} {e : TypeId} {size : Nat} {v : Value} {n : Nat} {xs : List Value} (h : w.ownsRow B e size v n xs) (hk : ∀ g, v.ownBlock = some g → w'.heap[g]? = w.heap[g]?) : w'.ownsRow B e size v n xs := by
  refine ⟨h.1, ?_⟩
  rcases h.2 with h1 | ⟨g, cap, cur, hv, hB, hg, h3⟩
  · exact Or.inl h1
  · exact Or.inr ⟨g, cap, cur, hv, hB, (hk g (by rw [hv]; rfl)).trans hg, h3⟩
/-- values' rows and another type's row are apart -/
theorem own_apart {w : World} {B B' : Nat} {e e' : TypeId} {size size' : Nat} {v v' : Value} {n n' : Nat} {xs xs' : List Value} (h : w.ownsRow B e size v n xs) (h' : w.ownsRow B' e' size' v' n' xs') (hne : e ≠ e') {g : Nat} (hg : v.ownBlock = some g) : v'.ownBlock ≠ some g := by
  intro hg'
  rcases h.2 with ⟨rfl, _⟩ | ⟨k, _, _, rfl, _, hk, _⟩
  · cases hg
  rcases h'.2 with ⟨rfl, _⟩ | ⟨k', _, _, rfl, _, hk', _⟩
  · cases hg'
  simp only [Value.ownBlock, Option.some.injEq] at hg hg'
  subst hg hg'
  rw [hk] at hk'
  simp only [Option.some.injEq, Obj.cells.injEq] at hk'
  exact hne hk'.2.1

theorem rowVal : RowT Tryz.prog 71 42 2 16 := RowT.mk' (z := .agg #[.int .i64 0, .int .i64 0]) Tryz.underlying71 (by kernel_rfl) rfl (by decide)
theorem rowThing : RowT Tryz.prog 88 133 2 40 := RowT.mk' (z := .agg #[.string ByteArray.empty, .slice none 0 0]) Tryz.underlying88 (by kernel_rfl) rfl (by decide)
theorem made_zero : ∀ n, n ≤ 10 → (madeCells (Value.agg #[.int .i64 0, .int .i64 0]).cells (n * 2)).toList = valsL (List.replicate n ⟨0, 0⟩)
  | 0, _ => by kernel_rfl
  | 1, _ => by kernel_rfl
  | 2, _ => by kernel_rfl
  | 3, _ => by kernel_rfl
  | 4, _ => by kernel_rfl
  | 5, _ => by kernel_rfl
  | 6, _ => by kernel_rfl
  | 7, _ => by kernel_rfl
  | 8, _ => by kernel_rfl
  | 9, _ => by kernel_rfl
  | 10, _ => by kernel_rfl
  | n + 11, h => by omega
theorem info_val : (Tryz.prog.info? 42).map (fun i => (i.zero, i.size, i.bytes)) = some (some (.agg #[.int .i64 0, .int .i64 0]), 2, 16) := by kernel_rfl
theorem made_vals (n : Nat) (hn : n ≤ 10) : ∃ F : World → World, ∀ W, (Instr.makeSlice 71 (.int .i64 n) (.int .i64 n)).run Tryz.prog W = .ok (.slice (some ⟨W.heap.size, 0, none⟩) n n) (F W) ∧
    Blk (F W) W.heap.size 42 (valsL (List.replicate n ⟨0, 0⟩)).toArray ∧ W.grownBy (F W) none := by
  have h : ∀ W : World, ∃ W', (Instr.makeSlice 71 (.int .i64 n) (.int .i64 n)).run Tryz.prog W = .ok (.slice (some ⟨W.heap.size, 0, none⟩) n n) W' ∧
    Blk W' W.heap.size 42 (valsL (List.replicate n ⟨0, 0⟩)).toArray ∧ W.grownBy W' none := by
    intro W
    cases hh : Tryz.prog.info? 42 with
    | none => have := info_val; rw [hh] at this; cases this
    | some i =>
      have hi := info_val
      rw [hh] at hi
      simp only [Option.map_some, Option.some.injEq, Prod.mk.injEq] at hi
      obtain ⟨w', h1, h2, h3⟩ := run_make_full (P := Tryz.prog) W W.heap.size 71 42 i _ 2 Tryz.underlying71 hh hi.1 hi.2.1 .i64 .i64 n (by rw [hi.2.2]; omega) (by unfold maxLen; omega) (Nat.le_refl _)
      refine ⟨w', h1, ?_, h3⟩
      rcases h2.2 with ⟨hv, _⟩ | ⟨g, cap, cur, hv, _, hgg, hle, _, hsz, htk⟩
      · cases hv
      · simp only [Value.slice.injEq, Option.some.injEq, Addr.mk.injEq, and_true, true_and] at hv
        obtain ⟨rfl, rfl⟩ := hv
        rw [List.take_of_length_le (by simp; omega), made_zero n hn] at htk
        unfold Blk
        rw [hgg, ← htk]
  exact ⟨fun W => (h W).choose, fun W => (h W).choose_spec⟩
end Go.Proofs.YtfddgdbebhmcnaaGreatDoor
namespace Go.Proofs.YtfddgdbebhmcnaaGreatDoor
set_option linter.unusedVariables false
set_option linter.unusedSimpArgs false
open Go.RowKit Go.Shelf Go.Lib

theorem hword_calls (a : Int) (w : World) : Calls Tryz.prog 55 #[.int .i64 a] w fun e w' => e = .returned (.int .i64 (wrap32 a)) ∧ w = w' := by
  go_enter Tryz.func55, Tryz.ntmps55
  go_wp2_with fail
  go_ret
  exact ⟨by simp [wrap32]; unfold wrap64; omega, rfl⟩

/-- sub.Does of a right kind and a text that is a type's -/
theorem does_dt (l : List ClassR) (L : List CP) (m : Nat) {d : Nat} {b : Bse} (hd : d ≤ 3) (hb : b.cl.length ≤ 20) {t : Nm} (ht : DT t) (w : World) (hW : WOk w m l L) : DoesAt m (Kd.ty d b).text t (doesN (wl l) (Kd.ty d b).text t) w := by
  obtain ⟨d', b', rfl, hd', hb'⟩ := ht
  rw [doesN_text]
  exact does_ty l L m hb hb' d d' hd hd' w hW
theorem refs_head (t : Nm) : refsB t = (t.head? == some 76 || t.head? == some 91) := by
  cases t with
  | nil => rfl
  | cons c r => unfold refsB; simp

def HDoesAt (b : Nat) (a : Option Addr) (n cap : Nat) (v : ValR) (t : Nm) (r : Bool) (w : World) : Prop := Calls Tryz.prog 32 #[.map (some b), .agg #[.slice a n cap], .agg #[.int .i64 v.kind, .int .i64 v.n], .string ⟨⟨t⟩⟩] w fun e w' => e = .returned (.bool r) ∧ Below w.heap.size w w'

set_option maxRecDepth 100000 in
set_option maxHeartbeats 2000000 in
theorem hdoes_int (b : Nat) (a : Option Addr) (n cap : Nat) (z : Int) (t : Nm) (w : World) : HDoesAt b a n cap ⟨1, z⟩ t (t == [73] && decide (z = wrap32 z)) w := by
  have HW := Lib.hid (hword_calls z)
  have HB2 := Lib.hid (fun o1 o2 => bl_alloc (bl_alloc (Below.refl w.heap.size w) o1) o2)
  unfold HDoesAt
  by_cases h : t = [73]
  · subst h
    go_enter Tryz.func32, Tryz.ntmps32
    go_wp2_with fail
    go_quiet (exact (HW.out _).mono (fun e w1 h => by obtain ⟨rfl, rfl⟩ := h; exact ⟨rfl, _, rfl⟩))
    go_wp2_with fail
    go_ret
    exact ⟨ret_bool (by simp; rw [Bool.eq_iff_iff]; simp), below_dn (HB2.out _ _) _⟩
  · have h73 : (t == [73]) = false := by rw [beq_eq_false_iff_ne]; exact h
    clear h
    go_enter Tryz.func32, Tryz.ntmps32
    go_wp2_with fail
    go_quiet (fail)
    go_wp2_with fail
    go_ret
    exact ⟨ret_bool (by simp [h73]), below_dn (HB2.out _ _) _⟩

set_option maxRecDepth 100000 in
set_option maxHeartbeats 2000000 in
theorem hdoes_long (b : Nat) (a : Option Addr) (n cap : Nat) (z : Int) (t : Nm) (w : World) : HDoesAt b a n cap ⟨2, z⟩ t (t == [74]) w := by
  have HB2 := Lib.hid (fun o1 o2 => bl_alloc (bl_alloc (Below.refl w.heap.size w) o1) o2)
  unfold HDoesAt
  go_enter Tryz.func32, Tryz.ntmps32
  go_wp2_with fail
  go_ret
  exact ⟨rfl, HB2.out _ _⟩

set_option maxRecDepth 100000 in
set_option maxHeartbeats 2000000 in
theorem hdoes_none (b : Nat) (a : Option Addr) (n cap : Nat) (k z : Int) (t : Nm) (w : World) (h1 : k ≠ 1) (h2 : k ≠ 2) (h3 : k ≠ 3) : HDoesAt b a n cap ⟨k, z⟩ t false w := by
  have HB2 := Lib.hid (fun o1 o2 => bl_alloc (bl_alloc (Below.refl w.heap.size w) o1) o2)
  have q1 : (k == 1) = false := by rw [beq_eq_false_iff_ne]; exact h1
  have q2 : (k == 2) = false := by rw [beq_eq_false_iff_ne]; exact h2
  have q3 : (k == 3) = false := by rw [beq_eq_false_iff_ne]; exact h3
  clear h1 h2 h3
  unfold HDoesAt
  go_enter Tryz.func32, Tryz.ntmps32
  go_wp2_with fail
  go_ret
  exact ⟨rfl, HB2.out _ _⟩

set_option maxRecDepth 100000 in
set_option maxHeartbeats 4000000 in
theorem hdoes_ref (l : List ClassR) (L : List CP) (b : Nat) (X : List ThingR) (ps : List HA) (a : Option Addr) (cap : Nat) (z : Int) (t : Nm) (w : World) (hW : WOk w b l L) (hT : ThingsAt w a cap X ps) (hf : ∀ x ∈ X, formErr (wl l) x = 0) (ht : DT t) (hX : X.length ≤ 50) :
    HDoesAt b a X.length cap ⟨3, z⟩ t (valB (wl l) (X.map (·.ty)) ⟨3, z⟩ t) w := by
  have HB2 := Lib.hid (fun o1 o2 => bl_alloc (bl_alloc (Below.refl w.heap.size w) o1) o2)
  have HRF := Lib.hid (refs_calls t)
  have HV := Lib.hid (show valB (wl l) (X.map (·.ty)) ⟨3, z⟩ t = ((refsB t && decide (0 ≤ z ∧ z ≤ X.length)) && (decide (z = 0) || doesN (wl l) ((X.map (·.ty)).getD (z - 1).toNat []) t)) by
    unfold valB
    rw [refs_head]
    simp)
  unfold HDoesAt
  cases hr : refsB t with
  | false =>
    rw [hr] at HRF HV
    clear hW hT hf ht hr
    go_enter Tryz.func32, Tryz.ntmps32
    go_wp2_with fail
    refine (HRF.out _).mono ?_
    rintro e w1 ⟨rfl, rfl⟩
    go_wp2_with fail
    go_ret
    exact ⟨ret_bool (by rw [HV.out]; simp), HB2.out _ _⟩
  | true =>
    rw [hr] at HRF HV
    by_cases h0 : z < 0
    · clear hW hT hf ht hr
      go_enter Tryz.func32, Tryz.ntmps32
      go_wp2_with fail
      refine (HRF.out _).mono ?_
      rintro e w1 ⟨rfl, rfl⟩
      go_wp2_with fail
      go_ret
      exact ⟨ret_bool (by rw [HV.out]; simp; omega), HB2.out _ _⟩
    by_cases hn : (X.length : Int) < z
    · clear hW hT hf ht hr
      go_enter Tryz.func32, Tryz.ntmps32
      go_wp2_with fail
      refine (HRF.out _).mono ?_
      rintro e w1 ⟨rfl, rfl⟩
      go_wp2_with fail
      go_ret
      exact ⟨ret_bool (by rw [HV.out]; simp; omega), HB2.out _ _⟩
    by_cases hz : z = 0
    · subst hz
      clear hW hT hf ht hr
      go_enter Tryz.func32, Tryz.ntmps32
      go_wp2_with fail
      refine (HRF.out _).mono ?_
      rintro e w1 ⟨rfl, rfl⟩
      go_wp2_with fail
      go_ret
      exact ⟨ret_bool (by rw [HV.out]; simp), HB2.out _ _⟩
    · obtain ⟨k, rfl⟩ : ∃ k : Nat, z = k + 1 := ⟨(z - 1).toNat, by omega⟩
      have hk : k < X.length := by omega
      obtain ⟨x, hx⟩ : ∃ x, X[k]? = some x := ⟨_, List.getElem?_eq_getElem hk⟩
      obtain ⟨b2, off, p, rfl, hlt, _, _, c0, c1⟩ := hT.cells hx
      obtain ⟨d, bs, he, hok, _⟩ := form_kd (hf x (List.mem_of_getElem? hx))
      have HD := Lib.hid (fun w' (hw : Below w.heap.size w w') => show Calls Tryz.prog 66 #[.map (some b), .string ⟨⟨x.ty⟩⟩, .string ⟨⟨t⟩⟩] w' fun e w'' => e = .returned (.bool (doesN (wl l) x.ty t)) ∧ Below w'.heap.size w' w'' by
        have := does_dt l L b hok.1 (cl_len hok.2) ht w' (hW.below hw)
        rw [← he] at this
        exact this)
      have HV2 := Lib.hid (show valB (wl l) (X.map (·.ty)) ⟨3, (k : Int) + 1⟩ t = doesN (wl l) x.ty t by
        rw [HV.out]
        have e1 : ((k : Int) + 1 - 1).toNat = k := by omega
        have e2 : (X.map (·.ty)).getD k [] = x.ty := by simp [List.getD, hx]
        rw [e1, e2]
        have e3 : decide ((0 : Int) ≤ k + 1 ∧ (k : Int) + 1 ≤ X.length) = true := decide_eq_true (by omega)
        have e4 : decide ((k : Int) + 1 = 0) = false := decide_eq_false (by omega)
        rw [e3, e4]
        rfl)
      rw [HV2.out]
      have q0 : ((k : Int) + 1 == 0) = false := by rw [beq_eq_false_iff_ne]; exact hz
      generalize doesN (wl l) x.ty t = r at *
      clear hW hT hf ht hr hx he hok HV HV2
      go_enter Tryz.func32, Tryz.ntmps32
      go_wp2_with fail
      refine (HRF.out _).mono ?_
      rintro e w1 ⟨rfl, rfl⟩
      go_wp2_with fail
      refine (HD.out _ (HB2.out _ _)).mono ?_
      rintro e w2 ⟨rfl, hb2⟩
      have HB4 := Lib.hid (bl_trans (HB2.out _ _) hb2)
      clear hb2
      go_wp2_with fail
      go_ret
      exact ⟨ret_bool (by simp), HB4.out⟩

/-- heap.Does, whatever the value -/
theorem hdoes_calls (l : List ClassR) (L : List CP) (b : Nat) (X : List ThingR) (ps : List HA) (a : Option Addr) (cap : Nat) (v : ValR) (t : Nm) (w : World) (hW : WOk w b l L) (hT : ThingsAt w a cap X ps) (hf : ∀ x ∈ X, formErr (wl l) x = 0) (ht : DT t) (hX : X.length ≤ 50) :
    HDoesAt b a X.length cap v t (valB (wl l) (X.map (·.ty)) v t) w := by
  obtain ⟨k, z⟩ := v
  by_cases h1 : k = 1
  · subst h1
    exact hdoes_int b a X.length cap z t w
  by_cases h2 : k = 2
  · subst h2
    exact hdoes_long b a X.length cap z t w
  by_cases h3 : k = 3
  · subst h3
    exact hdoes_ref l L b X ps a cap z t w hW hT hf ht hX
  · have : valB (wl l) (X.map (·.ty)) ⟨k, z⟩ t = false := by unfold valB; rw [if_neg h1, if_neg h2, if_neg h3]
    rw [this]
    exact hdoes_none b a X.length cap k z t w h1 h2 h3
end Go.Proofs.YtfddgdbebhmcnaaGreatDoor
