import Derived.Test.YtfimajijegohmaaGreatDoorSa
namespace Go.Proofs.YtfimajijegohmaaGreatDoor
set_option maxRecDepth 100000
set_option maxHeartbeats 8000000
set_option linter.unusedVariables false
set_option linter.unusedSimpArgs false
open Go.Lib Go.RowKit
structure ValR where
 kind : Int
 n : Int
structure ThingR where
 ty : Nm
 has : List ValR
open Classical in
noncomputable def doesN (L : List ClassR) (s t : Nm) : Bool := if h : ∃ p : Kd × Kd, s = p.1.text ∧ t = p.2.text then doesK L h.choose.1 h.choose.2 else false
def clsOf (t : Nm) : Nm := (t.drop 1).dropLast
noncomputable def typesH (L : List ClassR) (x : ThingR) : List Nm := if x.ty.head? = some 91 then List.replicate x.has.length x.ty.tail else (slotsF L (clsOf x.ty)).map (·.2.ty)
noncomputable def valB (L : List ClassR) (tys : List Nm) (v : ValR) (t : Nm) : Bool :=
 if v.kind = 1 then t == [73] && decide (v.n = wrap32 v.n)
 else if v.kind = 2 then t == [74]
 else if v.kind = 3 then ((t.head? == some 76 || t.head? == some 91) && decide (0 ≤ v.n ∧ v.n ≤ tys.length)) && (decide (v.n = 0) || doesN L (tys.getD (v.n - 1).toNat []) t)
 else false
open Classical in
noncomputable def formErr (L : List ClassR) (x : ThingR) : Int :=
 if ¬ TypeOk x.ty ∨ numB x.ty = true then 1
 else if kindErr L x.ty ≠ 0 then kindErr L x.ty
 else if x.ty.head? = some 76 ∧ (look L (clsOf x.ty)).elim false (·.face) = true then 7
 else if (x.ty.head? = some 91 ∧ 10 < x.has.length) ∨ (typesH L x).length ≠ x.has.length then 8
 else 0
noncomputable def frmErrs (L : List ClassR) (X : List ThingR) (j : Nat) : Int := (X[j]?).elim 0 (formErr L)
noncomputable def thingB (L : List ClassR) (tys : List Nm) (x : ThingR) : Bool := (List.range (typesH L x).length).all fun i => valB L tys (x.has.getD i ⟨0, 0⟩) ((typesH L x).getD i [])
noncomputable def rightErr (L : List ClassR) (X : List ThingR) : Int :=
 if 50 < X.length then 4
 else if firstNZ (frmErrs L X) X.length ≠ 0 then firstNZ (frmErrs L X) X.length
 else if X.all (thingB L (X.map (·.ty))) = true then 0 else 7
noncomputable def hpErr (l : List ClassR) (X : List ThingR) : Int := if readErr l ≠ 0 then readErr l else rightErr (wl l) X
open Go.Shelf
abbrev HA := Option Addr × Nat
def vCells (v : ValR) : List Value := [.int .i64 v.kind, .int .i64 v.n]
def vV (v : ValR) : Value := .agg #[.int .i64 v.kind, .int .i64 v.n]
def thCells (x : ThingR) (p : HA) : List Value := [.string ⟨⟨x.ty⟩⟩, .slice p.1 x.has.length p.2]
def thV (x : ThingR) (p : HA) : Value := .agg #[.string ⟨⟨x.ty⟩⟩, .slice p.1 x.has.length p.2]
def HasAt (w : World) (l : List ValR) (p : HA) : Prop := RowsAt w 2 p.1 p.2 (l.map vCells)
theorem HasAt.below {w w' : World} {l : List ValR} {p : HA} (h : HasAt w l p) (hb : Below w.heap.size w w') : HasAt w' l p := RowsAt.below h hb
theorem HasAt.cells {w : World} {l : List ValR} {p : HA} (h : HasAt w l p) {k : Nat} {v : ValR} (hx : l[k]? = some v) : ∃ b off, p.1 = some ⟨b, off, none⟩ ∧ b < w.heap.size ∧ w.cell? ⟨b, off + k * 2, none⟩ = some (.int .i64 v.kind) ∧ w.cell? ⟨b, off + k * 2 + 1, none⟩ = some (.int .i64 v.n) := by
 obtain ⟨_, h2 | ⟨b, off, hp, hlt, hc⟩⟩ := h
 · have : l = [] := by simpa using h2
   subst this; simp at hx
 · have hh := hc k (vCells v) (by rw [List.getElem?_map, hx]; rfl)
   exact ⟨b, off, hp, hlt, hh 0 _ rfl, hh 1 _ rfl⟩
def ThingsAt (w : World) (a : Option Addr) (cap : Nat) (X : List ThingR) (ps : List HA) : Prop :=
 ps.length = X.length ∧ RowsAt w 2 a cap (List.zipWith thCells X ps) ∧ ∀ (k : Nat) (x : ThingR) (p : HA), X[k]? = some x → ps[k]? = some p → HasAt w x.has p
theorem ThingsAt.below {w w' : World} {a : Option Addr} {cap : Nat} {X : List ThingR} {ps : List HA} (h : ThingsAt w a cap X ps) (hb : Below w.heap.size w w') : ThingsAt w' a cap X ps :=
 ⟨h.1, h.2.1.below hb, fun k m p hm hp => (h.2.2 k m p hm hp).below hb⟩
theorem ThingsAt.cells {w : World} {a : Option Addr} {cap : Nat} {X : List ThingR} {ps : List HA} (h : ThingsAt w a cap X ps) {k : Nat} {x : ThingR} (hx : X[k]? = some x) : ∃ (b : Nat) (off : Nat) (p : HA), a = some ⟨b, off, none⟩ ∧ b < w.heap.size ∧ ps[k]? = some p ∧ HasAt w x.has p ∧
   w.cell? ⟨b, off + k * 2, none⟩ = some (.string ⟨⟨x.ty⟩⟩) ∧ w.cell? ⟨b, off + k * 2 + 1, none⟩ = some (.slice p.1 x.has.length p.2) := by
 obtain ⟨hl, hr, hm⟩ := h
 obtain ⟨hk, hx'⟩ := List.getElem?_eq_some_iff.1 hx
 have hkp : k < ps.length := by omega
 obtain ⟨p, hp⟩ : ∃ p, ps[k]? = some p := ⟨_, List.getElem?_eq_getElem hkp⟩
 have hz : (List.zipWith thCells X ps)[k]? = some (thCells x p) := by
   rw [List.getElem?_zipWith, hx, hp]
 obtain ⟨_, h2 | ⟨b, off, rfl, hlt, hc⟩⟩ := hr
 · rw [h2] at hz; simp at hz
 · have hh := hc k _ hz
   exact ⟨b, off, p, rfl, hlt, hp, hm k x p hx hp, hh 0 _ rfl, hh 1 _ rfl⟩
def ThB (x : ThingR) : Prop := x.ty.length ≤ 8388608 ∧ x.has.length ≤ 8388608 ∧ ∀ v ∈ x.has, (-9223372036854775808 ≤ v.kind ∧ v.kind ≤ 9223372036854775807) ∧ -9223372036854775808 ≤ v.n ∧ v.n ≤ 9223372036854775807
def HpB (X : List ThingR) : Prop := X.length ≤ 8388608 ∧ ∀ x ∈ X, ThB x
def DT (t : Nm) : Prop := ∃ d b, t = (Kd.ty d b).text ∧ d ≤ 3 ∧ b.cl.length ≤ 20
def valsL (l : List ValR) : List Value := (l.map vCells).flatten
theorem vCells_one (v : ValR) : ∀ u ∈ vCells v, u.oneCell' = true := by
 intro u hu
 simp only [vCells, List.mem_cons, List.mem_nil_iff, or_false] at hu
 rcases hu with rfl | rfl <;> rfl
theorem valsL_len (l : List ValR) : (valsL l).length = l.length * 2 := by
 unfold valsL
 induction l with
 | nil => rfl
 | cons x r ih => simp only [List.map_cons, List.flatten_cons, List.length_append, ih, List.length_cons]; simp [vCells]; omega
theorem valsL_one (l : List ValR) : ∀ u ∈ valsL l, u.oneCell' = true := by
 intro u hu
 unfold valsL at hu
 obtain ⟨c, hc, hu⟩ := List.mem_flatten.1 hu
 obtain ⟨v, _, rfl⟩ := List.mem_map.1 hc
 exact vCells_one v u hu
def OwnV (w : World) (B : Nat) (l : List ValR) (q : HA) : Prop := w.ownsRow B 42 2 (.slice q.1 l.length q.2) l.length (valsL l)
theorem OwnV.at {w : World} {B : Nat} {l : List ValR} {q : HA} (h : OwnV w B l q) : HasAt w l q := by
 have h' : w.ownsRow B 42 2 (.slice q.1 l.length q.2) (l.map vCells).length (l.map vCells).flatten := by rw [List.length_map]; exact h
 obtain ⟨a, cap, h1, h2⟩ := rows_of_own h' (by intro c hc; obtain ⟨x, _, rfl⟩ := List.mem_map.1 hc; rfl)
 simp only [Value.slice.injEq] at h1
 obtain ⟨rfl, _, rfl⟩ := h1
 exact h2
theorem own_keep {w w' : World} {B : Nat} {e : TypeId} {size : Nat} {v : Value} {n : Nat} {xs : List Value} (h : w.ownsRow B e size v n xs) (hk : ∀ g, v.ownBlock = some g → w'.heap[g]? = w.heap[g]?) : w'.ownsRow B e size v n xs := by
 refine ⟨h.1, ?_⟩
 rcases h.2 with h1 | ⟨g, cap, cur, hv, hB, hg, h3⟩
 · exact Or.inl h1
 · exact Or.inr ⟨g, cap, cur, hv, hB, (hk g (by rw [hv]; rfl)).trans hg, h3⟩
theorem own_apart {w : World} {B B' : Nat} {e e' : TypeId} {size size' : Nat} {v v' : Value} {n n' : Nat} {xs xs' : List Value} (h : w.ownsRow B e size v n xs) (h' : w.ownsRow B' e' size' v' n' xs') (hne : e ≠ e') {g : Nat} (hg : v.ownBlock = some g) : v'.ownBlock ≠ some g := by
 intro hg'
 rcases h.2 with ⟨rfl, _⟩ | ⟨k, _, _, rfl, _, hk, _⟩
 · cases hg
 rcases h'.2 with ⟨rfl, _⟩ | ⟨k', _, _, rfl, _, hk', _⟩
 · cases hg'
 simp only [Value.ownBlock, Option.some.injEq] at hg hg'
 subst hg hg'
 rw [hk] at hk'
 simp only [Option.some.injEq, Obj.cells.injEq] at hk'
 exact hne hk'.2.1
theorem rowVal : RowT Tryz.prog 87 42 2 16 := RowT.mk' (z := .agg #[.int .i64 0, .int .i64 0]) Tryz.underlying87 (by kernel_rfl) rfl (by decide)
theorem rowThing : RowT Tryz.prog 98 149 2 40 := RowT.mk' (z := .agg #[.string ByteArray.empty, .slice none 0 0]) Tryz.underlying98 (by kernel_rfl) rfl (by decide)
theorem vals_zero : ∀ n, valsL (List.replicate n ⟨0, 0⟩) = List.replicate (n * 2) (.int .i64 0)
 | 0 => rfl
 | n + 1 => by
   have e : (n + 1) * 2 = n * 2 + 1 + 1 := by omega
   have h := vals_zero n
   unfold valsL at h ⊢
   rw [e, List.replicate_succ, List.replicate_succ, List.replicate_succ, List.map_cons, List.flatten_cons, h]
   rfl
theorem made_zero (n : Nat) : (madeCells (Value.agg #[.int .i64 0, .int .i64 0]).cells (n * 2)).toList = valsL (List.replicate n ⟨0, 0⟩) := by
 have hz : (Value.agg #[.int .i64 0, .int .i64 0]).cells = #[.int .i64 0, .int .i64 0] := by kernel_rfl
 rw [vals_zero, hz]
 refine List.eq_replicate_iff.2 ⟨by simp [madeCells], fun u hu => ?_⟩
 unfold madeCells at hu
 rw [Array.toList_map, List.mem_map] at hu
 obtain ⟨i, _, rfl⟩ := hu
 show (#[Value.int .i64 0, .int .i64 0] : Array Value)[i % 2]! = _
 have : i % 2 = 0 ∨ i % 2 = 1 := by omega
 rcases this with h | h <;> rw [h] <;> rfl
theorem info_val : (Tryz.prog.info? 42).map (fun i => (i.zero, i.size, i.bytes)) = some (some (.agg #[.int .i64 0, .int .i64 0]), 2, 16) := by kernel_rfl
theorem made_vals (n : Nat) (hn : n ≤ 1000) : ∃ F : World → World, ∀ W, (Instr.makeSlice 87 (.int .i64 n) (.int .i64 n)).run Tryz.prog W = .ok (.slice (some ⟨W.heap.size, 0, none⟩) n n) (F W) ∧
   Blk (F W) W.heap.size 42 (valsL (List.replicate n ⟨0, 0⟩)).toArray ∧ W.grownBy (F W) none := by
 have h : ∀ W : World, ∃ W', (Instr.makeSlice 87 (.int .i64 n) (.int .i64 n)).run Tryz.prog W = .ok (.slice (some ⟨W.heap.size, 0, none⟩) n n) W' ∧
   Blk W' W.heap.size 42 (valsL (List.replicate n ⟨0, 0⟩)).toArray ∧ W.grownBy W' none := by
   intro W
   cases hh : Tryz.prog.info? 42 with
   | none => have := info_val; rw [hh] at this; cases this
   | some i =>
     have hi := info_val
     rw [hh] at hi
     simp only [Option.map_some, Option.some.injEq, Prod.mk.injEq] at hi
     obtain ⟨w', h1, h2, h3⟩ := run_make_full (P := Tryz.prog) W W.heap.size 87 42 i _ 2 Tryz.underlying87 hh hi.1 hi.2.1 .i64 .i64 n (by rw [hi.2.2]; omega) (by unfold maxLen; omega) (Nat.le_refl _)
     refine ⟨w', h1, ?_, h3⟩
     rcases h2.2 with ⟨hv, _⟩ | ⟨g, cap, cur, hv, _, hgg, hle, _, hsz, htk⟩
     · cases hv
     · simp only [Value.slice.injEq, Option.some.injEq, Addr.mk.injEq, and_true, true_and] at hv
       obtain ⟨rfl, rfl⟩ := hv
       rw [List.take_of_length_le (by simp; omega), made_zero n] at htk
       unfold Blk
       rw [hgg, ← htk]
 exact ⟨fun W => (h W).choose, fun W => (h W).choose_spec⟩
theorem hword_calls (a : Int) (w : World) : Calls Tryz.prog 42 #[.int .i64 a] w fun e w' => e = .returned (.int .i64 (wrap32 a)) ∧ w = w' := by
 go_enter Tryz.func42, Tryz.ntmps42
 go_wp2_with fail
 go_ret
 exact ⟨by simp [wrap32]; unfold wrap64; omega, rfl⟩
def HDoesAt (b : Nat) (a : Option Addr) (n cap : Nat) (v : ValR) (t : Nm) (r : Bool) (w : World) : Prop := Calls Tryz.prog 36 #[.map (some b), .agg #[.slice a n cap], .agg #[.int .i64 v.kind, .int .i64 v.n], .string ⟨⟨t⟩⟩] w fun e w' => e = .returned (.bool r) ∧ Below w.heap.size w w'
theorem hdoes_int (b : Nat) (a : Option Addr) (n cap : Nat) (z : Int) (t : Nm) (w : World) : HDoesAt b a n cap ⟨1, z⟩ t (t == [73] && decide (z = wrap32 z)) w := by
 have HW := Hd (hword_calls z)
 have HB2 := Hd (fun o1 o2 => bl_alloc (bl_alloc (Below.refl w.heap.size w) o1) o2)
 unfold HDoesAt
 by_cases h : t = [73]
 · subst h
   go_enter Tryz.func36, Tryz.ntmps36
   go_wp2_with fail
   go_quiet (exact (HW.out _).mono (fun e w1 h => by obtain ⟨rfl, rfl⟩ := h; exact ⟨rfl, _, rfl⟩))
   go_wp2_with fail
   go_ret
   exact ⟨ret_bool (by simp; rw [Bool.eq_iff_iff]; simp), below_dn (HB2.out _ _) _⟩
 · have h73 : (t == [73]) = false := by rw [beq_eq_false_iff_ne]; exact h
   clear h
   go_enter Tryz.func36, Tryz.ntmps36
   go_wp2_with fail
   go_quiet (fail)
   go_wp2_with fail
   go_ret
   exact ⟨ret_bool (by simp [h73]), below_dn (HB2.out _ _) _⟩
theorem hdoes_long (b : Nat) (a : Option Addr) (n cap : Nat) (z : Int) (t : Nm) (w : World) : HDoesAt b a n cap ⟨2, z⟩ t (t == [74]) w := by
 have HB2 := Hd (fun o1 o2 => bl_alloc (bl_alloc (Below.refl w.heap.size w) o1) o2)
 unfold HDoesAt
 go_enter Tryz.func36, Tryz.ntmps36
 go_wp2_with fail
 go_ret
 exact ⟨rfl, HB2.out _ _⟩
end Go.Proofs.YtfimajijegohmaaGreatDoor
