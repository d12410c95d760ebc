import Derived.Test.YtbnkckjdgpiggaaGreatDoorSa
namespace Go.Proofs.YtbnkckjdgpiggaaGreatDoor
set_option maxRecDepth 100000
set_option maxHeartbeats 16000000
set_option linter.unusedVariables false
set_option linter.unusedSimpArgs false
open Go.Lib Go.RowKit
structure zbz where
 kind : Int
 n : Int
structure zau where
 ty : Nm
 has : List zbz
open Classical in
noncomputable def z8s (L : List zd) (s t : Nm) : Bool := if h : ∃ p : Kd × Kd, s = p.1.text /\ t = p.2.text then zu8 L h.choose.1 h.choose.2 else false
def z7q (t : Nm) : Nm := (t.drop 1).dropLast
noncomputable def zzk (L : List zd) (x : zau) : List Nm := if x.ty.head? = some 91 then List.replicate x.has.length x.ty.tail else (z4g L (z7q x.ty)).map (·.2.ty)
noncomputable def valB (L : List zd) (tys : List Nm) (v : zbz) (t : Nm) : Bool :=
 if v.kind = 1 then t == [73] && decide (v.n = wrap32 v.n)
 else if v.kind = 2 then t == [74]
 else if v.kind = 3 then ((t.head? == some 76 || t.head? == some 91) && decide (0 <= v.n /\ v.n <= tys.length)) && (decide (v.n = 0) || z8s L (tys.getD (v.n - 1).toNat []) t)
 else false
open Classical in
noncomputable def z43 (L : List zd) (x : zau) : Int :=
 if ¬ zi x.ty \/ zjf x.ty = true then 1
 else if zh L x.ty ≠ 0 then zh L x.ty
 else if x.ty.head? = some 76 /\ (zbi L (z7q x.ty)).elim false (·.face) = true then 7
 else if (x.ty.head? = some 91 /\ 10 < x.has.length) \/ (zzk L x).length ≠ x.has.length then 8
 else 0
noncomputable def z0m (L : List zd) (X : List zau) (j : Nat) : Int := (X[j]?).elim 0 (z43 L)
noncomputable def z7u (L : List zd) (tys : List Nm) (x : zau) : Bool := (List.range (zzk L x).length).all fun i => valB L tys (x.has.getD i ⟨0, 0⟩) ((zzk L x).getD i [])
noncomputable def z3s (L : List zd) (X : List zau) : Int :=
 if 50 < X.length then 4
 else if zw (z0m L X) X.length ≠ 0 then zw (z0m L X) X.length
 else if X.all (z7u L (X.map (·.ty))) = true then 0 else 7
noncomputable def hpErr (l : List zd) (X : List zau) : Int := if zaq l ≠ 0 then zaq l else z3s (wl l) X
open Go.Shelf
abbrev HA := Option Addr × Nat
def zdh (v : zbz) : List Value := [.int .i64 v.kind, .int .i64 v.n]
def vV (v : zbz) : Value := .agg #[.int .i64 v.kind, .int .i64 v.n]
def zfc (x : zau) (p : HA) : List Value := [.string ⟨⟨x.ty⟩⟩, .slice p.1 x.has.length p.2]
def thV (x : zau) (p : HA) : Value := .agg #[.string ⟨⟨x.ty⟩⟩, .slice p.1 x.has.length p.2]
def zkh (w : World) (l : List zbz) (p : HA) : Prop := za6 w 2 p.1 p.2 (l.map zdh)
theorem zkh.below {w w' : World} {l : List zbz} {p : HA} (h : zkh w l p) (hb : Below w.heap.size w w') : zkh w' l p := za6.below h hb
theorem zkh.cells {w : World} {l : List zbz} {p : HA} (h : zkh w l p) {k : Nat} {v : zbz} (hx : l[k]? = some v) : ∃ b off, p.1 = some ⟨b, off, none⟩ /\ b < w.heap.size /\ w.cell? ⟨b, off + k * 2, none⟩ = some (.int .i64 v.kind) /\ w.cell? ⟨b, off + k * 2 + 1, none⟩ = some (.int .i64 v.n) := by
 obtain ⟨_, h2 | ⟨b, off, hp, hlt, hc⟩⟩ := h
 . have : l = [] := by simpa using h2
   subst this; simp at hx
 . have hh := hc k (zdh v) (by rw [List.getElem?_map, hx]; rfl)
   exact ⟨b, off, hp, hlt, hh 0 _ rfl, hh 1 _ rfl⟩
def zhn (w : World) (a : Option Addr) (cap : Nat) (X : List zau) (ps : List HA) : Prop :=
 ps.length = X.length /\ za6 w 2 a cap (List.zipWith zfc X ps) /\ ∀ (k : Nat) (x : zau) (p : HA), X[k]? = some x -> ps[k]? = some p -> zkh w x.has p
theorem zhn.below {w w' : World} {a : Option Addr} {cap : Nat} {X : List zau} {ps : List HA} (h : zhn w a cap X ps) (hb : Below w.heap.size w w') : zhn w' a cap X ps :=
 ⟨h.1, h.2.1.below hb, fun k m p hm hp => (h.2.2 k m p hm hp).below hb⟩
theorem zhn.cells {w : World} {a : Option Addr} {cap : Nat} {X : List zau} {ps : List HA} (h : zhn w a cap X ps) {k : Nat} {x : zau} (hx : X[k]? = some x) : ∃ (b : Nat) (off : Nat) (p : HA), a = some ⟨b, off, none⟩ /\ b < w.heap.size /\ ps[k]? = some p /\ zkh w x.has p /\
   w.cell? ⟨b, off + k * 2, none⟩ = some (.string ⟨⟨x.ty⟩⟩) /\ w.cell? ⟨b, off + k * 2 + 1, none⟩ = some (.slice p.1 x.has.length p.2) := by
 obtain ⟨hl, hr, hm⟩ := h
 obtain ⟨hk, hx'⟩ := List.getElem?_eq_some_iff.1 hx
 have hkp : k < ps.length := by omega
 obtain ⟨p, hp⟩ : ∃ p, ps[k]? = some p := ⟨_, List.getElem?_eq_getElem hkp⟩
 have hz : (List.zipWith zfc X ps)[k]? = some (zfc x p) := by
   rw [List.getElem?_zipWith, hx, hp]
 obtain ⟨_, h2 | ⟨b, off, rfl, hlt, hc⟩⟩ := hr
 . rw [h2] at hz; simp at hz
 . have hh := hc k _ hz
   exact ⟨b, off, p, rfl, hlt, hp, hm k x p hx hp, hh 0 _ rfl, hh 1 _ rfl⟩
def ThB (x : zau) : Prop := x.ty.length <= 8388608 /\ x.has.length <= 8388608 /\ ∀ v ∈ x.has, (-9223372036854775808 <= v.kind /\ v.kind <= 9223372036854775807) /\ -9223372036854775808 <= v.n /\ v.n <= 9223372036854775807
def HpB (X : List zau) : Prop := X.length <= 8388608 /\ ∀ x ∈ X, ThB x
def DT (t : Nm) : Prop := ∃ d b, t = (Kd.ty d b).text /\ d <= 3 /\ b.cl.length <= 20
def zbs (l : List zbz) : List Value := (l.map zdh).flatten
theorem znj (v : zbz) : ∀ u ∈ zdh v, u.oneCell' = true := by
 intro u hu
 simp only [zdh, List.mem_cons, List.mem_nil_iff, or_false] at hu
 rcases hu with rfl | rfl <;> rfl
theorem zfn (l : List zbz) : (zbs l).length = l.length * 2 := by
 unfold zbs
 induction l with
 | nil => rfl
 | cons x r ih => simp only [List.map_cons, List.flatten_cons, List.length_append, ih, List.length_cons]; simp [zdh]; omega
theorem z0j (l : List zbz) : ∀ u ∈ zbs l, u.oneCell' = true := by
 intro u hu
 unfold zbs at hu
 obtain ⟨c, hc, hu⟩ := List.mem_flatten.1 hu
 obtain ⟨v, _, rfl⟩ := List.mem_map.1 hc
 exact znj v u hu
def zoz (w : World) (B : Nat) (l : List zbz) (q : HA) : Prop := w.ownsRow B 54 2 (.slice q.1 l.length q.2) l.length (zbs l)
theorem zoz.at {w : World} {B : Nat} {l : List zbz} {q : HA} (h : zoz w B l q) : zkh w l q := by
 have h' : w.ownsRow B 54 2 (.slice q.1 l.length q.2) (l.map zdh).length (l.map zdh).flatten := by rw [List.length_map]; exact h
 obtain ⟨a, cap, h1, h2⟩ := zh5 h' (by intro c hc; obtain ⟨x, _, rfl⟩ := List.mem_map.1 hc; rfl)
 simp only [Value.slice.injEq] at h1
 obtain ⟨rfl, _, rfl⟩ := h1
 exact h2
theorem z3o {w w' : World} {B : Nat} {e : TypeId} {size : Nat} {v : Value} {n : Nat} {xs : List Value} (h : w.ownsRow B e size v n xs) (hk : ∀ g, v.ownBlock = some g -> w'.heap[g]? = w.heap[g]?) : w'.ownsRow B e size v n xs := by
 refine ⟨h.1, ?_⟩
 rcases h.2 with h1 | ⟨g, cap, cur, hv, hB, hg, h3⟩
 . exact Or.inl h1
 . exact Or.inr ⟨g, cap, cur, hv, hB, (hk g (by rw [hv]; rfl)).trans hg, h3⟩
theorem zzg {w : World} {B B' : Nat} {e e' : TypeId} {size size' : Nat} {v v' : Value} {n n' : Nat} {xs xs' : List Value} (h : w.ownsRow B e size v n xs) (h' : w.ownsRow B' e' size' v' n' xs') (hne : e ≠ e') {g : Nat} (hg : v.ownBlock = some g) : v'.ownBlock ≠ some g := by
 intro hg'
 rcases h.2 with ⟨rfl, _⟩ | ⟨k, _, _, rfl, _, hk, _⟩
 . cases hg
 rcases h'.2 with ⟨rfl, _⟩ | ⟨k', _, _, rfl, _, hk', _⟩
 . cases hg'
 simp only [Value.ownBlock, Option.some.injEq] at hg hg'
 subst hg hg'
 rw [hk] at hk'
 simp only [Option.some.injEq, Obj.cells.injEq] at hk'
 exact hne hk'.2.1
theorem z7w : zld Tryz.prog 61 54 2 16 := zld.mk' (z := .agg #[.int .i64 0, .int .i64 0]) Tryz.underlying61 (by kernel_rfl) rfl (by decide)
theorem zpx : ∀ n, zbs (List.replicate n ⟨0, 0⟩) = List.replicate (n * 2) (.int .i64 0)
 | 0 => rfl
 | n + 1 => by
   have e : (n + 1) * 2 = n * 2 + 1 + 1 := by omega
   have h := zpx n
   unfold zbs at h |-
   rw [e, List.replicate_succ, List.replicate_succ, List.replicate_succ, List.map_cons, List.flatten_cons, h]
   rfl
theorem zzn (n : Nat) : (madeCells (Value.agg #[.int .i64 0, .int .i64 0]).cells (n * 2)).toList = zbs (List.replicate n ⟨0, 0⟩) := by
 have hz : (Value.agg #[.int .i64 0, .int .i64 0]).cells = #[.int .i64 0, .int .i64 0] := by kernel_rfl
 rw [zpx, hz]
 refine List.eq_replicate_iff.2 ⟨by simp [madeCells], fun u hu => ?_⟩
 unfold madeCells at hu
 rw [Array.toList_map, List.mem_map] at hu
 obtain ⟨i, _, rfl⟩ := hu
 show (#[Value.int .i64 0, .int .i64 0] : Array Value)[i % 2]! = _
 have : i % 2 = 0 \/ i % 2 = 1 := by omega
 rcases this with h | h <;> rw [h] <;> rfl
theorem zut : (Tryz.prog.info? 54).map (fun i => (i.zero, i.size, i.bytes)) = some (some (.agg #[.int .i64 0, .int .i64 0]), 2, 16) := by kernel_rfl
theorem zxn (n : Nat) (hn : n <= 1000) : ∃ F : World -> World, ∀ W, (Instr.makeSlice 61 (.int .i64 n) (.int .i64 n)).run Tryz.prog W = .ok (.slice (some ⟨W.heap.size, 0, none⟩) n n) (F W) /\
   Blk (F W) W.heap.size 54 (zbs (List.replicate n ⟨0, 0⟩)).toArray /\ W.grownBy (F W) none := by
 have h : ∀ W : World, ∃ W', (Instr.makeSlice 61 (.int .i64 n) (.int .i64 n)).run Tryz.prog W = .ok (.slice (some ⟨W.heap.size, 0, none⟩) n n) W' /\
   Blk W' W.heap.size 54 (zbs (List.replicate n ⟨0, 0⟩)).toArray /\ W.grownBy W' none := by
   intro W
   cases hh : Tryz.prog.info? 54 with
   | none => have := zut; rw [hh] at this; cases this
   | some i =>
     have hi := zut
     rw [hh] at hi
     simp only [Option.map_some, Option.some.injEq, Prod.mk.injEq] at hi
     obtain ⟨w', h1, h2, h3⟩ := run_make_full (P := Tryz.prog) W W.heap.size 61 54 i _ 2 Tryz.underlying61 hh hi.1 hi.2.1 .i64 .i64 n (by rw [hi.2.2]; omega) (by unfold maxLen; omega) (Nat.le_refl _)
     refine ⟨w', h1, ?_, h3⟩
     rcases h2.2 with ⟨hv, _⟩ | ⟨g, cap, cur, hv, _, hgg, hle, _, hsz, htk⟩
     . cases hv
     . simp only [Value.slice.injEq, Option.some.injEq, Addr.mk.injEq, and_true, true_and] at hv
       obtain ⟨rfl, rfl⟩ := hv
       rw [List.take_of_length_le (by simp; omega), zzn n] at htk
       unfold Blk
       rw [hgg, <- htk]
 exact ⟨fun W => (h W).choose, fun W => (h W).choose_spec⟩
theorem zmm (a : Int) (w : World) : Calls Tryz.prog 16 #[.int .i64 a] w fun e w' => e = .returned (.int .i64 (wrap32 a)) /\ w = w' := by
 go_enter Tryz.func16, Tryz.ntmps16
 go_wp2_with fail
 go_ret
 exact ⟨by simp [wrap32]; unfold wrap64; omega, rfl⟩
def zju (b : Nat) (a : Option Addr) (n cap : Nat) (v : zbz) (t : Nm) (r : Bool) (w : World) : Prop := Calls Tryz.prog 25 #[.map (some b), .agg #[.slice a n cap], .agg #[.int .i64 v.kind, .int .i64 v.n], .string ⟨⟨t⟩⟩] w fun e w' => e = .returned (.bool r) /\ Below w.heap.size w w'
theorem z02 (b : Nat) (a : Option Addr) (n cap : Nat) (z : Int) (t : Nm) (w : World) : zju b a n cap ⟨1, z⟩ t (t == [73] && decide (z = wrap32 z)) w := by
 have HW := Hq (zmm z)
 have HB2 := Hq (fun o1 o2 => ze (ze (Below.refl w.heap.size w) o1) o2)
 unfold zju
 by_cases h : t = [73]
 . subst h
   go_enter Tryz.func25, Tryz.ntmps25
   go_wp2_with fail
   go_quiet (exact (HW.out _).mono (fun e w1 h => by obtain ⟨rfl, rfl⟩ := h; exact ⟨rfl, _, rfl⟩))
   go_wp2_with fail
   go_ret
   exact ⟨zaa (by simp; rw [Bool.eq_iff_iff]; simp), zbv (HB2.out _ _) _⟩
 . have h73 : (t == [73]) = false := by rw [beq_eq_false_iff_ne]; exact h
   clear h
   go_enter Tryz.func25, Tryz.ntmps25
   go_wp2_with fail
   go_quiet (fail)
   go_wp2_with fail
   go_ret
   exact ⟨zaa (by simp [h73]), zbv (HB2.out _ _) _⟩
theorem zwv (b : Nat) (a : Option Addr) (n cap : Nat) (z : Int) (t : Nm) (w : World) : zju b a n cap ⟨2, z⟩ t (t == [74]) w := by
 have HB2 := Hq (fun o1 o2 => ze (ze (Below.refl w.heap.size w) o1) o2)
 unfold zju
 go_enter Tryz.func25, Tryz.ntmps25
 go_wp2_with fail
 go_ret
 exact ⟨rfl, HB2.out _ _⟩
end Go.Proofs.YtbnkckjdgpiggaaGreatDoor
