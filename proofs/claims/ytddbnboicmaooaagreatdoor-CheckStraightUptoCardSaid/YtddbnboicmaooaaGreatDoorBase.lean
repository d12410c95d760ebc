import Derived.Test.YtddbnboicmaooaaGreatDoorPlain
import Derived.Test.YtddbnboicmaooaaGreatDoorShelf
import Derived.Test.YtddbnboicmaooaaGreatDoorRows
import Derived.WalkSpells
import Derived.WalkLawsBesides
import Derived.Shelf.Strings.SlTrimAscii
import Derived.Lib.Hide
import Derived.Handy
import Derived.Lib.IfaceNeq
import Derived.Laws.AppendOwnNone
import Derived.Deep.Onto
namespace Go.Proofs.YtddbnboicmaooaaGreatDoor
set_option maxRecDepth 100000
set_option maxHeartbeats 16000000
set_option linter.unusedVariables false
set_option linter.unusedSimpArgs false
open Go.RowKit Go.Shelf Go.Lib
theorem Hd {p : Prop} (h : p) : Go.RowKit.Hid p := h
abbrev errV (n : Int) : Value := .iface 31 (.int .i64 n)
theorem bl_trans {a b c : World} (h : Below a.heap.size a b) (k : Below b.heap.size b c) : Below a.heap.size a c := h.trans (k.mono h.size)
theorem bl_alloc {a w : World} (h : Below a.heap.size a w) (o : Obj) : Below a.heap.size a (w.alloc o) := h.alloc h.size o
theorem new_cells (W : World) (cs : List Value) (t : TypeId) (j : Nat) (u : Value) (h : cs[j]? = some u) : (W.alloc (.cells cs.toArray t)).cell? ((⟨W.heap.size, 0, none⟩ : Addr).add j) = some u := by
 have e : (⟨W.heap.size, 0, none⟩ : Addr).add j = ⟨W.heap.size, j, none⟩ := by unfold Addr.add; split <;> simp_all
 rw [e, World.cell?_alloc_new]
 simpa using h
theorem ret_bool {a b : Bool} (h : a = b) : Ending.returned (.bool a) = .returned (.bool b) := by rw [h]
@[go_sem] theorem run_eql_errno (w : World) (a b : Int) : (binOp .eql 28 (.iface 31 (.int .i64 a)) (.iface 31 (.int .i64 b))).run Tryz.prog w = .ok (.bool (a == b)) w :=
 Lib.run_eql_iface_int w a b Tryz.underlying28 (by kernel_rfl) Tryz.underlying31
@[go_sem] theorem run_neq_errno (w : World) (a b : Int) : (binOp .neq 28 (.iface 31 (.int .i64 a)) (.iface 31 (.int .i64 b))).run Tryz.prog w = .ok (.bool (!(a == b))) w :=
 Lib.run_neq_iface_int w a b Tryz.underlying28 (by kernel_rfl) Tryz.underlying31
theorem trim_contract (s : ByteArray) (w : World) (hs : s.size ≤ 9223372036854775807) :
   Calls Tryz.prog 69 #[.string s, .string ⟨#[97, 98, 99, 100, 101, 102, 103, 104, 105, 106, 107, 108, 109, 110, 111, 112, 113, 114, 115, 116, 117, 118, 119, 120, 121, 122, 65, 66, 67, 68, 69, 70, 71, 72, 73, 74, 75, 76, 77, 78, 79, 80, 81, 82, 83, 84, 85, 86, 87, 88, 89, 90, 95, 48, 49, 50, 51, 52, 53, 54, 55, 56, 57]⟩] w fun e w' => e = .returned (.string ⟨(trimS s.data.toList nameSet).toArray⟩) ∧ Below w.heap.size w w' := by
 exact Any.strings_Trim_laid Tryz.lays160 (by kernel_rfl) s ⟨#[97, 98, 99, 100, 101, 102, 103, 104, 105, 106, 107, 108, 109, 110, 111, 112, 113, 114, 115, 116, 117, 118, 119, 120, 121, 122, 65, 66, 67, 68, 69, 70, 71, 72, 73, 74, 75, 76, 77, 78, 79, 80, 81, 82, 83, 84, 85, 86, 87, 88, 89, 90, 95, 48, 49, 50, 51, 52, 53, 54, 55, 56, 57]⟩ w hs (by decide) (ascii_of_all (by decide))
theorem name_ok (s : ByteArray) (w : World) (h : nameOk s.data.toList = true) :
   Calls Tryz.prog 35 #[.string s] w fun e w' => e = .returned .nilIface ∧ Below w.heap.size w w' := by
 obtain ⟨b, r, hl, h20, htr, hd⟩ := nameOk_true h
 obtain ⟨⟨l⟩⟩ := s
 simp only at hl
 subst hl
 simp only [List.length_cons] at h20
 have hcon := trim_contract ⟨⟨b :: r⟩⟩ w (by simp [ByteArray.size]; omega)
 simp only [htr] at hcon
 have hix := Tryz.strings_IndexByte ⟨⟨digSet⟩⟩ b.toNat
 have hdi := digit_index b
 rw [hd] at hdi
 simp only [decide_eq_false_iff_not] at hdi
 have HI := Hd hix
 have HC := Hd hcon
 clear hix hcon htr h
 go_enter Tryz.func35, Tryz.ntmps35
 go_wp2_with fail
 refine HC.out.mono ?_
 rintro e w1 ⟨rfl, hb⟩
 go_wp2_with fail
 refine (HI.out _).mono ?_
 rintro e w2 ⟨rfl, rfl⟩
 go_wp2_with fail
 go_ret
 exact ⟨rfl, hb⟩
theorem name_bad (s : ByteArray) (w : World) (h : nameOk s.data.toList = false) :
   Calls Tryz.prog 35 #[.string s] w fun e w' => e = .returned (errV 1) ∧ Below w.heap.size w w' := by
 rcases nameOk_false h with h | h | ⟨b, r, hl, h20, htr⟩ | ⟨b, r, hl, h20, htr, hd⟩
 · obtain ⟨⟨l⟩⟩ := s
   simp only at h
   subst h
   go_enter Tryz.func35, Tryz.ntmps35
   go_wp2
   go_ret
   exact ⟨rfl, Below.refl _ _⟩
 · have hne : s.data.toList = [] → False := by intro e; rw [e] at h; simp at h
   have hz : 20 < s.size := by
     have e : s.size = s.data.toList.length := Array.length_toList.symm
     omega
   go_enter Tryz.func35, Tryz.ntmps35
   go_wp2_with fail
   all_goals go_ret
   all_goals exact ⟨rfl, Below.refl _ _⟩
 · obtain ⟨⟨l⟩⟩ := s
   simp only at hl
   subst hl
   simp only [List.length_cons] at h20
   have hcon := trim_contract ⟨⟨b :: r⟩⟩ w (by simp [ByteArray.size]; omega)
   obtain ⟨x, y, hxy⟩ : ∃ x y, trimS (b :: r) nameSet = x :: y := by
     cases hh : trimS (b :: r) nameSet with
     | nil => exact absurd hh htr
     | cons x y => exact ⟨x, y, rfl⟩
   simp only [hxy] at hcon
   have HC := Hd hcon
   clear hcon htr h hxy
   go_enter Tryz.func35, Tryz.ntmps35
   go_wp2_with fail
   refine HC.out.mono ?_
   rintro e w1 ⟨rfl, hb⟩
   go_wp2_with fail
   go_ret
   exact ⟨rfl, hb⟩
 · obtain ⟨⟨l⟩⟩ := s
   simp only at hl
   subst hl
   simp only [List.length_cons] at h20
   have hcon := trim_contract ⟨⟨b :: r⟩⟩ w (by simp [ByteArray.size]; omega)
   simp only [htr] at hcon
   have hix := Tryz.strings_IndexByte ⟨⟨digSet⟩⟩ b.toNat
   have hdi := digit_index b
   rw [hd] at hdi
   simp only [decide_eq_true_eq] at hdi
   have HI := Hd hix
   have HC := Hd hcon
   clear hix hcon htr h
   go_enter Tryz.func35, Tryz.ntmps35
   go_wp2_with fail
   refine HC.out.mono ?_
   rintro e w1 ⟨rfl, hb⟩
   go_wp2_with fail
   refine (HI.out _).mono ?_
   rintro e w2 ⟨rfl, rfl⟩
   go_wp2_with fail
   go_ret
   exact ⟨rfl, hb⟩
theorem named_true (w : World) :
   Calls Tryz.prog 14 #[] w fun e w' => e = .returned (.bool true) ∧ Below w.heap.size w w' := by
 have h1 := fun w => name_ok ⟨#[65]⟩ w (by decide +kernel)
 have h2 := fun w => name_bad ⟨#[]⟩ w (by decide +kernel)
 have H1 := Hd h1
 have H2 := Hd h2
 clear h1 h2
 go_enter Tryz.func14, Tryz.ntmps14
 go_wp2_with fail
 refine (H1.out _).mono ?_
 rintro e w1 ⟨rfl, hb⟩
 go_wp2_with fail
 refine (H2.out _).mono ?_
 rintro e w2 ⟨rfl, hb2⟩
 go_wp2_with fail
 go_ret
 exact ⟨rfl, hb.trans (hb2.mono hb.size)⟩
theorem bcell {W w1 : World} (hb : Below W.heap.size W w1) : (∀ b o, b < W.heap.size → w1.cell? ⟨b, o, none⟩ = W.cell? ⟨b, o, none⟩) ∧ (∀ b o, b < W.heap.size → w1.frozen? ⟨b, o, none⟩ = W.frozen? ⟨b, o, none⟩) :=
 ⟨fun b o h => hb.cell (p := ⟨b, o, none⟩) h, fun b o h => hb.frozen (p := ⟨b, o, none⟩) h⟩
theorem new_below {w w1 : World} {o : Obj} (h : Below (w.alloc o).heap.size (w.alloc o) w1) : Below w.heap.size w w1 := ((Below.refl _ _).alloc (Nat.le_refl _) o).trans (h.mono (by simp))
def SrcRow (w : World) (size : Nat) (x : Value) (m : Nat) (news : List Value) : Prop :=
 news.length = m * size ∧ (∀ u ∈ news, u.oneCell' = true) ∧ ((x = .slice none 0 0 ∧ m = 0) ∨ ∃ ad c, x = .slice (some ad) m c ∧ ∀ j u, news[j]? = some u → w.cell? (ad.add j) = some u)
theorem wpList_append_row {P : Program} {w : World} {ops : Array Oper} {rest : List Oper} {o : Oper} {a : Act} {Q : Exit → Act → World → Prop} (hgd : o.guard = none) (s x : Operand) (t : TypeId)
   (ho : o.op = .call { callee := .builtin .append, args := #[s, x], argTypes := #[t, t] })
   (base : Nat) (e : TypeId) (i : TypeInfo) (z : Value) (size bytes : Nat) (ht : P.underlying t = some (.slice e)) (hi : P.info? e = some i) (hz : i.zero = some z)
   (hsize : i.size = size) (hby : i.bytes = bytes) (hzs : z.cells.size = size) (hsz : 0 < size)
   (v : Value) (n : Nat) (xs : List Value) (hs : a.eval s = v) (hown : w.ownsRow base e size v n xs)
   (xv : Value) (m : Nat) (news : List Value) (hx : a.eval x = xv) (hsrc : SrcRow w size xv m news)
   (h63 : n + m ≤ maxLen) (hbytes : (n + m) * bytes ≤ 140737488355328) (hbase : base ≤ w.heap.size)
   (h : ∀ v' w', w'.ownsRow base e size v' (n + m) (xs ++ news) → w.grownBy w' v.ownBlock → wpList P ops Q rest (a.put o.dst v') w') : wpList P ops Q (o :: rest) a w := by
 obtain ⟨hl, h1, ⟨rfl, rfl⟩ | ⟨ad, c, rfl, hc⟩⟩ := hsrc
 · have hn : news = [] := List.eq_nil_of_length_eq_zero (by simpa using hl)
   subst hn
   exact wpList_append_own_none hgd s x t ho base e i size ht hi v n xs hs hown hx (h v w (by simpa using hown) ⟨rfl, rfl, rfl, Nat.le_refl _, fun _ _ _ => rfl⟩)
 · exact wpList_append_own w hgd s x t ho base e i z size bytes ht hi hz hsize hby hzs hsz v n xs hs hown ad m c news hx hl hc h1 h63 hbytes hbase (fun v' w' h2 h3 _ => h v' w' h2 h3)
structure RowT (P : Program) (t e : TypeId) (size bytes : Nat) : Prop where
 slice : P.underlying t = some (.slice e)
 info : ∃ i z, P.info? e = some i ∧ i.zero = some z ∧ i.size = size ∧ i.bytes = bytes ∧ z.cells.size = size
 pos : 0 < size
theorem RowT.mk' {P : Program} {t e : TypeId} {size bytes : Nat} {z : Value} (h : P.underlying t = some (.slice e)) (hi : (P.info? e).map (fun i => (i.zero, i.size, i.bytes)) = some (some z, size, bytes)) (hz : z.cells.size = size) (hp : 0 < size) : RowT P t e size bytes := by
 refine ⟨h, ?_, hp⟩
 cases hh : P.info? e with
 | none => rw [hh] at hi; cases hi
 | some i =>
   rw [hh] at hi
   simp only [Option.map_some, Option.some.injEq, Prod.mk.injEq] at hi
   exact ⟨i, z, rfl, hi.1, hi.2.1, hi.2.2, hz⟩
theorem wpList_append_one {P : Program} {W : World} {t e : TypeId} {size bytes : Nat} (T : RowT P t e size bytes) {ops : Array Oper} {rest : List Oper} {o : Oper} {a : Act} {Q : Exit → Act → World → Prop} (hgd : o.guard = none) (s x : Operand)
   (ho : o.op = .call { callee := .builtin .append, args := #[s, x], argTypes := #[t, t] }) (B : Nat) (v : Value) (n : Nat) (xs : List Value) (hs : a.eval s = v) (hown : W.ownsRow B e size v n xs)
   (ys : List Value) (hy : ys.length = size) (h1 : ∀ u ∈ ys, u.oneCell' = true) (g : Nat) (hx : a.eval x = .slice (some ⟨g, 0, none⟩) 1 1) (hg : g = W.heap.size) (hn : n + 1 ≤ 1000000000) (hb : (n + 1) * bytes ≤ 140737488355328) (hB : B ≤ W.heap.size)
   (h : ∀ v' w', w'.ownsRow B e size v' (n + 1) (xs ++ ys) → (W.alloc (.cells ys.toArray e)).grownBy w' v.ownBlock → wpList P ops Q rest (a.put o.dst v') w') :
   wpList P ops Q (o :: rest) a (W.alloc (.cells ys.toArray e)) := by
 subst hg
 obtain ⟨i, z, hi, hz, hsz, hby, hzs⟩ := T.info
 exact wpList_append_own _ hgd s x t ho B e i z size bytes T.slice hi hz hsz hby hzs T.pos v n xs hs (hown.alloc _) ⟨W.heap.size, 0, none⟩ 1 1 ys hx (by omega) (fun j u hj => new_cells W ys e j u hj) h1 (by unfold maxLen; omega) hb (by simp; omega)
   (fun v' w' h2 h3 _ => h v' w' h2 h3)
theorem wpList_append_src {P : Program} {W : World} {t e : TypeId} {size bytes : Nat} (T : RowT P t e size bytes) {ops : Array Oper} {rest : List Oper} {o : Oper} {a : Act} {Q : Exit → Act → World → Prop} (hgd : o.guard = none) (s x : Operand)
   (ho : o.op = .call { callee := .builtin .append, args := #[s, x], argTypes := #[t, t] }) (B : Nat) (v : Value) (n : Nat) (xs : List Value) (hs : a.eval s = v) (hown : W.ownsRow B e size v n xs)
   (xv : Value) (m : Nat) (news : List Value) (hx : a.eval x = xv) (hsrc : SrcRow W size xv m news) (hn : n + m ≤ 1000000000) (hb : (n + m) * bytes ≤ 140737488355328) (hB : B ≤ W.heap.size)
   (h : ∀ v' w', w'.ownsRow B e size v' (n + m) (xs ++ news) → W.grownBy w' v.ownBlock → wpList P ops Q rest (a.put o.dst v') w') :
   wpList P ops Q (o :: rest) a W := by
 obtain ⟨i, z, hi, hz, hsz, hby, hzs⟩ := T.info
 exact wpList_append_row hgd s x t ho B e i z size bytes T.slice hi hz hsz hby hzs T.pos v n xs hs hown xv m news hx hsrc (by unfold maxLen; omega) hb hB h
theorem grown_below {W w' : World} {o : Obj} {B : Nat} {v : Value} {e : TypeId} {size n : Nat} {xs : List Value} (hB : B ≤ W.heap.size) (hown : W.ownsRow B e size v n xs) (hg : (W.alloc o).grownBy w' v.ownBlock) : Below B W w' :=
 ((Below.refl B W).alloc hB o).grown hg (by simp; omega) (fun k hk => (hown.lt k hk).1)
theorem own_below {w w' : World} {B : Nat} {e : TypeId} {size : Nat} {v : Value} {n : Nat} {xs : List Value} (h : w.ownsRow B e size v n xs) (hb : Below w.heap.size w w') : w'.ownsRow B e size v n xs :=
 h.kept (row := none) ⟨hb.os, hb.tape, hb.output, hb.size, fun k hk _ => hb.block k hk⟩ (by cases hv : Value.ownBlock v <;> simp)
theorem below_dn {B : Nat} {a w : World} (h : Below B a w) (n : Nat) : Below B a (w.drewN n) := ⟨h.os, h.tape, h.output, h.size, h.block⟩
theorem slice_of_own {w : World} {B : Nat} {e : TypeId} {size : Nat} {v : Value} {n : Nat} {xs : List Value} (h : w.ownsRow B e size v n xs) : ∃ a cap, v = .slice a n cap ∧ n ≤ cap := by
 rcases h.2 with ⟨rfl, h0⟩ | ⟨g, cap, cur, rfl, _, _, hle, _⟩
 · exact ⟨none, 0, by rw [h0], by omega⟩
 · exact ⟨_, cap, rfl, hle⟩
def ValsAt (w : World) (a : Option Addr) (cap : Nat) (xs : List Value) : Prop :=
 xs.length ≤ cap ∧ (xs = [] ∨ ∃ b off, a = some ⟨b, off, none⟩ ∧ b < w.heap.size ∧ ∀ j x, xs[j]? = some x → w.cell? ⟨b, off + j, none⟩ = some x)
theorem ValsAt.below {w w' : World} {a : Option Addr} {cap : Nat} {xs : List Value} (h : ValsAt w a cap xs) (hb : Below w.heap.size w w') : ValsAt w' a cap xs := by
 obtain ⟨h1, h2 | ⟨b, off, rfl, hlt, hc⟩⟩ := h
 · exact ⟨h1, Or.inl h2⟩
 · exact ⟨h1, Or.inr ⟨b, off, rfl, Nat.lt_of_lt_of_le hlt hb.size, fun j x hx => by rw [hb.cell (p := ⟨b, off + j, none⟩) hlt]; exact hc j x hx⟩⟩
def RowsAt (w : World) (size : Nat) (a : Option Addr) (cap : Nat) (L : List (List Value)) : Prop :=
 L.length ≤ cap ∧ (L = [] ∨ ∃ b off, a = some ⟨b, off, none⟩ ∧ b < w.heap.size ∧ ∀ k cs, L[k]? = some cs → ∀ j u, cs[j]? = some u → w.cell? ⟨b, off + k * size + j, none⟩ = some u)
theorem RowsAt.below {w w' : World} {size : Nat} {a : Option Addr} {cap : Nat} {L : List (List Value)} (h : RowsAt w size a cap L) (hb : Below w.heap.size w w') : RowsAt w' size a cap L := by
 obtain ⟨h1, h2 | ⟨b, off, rfl, hlt, hc⟩⟩ := h
 · exact ⟨h1, Or.inl h2⟩
 · exact ⟨h1, Or.inr ⟨b, off, rfl, Nat.lt_of_lt_of_le hlt hb.size, fun k cs hk j u hu => by rw [hb.cell (p := ⟨b, off + k * size + j, none⟩) hlt]; exact hc k cs hk j u hu⟩⟩
theorem flat_get : ∀ (L : List (List Value)) (size k j : Nat) (cs : List Value) (u : Value), (∀ c ∈ L, c.length = size) → L[k]? = some cs → cs[j]? = some u → L.flatten[k * size + j]? = some u
 | [], _, k, j, cs, u, _, h, _ => by simp at h
 | c :: L, size, 0, j, cs, u, hl, h, hu => by
   simp at h; subst h
   have hj : j < c.length := (List.getElem?_eq_some_iff.1 hu).1
   simp only [List.flatten_cons, Nat.zero_mul, Nat.zero_add]
   rw [List.getElem?_append_left hj]; exact hu
 | c :: L, size, k + 1, j, cs, u, hl, h, hu => by
   have ih := flat_get L size k j cs u (fun x hx => hl x (by simp [hx])) (by simpa using h) hu
   have hc := hl c (by simp)
   simp only [List.flatten_cons]
   rw [List.getElem?_append_right (by rw [hc, Nat.succ_mul]; omega), hc, Nat.succ_mul]
   rw [show k * size + size + j - size = k * size + j by omega]; exact ih
theorem rows_of_own {w : World} {B : Nat} {e : TypeId} {size : Nat} {v : Value} {L : List (List Value)} (h : w.ownsRow B e size v L.length L.flatten) (hL : ∀ c ∈ L, c.length = size) : ∃ a cap, v = .slice a L.length cap ∧ RowsAt w size a cap L := by
 rcases h.2 with ⟨rfl, h0⟩ | ⟨g, cap, cur, rfl, _, hg, hle, _, _, _⟩
 · exact ⟨none, 0, by rw [h0], by omega, Or.inl (List.eq_nil_of_length_eq_zero h0)⟩
 · refine ⟨_, cap, rfl, hle, Or.inr ⟨g, 0, rfl, (Array.getElem?_eq_some_iff.1 hg).1, fun k cs hk j u hu => ?_⟩⟩
   have := h.cells (g := g) rfl (k * size + j) u (flat_get L size k j cs u hL hk hu)
   have e : (⟨g, 0, none⟩ : Addr).add (k * size + j) = ⟨g, k * size + j, none⟩ := by unfold Addr.add; split <;> simp_all
   rw [e] at this
   rw [Nat.zero_add]; exact this
@[go_sem] theorem extract_mk (l : List UInt8) (a b : Nat) : (⟨⟨l⟩⟩ : ByteArray).extract a b = ⟨⟨(l.drop a).take (b - a)⟩⟩ := by
 have h := extract_data ⟨⟨l⟩⟩ a b
 cases hx : (⟨⟨l⟩⟩ : ByteArray).extract a b with
 | mk x =>
   rw [hx] at h
   cases x
   simp only at h
   rw [h]
@[go_sem] theorem append_mk (a b : List UInt8) : (⟨⟨a⟩⟩ : ByteArray) ++ ⟨⟨b⟩⟩ = ⟨⟨a ++ b⟩⟩ := by
 rw [ByteArray.mk_append_mk]
@[go_sem] theorem get_mk (l : List UInt8) (i : Nat) (h : i < (⟨⟨l⟩⟩ : ByteArray).size) : (⟨⟨l⟩⟩ : ByteArray)[i]'h = l[i]'h := rfl
theorem ret_cut {a b c d : List UInt8} (h1 : a = c) (h2 : b = d) : Ending.returned (.tuple #[.string ⟨⟨a⟩⟩, .string ⟨⟨b⟩⟩, .bool true]) = .returned (.tuple #[.string ⟨⟨c⟩⟩, .string ⟨⟨d⟩⟩, .bool true]) := by rw [h1, h2]
theorem trimLeft_lead (P X : List UInt8) (hP : ∀ b ∈ P, b = 91) (hX : ∀ c r, X = c :: r → c ≠ 91) (w : World) :
   Calls Tryz.prog 104 #[.string ⟨⟨P ++ X⟩⟩, .string ⟨#[91]⟩] w fun e w' => e = .returned (.string ⟨⟨X⟩⟩) ∧ w = w' := by
 have h := Tryz.strings_TrimLeft_one ⟨⟨P ++ X⟩⟩ 91 (by decide) w
 rw [show (⟨⟨P ++ X⟩⟩ : ByteArray).data.toList = P ++ X from rfl, dropWhile_lead P X hP hX] at h
 exact h.mono fun e w' ⟨h1, h2⟩ => ⟨h1, h2.symm⟩
theorem index59 (l : List UInt8) (v : Int) (h : indexByte l 59 = v) (w : World) : Calls Tryz.prog 70 #[.string ⟨⟨l⟩⟩, .int .u8 59] w fun e w' => e = .returned (.int .i64 v) ∧ w = w' := by
 have h1 := Tryz.strings_IndexByte ⟨⟨l⟩⟩ 59 w
 exact h1.mono fun e w' ⟨h2, h3⟩ => ⟨by rw [h2, ← h]; rfl, h3.symm⟩
theorem no59_cons {n : List UInt8} (h : ∀ b ∈ n, b ≠ 59) : ∀ b ∈ (76 :: n), b ≠ 59 := by
 intro b hb
 rcases List.mem_cons.1 hb with h1 | h1
 · rw [h1]; decide
 · exact h b h1
theorem cut_yes_word (c : UInt8) (hc : c = 73 ∨ c = 74) (P r : List UInt8) (hP : ∀ b ∈ P, b = 91) (h3 : P.length ≤ 3) (hr : r.length ≤ 4611686018427387904) (w : World) :
   Calls Tryz.prog 51 #[.string ⟨⟨P ++ c :: r⟩⟩] w fun e w' => e = .returned (.tuple #[.string ⟨⟨P ++ [c]⟩⟩, .string ⟨⟨r⟩⟩, .bool true]) ∧ Below w.heap.size w w' := by
 have ht := fun w => trimLeft_lead P (c :: r) hP (by intro c' r' e; cases e; rcases hc with rfl | rfl <;> decide) w
 have HT := Hd ht
 clear ht hP
 rcases hc with rfl | rfl
 all_goals
   go_enter Tryz.func51, Tryz.ntmps51
   go_wp2_with fail
   refine (HT.out _).mono ?_
   rintro e w1 ⟨rfl, rfl⟩
   go_wp2_with fail
   go_region
   go_wp2_with fail
   go_ret3
   refine ⟨ret_cut (List.take_length_add_append 1) (List.take_of_length_le (by omega)), (Below.refl _ _).drew⟩
theorem cut_yes_class (n P r : List UInt8) (hn : nameOk n = true) (hP : ∀ b ∈ P, b = 91) (h3 : P.length ≤ 3) (hr : r.length ≤ 4611686018427387904) (w : World) :
   Calls Tryz.prog 51 #[.string ⟨⟨P ++ 76 :: (n ++ 59 :: r)⟩⟩] w fun e w' => e = .returned (.tuple #[.string ⟨⟨P ++ 76 :: (n ++ [59])⟩⟩, .string ⟨⟨r⟩⟩, .bool true]) ∧ Below w.heap.size w w' := by
 have ht := fun w => trimLeft_lead P (76 :: (n ++ 59 :: r)) hP (by intro c' r' e; cases e; decide) w
 have HT := Hd ht
 have hi := fun w => index59 (76 :: (n ++ 59 :: r)) ((n.length : Int) + 1) (by simpa using indexByte_at (76 :: n) r 59 (no59_cons (name_no59 hn))) w
 have HI := Hd hi
 have hl := name_len hn
 have hl1 := hl.1
 have hl2 := hl.2
 have HN : ∀ w, Hid (Calls Tryz.prog 35 #[.string ⟨⟨n⟩⟩] w fun e w' => e = .returned .nilIface ∧ Below w.heap.size w w') := fun w => name_ok ⟨⟨n⟩⟩ w hn
 clear ht hP hi hn hl
 have e1 : List.take (n.length + (r.length + 1)) (n ++ 59 :: r) = n ++ 59 :: r := List.take_of_length_le (by simp)
 go_enter Tryz.func51, Tryz.ntmps51
 go_wp2_with fail
 refine (HT.out _).mono ?_
 rintro e w1 ⟨rfl, rfl⟩
 go_wp2_with fail
 refine (HI.out _).mono ?_
 rintro e w1 ⟨rfl, rfl⟩
 go_wp2_with fail
 refine (HN _).out.mono ?_
 rintro e w1 ⟨rfl, hb⟩
 go_wp2_with fail
 go_region
 go_wp2_with fail
 go_ret3
 refine ⟨ret_cut ?_ ?_, hb.drew⟩
 · rw [show n.length + 1 + 1 = (76 :: (n ++ [59])).length by simp, List.take_length_add_append, show 76 :: (n ++ 59 :: r) = (76 :: (n ++ [59])) ++ r by simp, List.take_left]
 · rw [show P.length + (n.length + 1 + 1) = (P ++ (76 :: (n ++ [59]))).length by simp, show P ++ 76 :: (n ++ 59 :: r) = (P ++ (76 :: (n ++ [59]))) ++ r by simp, List.drop_left]
   exact List.take_of_length_le (by simp; omega)
theorem ret_cutno {b d : List UInt8} (h2 : b = d) : Ending.returned (.tuple #[.string ⟨#[]⟩, .string ⟨⟨b⟩⟩, .bool false]) = .returned (.tuple #[.string ⟨#[]⟩, .string ⟨⟨d⟩⟩, .bool false]) := by rw [h2]
def NoCut (l : List UInt8) (w : World) : Prop := Calls Tryz.prog 51 #[.string ⟨⟨l⟩⟩] w fun e w' => e = .returned (.tuple #[.string ⟨#[]⟩, .string ⟨⟨l⟩⟩, .bool false]) ∧ Below w.heap.size w w'
theorem cut_no_deep (P X : List UInt8) (hP : ∀ b ∈ P, b = 91) (hX : ∀ c r, X = c :: r → c ≠ 91) (hl : (P ++ X).length ≤ 4611686018427387904) (h3 : 3 < P.length) (w : World) : NoCut (P ++ X) w := by
 have ht := fun w => trimLeft_lead P X hP hX w
 have HT := Hd ht
 rw [List.length_append] at hl
 clear ht hP hX
 unfold NoCut
 go_enter Tryz.func51, Tryz.ntmps51
 go_wp2_with fail
 refine (HT.out _).mono ?_
 rintro e w1 ⟨rfl, rfl⟩
 go_wp2_with fail
 all_goals go_ret3
 all_goals exact ⟨ret_cutno rfl, Below.refl _ _⟩
theorem cut_no_nil (P : List UInt8) (hP : ∀ b ∈ P, b = 91) (h3 : P.length ≤ 3) (w : World) : NoCut P w := by
 have ht := fun w => trimLeft_lead P [] hP (by simp) w
 simp only [List.append_nil] at ht
 have HT := Hd ht
 clear ht hP
 unfold NoCut
 go_enter Tryz.func51, Tryz.ntmps51
 go_wp2_with fail
 refine (HT.out _).mono ?_
 rintro e w1 ⟨rfl, rfl⟩
 go_wp2_with fail
 all_goals go_ret3
 all_goals exact ⟨ret_cutno rfl, Below.refl _ _⟩
theorem cut_no_head (c : UInt8) (P r : List UInt8) (hP : ∀ b ∈ P, b = 91) (hc : c ≠ 91) (h3 : P.length ≤ 3) (hr : r.length ≤ 4611686018427387904) (c1 : c ≠ 73) (c2 : c ≠ 74) (c3 : c ≠ 76) (w : World) : NoCut (P ++ c :: r) w := by
 have ht := fun w => trimLeft_lead P (c :: r) hP (by intro c' r' e; cases e; exact hc) w
 have HT := Hd ht
 have d1 : ((c.toNat : Int) == 73) = false := by
   rw [beq_eq_false_iff_ne]; intro e; apply c1; apply UInt8.toNat_inj.1; exact Int.ofNat.inj e
 have d2 : ((c.toNat : Int) == 74) = false := by
   rw [beq_eq_false_iff_ne]; intro e; apply c2; apply UInt8.toNat_inj.1; exact Int.ofNat.inj e
 have d3 : ((c.toNat : Int) == 76) = false := by
   rw [beq_eq_false_iff_ne]; intro e; apply c3; apply UInt8.toNat_inj.1; exact Int.ofNat.inj e
 clear ht hP hc c1 c2 c3
 unfold NoCut
 go_enter Tryz.func51, Tryz.ntmps51
 go_wp2_with fail
 refine (HT.out _).mono ?_
 rintro e w1 ⟨rfl, rfl⟩
 go_wp2_with fail
 all_goals go_ret3
 all_goals exact ⟨ret_cutno rfl, Below.refl _ _⟩
theorem cut_no_open (P r : List UInt8) (hP : ∀ b ∈ P, b = 91) (h3 : P.length ≤ 3) (hr : r.length ≤ 4611686018427387904) (hn : ∀ b ∈ r, b ≠ 59) (w : World) : NoCut (P ++ 76 :: r) w := by
 have ht := fun w => trimLeft_lead P (76 :: r) hP (by intro c' r' e; cases e; decide) w
 have HT := Hd ht
 have hi := fun w => index59 (76 :: r) (-1) (indexByte_not _ 59 (no59_cons hn)) w
 have HI := Hd hi
 clear ht hP hn hi
 unfold NoCut
 go_enter Tryz.func51, Tryz.ntmps51
 go_wp2_with fail
 refine (HT.out _).mono ?_
 rintro e w1 ⟨rfl, rfl⟩
 go_wp2_with fail
 refine (HI.out _).mono ?_
 rintro e w1 ⟨rfl, rfl⟩
 go_wp2_with fail
 go_ret3
 exact ⟨ret_cutno rfl, Below.refl _ _⟩
theorem cut_no_name (n P r : List UInt8) (hn : nameOk n = false) (hs : ∀ b ∈ n, b ≠ 59) (hP : ∀ b ∈ P, b = 91) (h3 : P.length ≤ 3) (hl : n.length ≤ 4611686018427387904) (hr : r.length ≤ 4611686018427387904) (w : World) :
   NoCut (P ++ 76 :: (n ++ 59 :: r)) w := by
 have ht := fun w => trimLeft_lead P (76 :: (n ++ 59 :: r)) hP (by intro c' r' e; cases e; decide) w
 have HT := Hd ht
 have hi := fun w => index59 (76 :: (n ++ 59 :: r)) ((n.length : Int) + 1) (by simpa using indexByte_at (76 :: n) r 59 (no59_cons hs)) w
 have HI := Hd hi
 have HN : ∀ w, Hid (Calls Tryz.prog 35 #[.string ⟨⟨n⟩⟩] w fun e w' => e = .returned (errV 1) ∧ Below w.heap.size w w') := fun w => name_bad ⟨⟨n⟩⟩ w hn
 clear ht hP hi hn hs
 have e1 : List.take (n.length + (r.length + 1)) (n ++ 59 :: r) = n ++ 59 :: r := List.take_of_length_le (by simp)
 unfold NoCut
 go_enter Tryz.func51, Tryz.ntmps51
 go_wp2_with fail
 refine (HT.out _).mono ?_
 rintro e w1 ⟨rfl, rfl⟩
 go_wp2_with fail
 refine (HI.out _).mono ?_
 rintro e w1 ⟨rfl, rfl⟩
 go_wp2_with fail
 refine (HN _).out.mono ?_
 rintro e w1 ⟨rfl, hb⟩
 go_wp2_with fail
 go_ret3
 exact ⟨ret_cutno rfl, hb⟩
theorem cut_yes (t r : List UInt8) (ht : TypeOk t) (hr : r.length ≤ 4611686018427387904) (w : World) :
   Calls Tryz.prog 51 #[.string ⟨⟨t ++ r⟩⟩] w fun e w' => e = .returned (.tuple #[.string ⟨⟨t⟩⟩, .string ⟨⟨r⟩⟩, .bool true]) ∧ Below w.heap.size w w' := by
 obtain ⟨P, X, rfl, hP, h3, rfl | rfl | ⟨n, hn, rfl⟩⟩ := ht
 · have := cut_yes_word 73 (Or.inl rfl) P r hP h3 hr w
   simpa using this
 · have := cut_yes_word 74 (Or.inr rfl) P r hP h3 hr w
   simpa using this
 · have := cut_yes_class n P r hn hP h3 hr w
   simpa using this
theorem cut_no (l : List UInt8) (h : ∀ t r, l = t ++ r → ¬ TypeOk t) (hl : l.length ≤ 4611686018427387904) (w : World) : NoCut l w := by
 rcases cut_ways l with ⟨t, r, e, ht⟩ | ⟨P, X, rfl, hP, hX, hc⟩
 · exact absurd ht (h t r e)
 · rw [List.length_append] at hl
   rcases hc with h3 | ⟨h3, rfl⟩ | ⟨h3, c, r, rfl, c1, c2, c3⟩ | ⟨h3, r, rfl, hr⟩ | ⟨h3, n, r, rfl, hn, hb⟩
   · exact cut_no_deep P X hP hX (by rw [List.length_append]; exact hl) h3 w
   · rw [List.append_nil]; exact cut_no_nil P hP h3 w
   · exact cut_no_head c P r hP (hX c r rfl) h3 (by simp at hl; omega) c1 c2 c3 w
   · exact cut_no_open P r hP h3 (by simp at hl; omega) hr w
   · exact cut_no_name n P r hb hn hP h3 (by simp at hl; omega) (by simp at hl; omega) w
theorem check_ok (t : List UInt8) (h : TypeOk t) (w : World) : Calls Tryz.prog 44 #[.string ⟨⟨t⟩⟩] w fun e w' => e = .returned .nilIface ∧ Below w.heap.size w w' := by
 have hc := fun w => cut_yes t [] h (by simp) w
 simp only [List.append_nil] at hc
 have HC := Hd hc
 clear hc
 go_enter Tryz.func44, Tryz.ntmps44
 go_wp2_with fail
 refine (HC.out _).mono ?_
 rintro e w1 ⟨rfl, hb⟩
 go_wp2_with fail
 go_ret
 exact ⟨rfl, hb⟩
theorem check_bad (l : List UInt8) (h : ¬ TypeOk l) (hl : l.length ≤ 4611686018427387904) (w : World) : Calls Tryz.prog 44 #[.string ⟨⟨l⟩⟩] w fun e w' => e = .returned (errV 1) ∧ Below w.heap.size w w' := by
 by_cases hx : ∃ t r, l = t ++ r ∧ TypeOk t
 · obtain ⟨t, r, rfl, ht⟩ := hx
   cases r with
   | nil => rw [List.append_nil] at h; exact absurd ht h
   | cons x r =>
     simp only [List.length_append] at hl
     have hc := fun w => cut_yes t (x :: r) ht (by omega) w
     have HC := Hd hc
     clear hc h
     go_enter Tryz.func44, Tryz.ntmps44
     go_wp2_with fail
     refine (HC.out _).mono ?_
     rintro e w1 ⟨rfl, hb⟩
     go_wp2_with fail
     go_ret
     exact ⟨rfl, hb⟩
 · have hc := fun w => cut_no l (fun t r e ht => hx ⟨t, r, e, ht⟩) hl w
   unfold NoCut at hc
   have HC := Hd hc
   clear hc h
   go_enter Tryz.func44, Tryz.ntmps44
   go_wp2_with fail
   refine (HC.out _).mono ?_
   rintro e w1 ⟨rfl, hb⟩
   go_wp2_with fail
   go_ret
   exact ⟨rfl, hb⟩
theorem info_str : (Tryz.prog.info? 9).map (fun i => (i.zero, i.size, i.bytes)) = some (some (.string ByteArray.empty), 1, 16) := by kernel_rfl
abbrev strV (t : List UInt8) : Value := .string ⟨⟨t⟩⟩
theorem cutPrefix40_yes (s : List UInt8) (w : World) : Calls Tryz.prog 49 #[.string ⟨⟨40 :: s⟩⟩, .string ⟨#[40]⟩] w fun e w' => e = .returned (.tuple #[.string ⟨⟨s⟩⟩, .bool true]) ∧ w = w' := by
 have h := Tryz.strings_CutPrefix ⟨⟨40 :: s⟩⟩ ⟨#[40]⟩ w
 exact h.mono fun e w' ⟨h1, h2⟩ => ⟨by rw [h1]; rfl, h2.symm⟩
theorem cutPrefix40_no (m : List UInt8) (hm : ∀ s, m ≠ 40 :: s) (w : World) : Calls Tryz.prog 49 #[.string ⟨⟨m⟩⟩, .string ⟨#[40]⟩] w fun e w' => e = .returned (.tuple #[.string ⟨⟨m⟩⟩, .bool false]) ∧ w = w' := by
 have h := Tryz.strings_CutPrefix ⟨⟨m⟩⟩ ⟨#[40]⟩ w
 have hp : hasPrefix m [40] = false := by
   cases m with
   | nil => rfl
   | cons x r =>
     have : x ≠ 40 := fun e => hm r (by rw [e])
     simp [hasPrefix, List.isPrefixOf, this.symm]
 refine h.mono fun e w' ⟨h1, h2⟩ => ⟨?_, h2.symm⟩
 rw [h1]
 simp only [trimPrefix, hp]
 rfl
theorem hasPrefix41_yes (s : List UInt8) (w : World) : Calls Tryz.prog 50 #[.string ⟨⟨41 :: s⟩⟩, .string ⟨#[41]⟩] w fun e w' => e = .returned (.bool true) ∧ w = w' := by
 have h := Tryz.strings_HasPrefix ⟨⟨41 :: s⟩⟩ ⟨#[41]⟩ w
 exact h.mono fun e w' ⟨h1, h2⟩ => ⟨by rw [h1]; rfl, h2.symm⟩
theorem pre41_no {m : List UInt8} (hm : ∀ s, m ≠ 41 :: s) : hasPrefix m [41] = false := by
 cases m with
 | nil => rfl
 | cons x r =>
   have : x ≠ 41 := fun e => hm r (by rw [e])
   simp [hasPrefix, List.isPrefixOf, this.symm]
theorem hasPrefix41_no (m : List UInt8) (hm : ∀ s, m ≠ 41 :: s) (w : World) : Calls Tryz.prog 50 #[.string ⟨⟨m⟩⟩, .string ⟨#[41]⟩] w fun e w' => e = .returned (.bool false) ∧ w = w' := by
 have h := Tryz.strings_HasPrefix ⟨⟨m⟩⟩ ⟨#[41]⟩ w
 refine h.mono fun e w' ⟨h1, h2⟩ => ⟨?_, h2.symm⟩
 rw [h1, show hasPrefix (⟨⟨m⟩⟩ : ByteArray).data.toList (⟨#[41]⟩ : ByteArray).data.toList = false from pre41_no hm]
theorem trimPrefix41_yes (s : List UInt8) (w : World) : Calls Tryz.prog 52 #[.string ⟨⟨41 :: s⟩⟩, .string ⟨#[41]⟩] w fun e w' => e = .returned (.string ⟨⟨s⟩⟩) ∧ w = w' := by
 have h := Tryz.strings_TrimPrefix ⟨⟨41 :: s⟩⟩ ⟨#[41]⟩ w
 exact h.mono fun e w' ⟨h1, h2⟩ => ⟨by rw [h1]; rfl, h2.symm⟩
theorem trimPrefix41_any (m : List UInt8) (w : World) : Calls Tryz.prog 52 #[.string ⟨⟨m⟩⟩, .string ⟨#[41]⟩] w fun e w' => (∃ g, e = .returned (.string ⟨⟨g⟩⟩)) ∧ w = w' := by
 have h := Tryz.strings_TrimPrefix ⟨⟨m⟩⟩ ⟨#[41]⟩ w
 exact h.mono fun e w' ⟨h1, h2⟩ => ⟨⟨_, h1⟩, h2.symm⟩
def strLen : Value → Nat | .string s => s.size | _ => 0
def bit : Value → Nat | .bool true => 1 | _ => 0
def ReadRel (s : List UInt8) (B : Nat) (w : World) (rest : List UInt8) (b : Bool) (v : Value) (wr : World) : Prop :=
 Below B w wr ∧ ∃ A : List (List UInt8), wr.ownsRow B 9 1 v A.length (A.map strV) ∧ (∀ t ∈ A, TypeOk t) ∧ s = A.flatten ++ rest ∧ (b = false → (∀ t r, rest = t ++ r → ¬ TypeOk t) ∧ ∀ g, rest ≠ 41 :: g)
def MethRes (m : List UInt8) (w : World) (e : Ending) (w' : World) : Prop :=
 Below w.heap.size w w' ∧ ((e = .returned (.tuple #[.slice none 0 0, .string ⟨#[]⟩, errV 1]) ∧ ∀ A g, ¬ MethodOk m A g) ∨
   ∃ v A g, e = .returned (.tuple #[v, .string ⟨⟨g⟩⟩, .nilIface]) ∧ MethodOk m A g ∧ w'.ownsRow w.heap.size 9 1 v A.length (A.map strV))
theorem method_noopen (m : List UInt8) (hm : ∀ s, m ≠ 40 :: s) (w : World) : Calls Tryz.prog 22 #[.string ⟨⟨m⟩⟩] w fun e w' => MethRes m w e w' := by
 have HC := Hd (fun w => cutPrefix40_no m hm w)
 have HM := Hd hm
 clear hm
 go_enter Tryz.func22, Tryz.ntmps22
 go_wp2_with fail
 refine (HC.out _).mono ?_
 rintro e w1 ⟨rfl, rfl⟩
 go_wp2_with fail
 refine wp_loop_rounds 1 ?_
 rw [rounds_succ]
 go_wp2_with fail
 refine (trimPrefix41_any m _).mono ?_
 rintro e w1 ⟨⟨g, rfl⟩, rfl⟩
 go_wp2_with fail
 go_ret3
 exact ⟨Below.refl _ _, Or.inl ⟨rfl, method_open HM.out⟩⟩
theorem read_step {s rest t r : List UInt8} {B : Nat} {w wr w1 w2 : World} {v v' : Value} {o : Obj} {A : List (List UInt8)} (hB : B ≤ wr.heap.size) (hw : Below B w wr) (hb1 : Below wr.heap.size wr w1) (ht : TypeOk t) (hA : ∀ t ∈ A, TypeOk t) (hs : s = A.flatten ++ rest) (hr : rest = t ++ r)
   (hown : w2.ownsRow B 9 1 v' (A.length + 1) (A.map strV ++ [strV t])) (hrow : ∀ j, v.ownBlock = some j → B ≤ j) (hg : (w1.alloc o).grownBy w2 v.ownBlock) : ReadRel s B w r true v' w2 := by
 refine ⟨((hw.trans (hb1.mono hB)).alloc (by have := hb1.size; omega) o).grown hg (by simp; have := hb1.size; omega) hrow, A ++ [t], ?_, ?_, ?_, by simp⟩
 · simpa using hown
 · intro x hx
   rcases List.mem_append.1 hx with h | h
   · exact hA x h
   · simp at h; rw [h]; exact ht
 · rw [hs, hr]; simp
theorem method_open_calls (s : List UInt8) (hl : s.length ≤ 8388608) (w : World) : Calls Tryz.prog 22 #[.string ⟨⟨40 :: s⟩⟩] w fun e w' => MethRes (40 :: s) w e w' := by
 obtain ⟨i0, hi, hz0, hz1, hz2⟩ := info_parts info_str
 have HC := Hd (fun w => cutPrefix40_yes s w)
 obtain ⟨B, hB⟩ : ∃ B, B = w.heap.size := ⟨_, rfl⟩
 have HB := Hd hB
 clear hB
 go_enter Tryz.func22, Tryz.ntmps22
 go_wp2_with fail
 refine (HC.out _).mono ?_
 rintro e w1 ⟨rfl, rfl⟩
 go_wp2_with fail
 go_loopw [5, 6, 7] (fun x y v wr => ∃ (rest : List UInt8) (b : Bool), x = .string ⟨⟨rest⟩⟩ ∧ y = .bool b ∧ ReadRel s B w rest b v wr) (fun x y _ _ => 2 * strLen x + bit y)
 case atStart => exact ⟨s, true, rfl, rfl, Below.refl _ _, [], by simpa using World.ownsRow_nil w B _ 1, by simp, by simp, by simp⟩
 case round =>
   obtain ⟨rest, b, rfl, rfl, hrel⟩ := hrel
   obtain ⟨hw, A, hown, hA, hs, hb⟩ := hrel
   have hAl := types_len A hA
   have hln := congrArg List.length hs
   rw [List.length_append] at hln
   have hr1 : rest.length ≤ 8388608 := by omega
   have ha1 : A.length ≤ 8388608 := by omega
   have HW := Hd hw
   have HA := Hd hA
   have HS := Hd hs
   have HBB := Hd hb
   clear hw hA hs hb hAl hln
   cases b with
   | false =>
     go_wp2_with fail
     refine (trimPrefix41_any rest _).mono ?_
     rintro e w1 ⟨⟨g, rfl⟩, rfl⟩
     go_wp2_with fail
     go_ret3
     have h := HB.out
     subst h
     exact ⟨HW.out, Or.inl ⟨rfl, method_none HA.out HS.out (HBB.out trivial).1 (HBB.out trivial).2⟩⟩
   | true =>
     by_cases h41 : ∃ g, rest = 41 :: g
     · obtain ⟨g, rfl⟩ := h41
       clear HBB
       simp only [List.length_cons] at hr1
       have HH := Hd (fun w => hasPrefix41_yes g w)
       have HT := Hd (fun w => trimPrefix41_yes g w)
       by_cases h5 : 5 < A.length
       · go_wp2_with fail
         refine (HH.out _).mono ?_
         rintro e w1 ⟨rfl, rfl⟩
         go_wp2_with fail
         refine (HT.out _).mono ?_
         rintro e w1 ⟨rfl, rfl⟩
         obtain ⟨C, hv⟩ : ∃ C : Option Addr × Nat, u7 = .slice C.1 A.length C.2 := by
           rcases hown.2 with ⟨h, h0⟩ | ⟨g2, c2, _, h, _⟩
           · omega
           · exact ⟨(some ⟨g2, 0, none⟩, c2), h⟩
         subst hv
         go_wp2_with fail
         go_ret3
         have h := HB.out
         subst h
         exact ⟨HW.out, Or.inl ⟨rfl, method_wrong HA.out HS.out (Or.inl h5)⟩⟩
       · obtain ⟨C, hv⟩ : ∃ C : Option Addr × Nat, u7 = .slice C.1 A.length C.2 := by
           rcases hown.2 with ⟨h, h0⟩ | ⟨g2, c2, _, h, _⟩
           · exact ⟨(none, 0), by rw [h, h0]⟩
           · exact ⟨(some ⟨g2, 0, none⟩, c2), h⟩
         have HO := Hd hown
         clear hown
         subst hv
         by_cases hV : g = [86]
         · subst hV
           go_wp2_with fail
           refine (HH.out _).mono ?_
           rintro e w1 ⟨rfl, rfl⟩
           go_wp2_with fail
           refine (HT.out _).mono ?_
           rintro e w1 ⟨rfl, rfl⟩
           go_wp2_with fail
           go_ret3
           have h := HB.out
           subst h
           exact ⟨HW.out, Or.inr ⟨_, A, [86], rfl, ⟨by rw [HS.out], HA.out, by omega, Or.inl rfl⟩, HO.out⟩⟩
         · have hq : (g == [86]) = false := by rw [beq_eq_false_iff_ne]; exact hV
           by_cases hg : TypeOk g
           · have HK := Hd (fun w => check_ok g hg w)
             have HG := Hd hg
             have HVV := Hd hV
             clear hg
             go_wp2_with fail
             refine (HH.out _).mono ?_
             rintro e w1 ⟨rfl, rfl⟩
             go_wp2_with fail
             refine (HT.out _).mono ?_
             rintro e w1 ⟨rfl, rfl⟩
             go_wp2_with fail
             refine (HK.out _).mono ?_
             rintro e w1 ⟨rfl, hb1⟩
             go_wp2_with fail
             go_ret3
             have h := HB.out
             subst h
             have hown1 : w1.ownsRow w.heap.size 9 1 (.slice C.1 A.length C.2) A.length (A.map strV) := HO.out.kept (row := none) ⟨hb1.os, hb1.tape, hb1.output, hb1.size, fun k hk _ => hb1.block k hk⟩ (by cases hv : Value.ownBlock (.slice C.1 A.length C.2) <;> simp)
             exact ⟨HW.out.trans (hb1.mono HW.out.size), Or.inr ⟨_, A, g, rfl, ⟨by rw [HS.out], HA.out, by omega, Or.inr HG.out⟩, hown1⟩⟩
           · have HK := Hd (fun w => check_bad g hg (by omega) w)
             have HG := Hd hg
             have HVV := Hd hV
             clear hg
             go_wp2_with fail
             refine (HH.out _).mono ?_
             rintro e w1 ⟨rfl, rfl⟩
             go_wp2_with fail
             refine (HT.out _).mono ?_
             rintro e w1 ⟨rfl, rfl⟩
             go_wp2_with fail
             refine (HK.out _).mono ?_
             rintro e w1 ⟨rfl, hb1⟩
             go_wp2_with fail
             go_ret3
             have h := HB.out
             subst h
             have hown1 : w1.ownsRow w.heap.size 9 1 (.slice C.1 A.length C.2) A.length (A.map strV) := HO.out.kept (row := none) ⟨hb1.os, hb1.tape, hb1.output, hb1.size, fun k hk _ => hb1.block k hk⟩ (by cases hv : Value.ownBlock (.slice C.1 A.length C.2) <;> simp)
             exact ⟨HW.out.trans (hb1.mono HW.out.size), Or.inl ⟨rfl, method_wrong HA.out HS.out (Or.inr (fun h => h.elim (fun e => HVV.out e) (fun e => HG.out e)))⟩⟩
     · have h41' : ∀ g, rest ≠ 41 :: g := fun g e => h41 ⟨g, e⟩
       have HH := Hd (fun w => hasPrefix41_no rest h41' w)
       have H41 := Hd h41'
       clear h41 h41' HBB
       by_cases hc : ∃ t r, rest = t ++ r ∧ TypeOk t
       · obtain ⟨t, r, rfl, ht⟩ := hc
         rw [List.length_append] at hr1
         have HCU := Hd (fun w => cut_yes t r ht (by omega) w)
         have hpos := type_pos ht
         have HT := Hd ht
         clear ht
         go_wp2_with fail
         refine (HH.out _).mono ?_
         rintro e w1 ⟨rfl, rfl⟩
         go_wp2_with fail
         refine (HCU.out _).mono ?_
         rintro e w1 ⟨rfl, hb1⟩
         have hown1 : w1.ownsRow B 9 1 u7 A.length (A.map strV) := hown.kept (row := none) ⟨hb1.os, hb1.tape, hb1.output, hb1.size, fun k hk _ => hb1.block k hk⟩ (by cases hv : Value.ownBlock u7 <;> simp)
         have hs1 : B ≤ w1.heap.size := by have := hb1.size; have := HW.out.size; have := HB.out; omega
         have HB1 := Hd hb1
         clear hb1 hown
         go_wp2_with (at_builtin; refine wpList_append_own _ rfl _ _ 35 rfl B 9 i0 (.string ByteArray.empty) 1 16 Tryz.underlying35 hi hz0 hz1 hz2 rfl (by decide) _ _ _ rfl (hown1.alloc _) ⟨w1.heap.size, 0, none⟩ 1 1 [strV t] rfl rfl ?c1 ?c2 ?c3 ?c4 ?c5 ?_)
         case c1 => exact fun j v hj => new_cells w1 [strV t] 9 j v hj
         case c2 => intro x hx; simp only [List.mem_cons, List.mem_nil_iff, or_false] at hx; rcases hx with rfl; rfl
         case c3 => unfold maxLen; omega
         case c4 => omega
         case c5 => simp; omega
         intro v' w2 ho hg _
         have HN := Hd (read_step (by have := HW.out.size; have := HB.out; omega) HW.out HB1.out HT.out HA.out HS.out rfl ho (fun j hj => (hown1.lt j hj).1) hg)
         clear ho hg hown1 HW HA HS HT HB1 HH HCU H41
         go_wp2_with fail
         go_roundw
         case rel => exact ⟨r, true, rfl, rfl, HN.out⟩
         case measure =>
           simp [strLen, bit, ByteArray.size]
           omega
       · have hc' : ∀ t r, rest = t ++ r → ¬ TypeOk t := fun t r e h => hc ⟨t, r, e, h⟩
         have hcu := fun w => cut_no rest hc' (by omega) w
         unfold NoCut at hcu
         have HCU := Hd hcu
         have HCC := Hd hc'
         clear hcu hc hc'
         have HO := Hd hown
         clear hown
         go_wp2_with fail
         refine (HH.out _).mono ?_
         rintro e w1 ⟨rfl, rfl⟩
         go_wp2_with fail
         refine (HCU.out _).mono ?_
         rintro e w1 ⟨rfl, hb1⟩
         have hown1 : w1.ownsRow B 9 1 u7 A.length (A.map strV) := HO.out.kept (row := none) ⟨hb1.os, hb1.tape, hb1.output, hb1.size, fun k hk _ => hb1.block k hk⟩ (by cases hv : Value.ownBlock u7 <;> simp)
         have HN : Hid (ReadRel s B w rest false u7 w1) := ⟨HW.out.trans (hb1.mono (by have := HW.out.size; have := HB.out; omega)), A, hown1, HA.out, HS.out, fun _ => ⟨HCC.out, H41.out⟩⟩
         clear hb1 hown1 HW HA HS HH HCU HCC HO H41
         go_wp2_with fail
         go_roundw
         case rel => exact ⟨rest, false, rfl, rfl, HN.out⟩
         case measure => simp [strLen, bit]
theorem method_calls (m : List UInt8) (hl : m.length ≤ 8388608) (w : World) : Calls Tryz.prog 22 #[.string ⟨⟨m⟩⟩] w fun e w' => MethRes m w e w' := by
 by_cases h : ∃ s, m = 40 :: s
 · obtain ⟨s, rfl⟩ := h
   exact method_open_calls s (by simp at hl; omega) w
 · exact method_noopen m (fun s e => h ⟨s, e⟩) w
def SRow (w : World) (a : Option Addr) (cap : Nat) (A : List (List UInt8)) : Prop :=
 A.length ≤ cap ∧ (A = [] ∨ ∃ b off, a = some ⟨b, off, none⟩ ∧ b < w.heap.size ∧ ∀ j x, A[j]? = some x → w.cell? ⟨b, off + j, none⟩ = some (strV x))
theorem SRow.below {w w' : World} {a : Option Addr} {cap : Nat} {A : List (List UInt8)} (h : SRow w a cap A) (hb : Below w.heap.size w w') : SRow w' a cap A := by
 obtain ⟨h1, h2 | ⟨b, off, rfl, hlt, hc⟩⟩ := h
 · exact ⟨h1, Or.inl h2⟩
 · exact ⟨h1, Or.inr ⟨b, off, rfl, Nat.lt_of_lt_of_le hlt hb.size, fun j x hx => by rw [hb.cell (p := ⟨b, off + j, none⟩) hlt]; exact hc j x hx⟩⟩
theorem srow_of_own {w : World} {B : Nat} {v : Value} {A : List (List UInt8)} (h : w.ownsRow B 9 1 v A.length (A.map strV)) : ∃ a cap, v = .slice a A.length cap ∧ SRow w a cap A := by
 rcases h.2 with ⟨rfl, h0⟩ | ⟨g, cap, cur, rfl, _, hg, hle, _, _, _⟩
 · exact ⟨none, 0, by rw [h0], by omega, Or.inl (List.eq_nil_of_length_eq_zero h0)⟩
 · refine ⟨_, cap, rfl, hle, Or.inr ⟨g, 0, rfl, (Array.getElem?_eq_some_iff.1 hg).1, fun j x hx => ?_⟩⟩
   have := h.cells (g := g) rfl j (strV x) (by rw [List.getElem?_map, hx]; rfl)
   have e : (⟨g, 0, none⟩ : Addr).add j = ⟨g, j, none⟩ := by unfold Addr.add; split <;> simp_all
   rw [e] at this
   rw [Nat.zero_add]; exact this
end Go.Proofs.YtddbnboicmaooaaGreatDoor
