import Derived.Test.YtbnkckjdgpiggaaGreatDoorPlain
import Derived.Test.YtbnkckjdgpiggaaGreatDoorShelf
import Derived.Test.YtbnkckjdgpiggaaGreatDoorRows
import Derived.WalkSpells
import Derived.WalkLawsBesides
import Derived.Shelf.Strings.SlTrimAscii
import Derived.Lib.Hide
import Derived.Handy
import Derived.Lib.IfaceNeq
import Derived.Laws.AppendOwnNone
import Derived.Deep.Onto
namespace Go.Proofs.YtbnkckjdgpiggaaGreatDoor
set_option maxRecDepth 100000
set_option maxHeartbeats 16000000
set_option linter.unusedVariables false
set_option linter.unusedSimpArgs false
open Go.RowKit Go.Shelf Go.Lib
theorem Hq {p : Prop} (h : p) : Go.RowKit.Hid p := h
abbrev zby (n : Int) : Value := .iface 31 (.int .i64 n)
theorem zc {a b c : World} (h : Below a.heap.size a b) (k : Below b.heap.size b c) : Below a.heap.size a c := h.trans (k.mono h.size)
theorem ze {a w : World} (h : Below a.heap.size a w) (o : Obj) : Below a.heap.size a (w.alloc o) := h.alloc h.size o
theorem zdj (W : World) (cs : List Value) (t : TypeId) (j : Nat) (u : Value) (h : cs[j]? = some u) : (W.alloc (.cells cs.toArray t)).cell? ((⟨W.heap.size, 0, none⟩ : Addr).add j) = some u := by
 have e : (⟨W.heap.size, 0, none⟩ : Addr).add j = ⟨W.heap.size, j, none⟩ := by unfold Addr.add; split <;> simp_all
 rw [e, World.cell?_alloc_new]
 simpa using h
theorem zaa {a b : Bool} (h : a = b) : Ending.returned (.bool a) = .returned (.bool b) := by rw [h]
@[go_sem] theorem run_eql_errno (w : World) (a b : Int) : (binOp .eql 28 (.iface 31 (.int .i64 a)) (.iface 31 (.int .i64 b))).run Tryz.prog w = .ok (.bool (a == b)) w :=
 Lib.run_eql_iface_int w a b Tryz.underlying28 (by kernel_rfl) Tryz.underlying31
@[go_sem] theorem run_neq_errno (w : World) (a b : Int) : (binOp .neq 28 (.iface 31 (.int .i64 a)) (.iface 31 (.int .i64 b))).run Tryz.prog w = .ok (.bool (!(a == b))) w :=
 Lib.run_neq_iface_int w a b Tryz.underlying28 (by kernel_rfl) Tryz.underlying31
theorem zfy (s : ByteArray) (w : World) (hs : s.size <= 9223372036854775807) :
   Calls Tryz.prog 112 #[.string s, .string ⟨#[97, 98, 99, 100, 101, 102, 103, 104, 105, 106, 107, 108, 109, 110, 111, 112, 113, 114, 115, 116, 117, 118, 119, 120, 121, 122, 65, 66, 67, 68, 69, 70, 71, 72, 73, 74, 75, 76, 77, 78, 79, 80, 81, 82, 83, 84, 85, 86, 87, 88, 89, 90, 95, 48, 49, 50, 51, 52, 53, 54, 55, 56, 57]⟩] w fun e w' => e = .returned (.string ⟨(trimS s.data.toList zd0).toArray⟩) /\ Below w.heap.size w w' := by
 exact Any.strings_Trim_laid Tryz.lays160 (by kernel_rfl) s ⟨#[97, 98, 99, 100, 101, 102, 103, 104, 105, 106, 107, 108, 109, 110, 111, 112, 113, 114, 115, 116, 117, 118, 119, 120, 121, 122, 65, 66, 67, 68, 69, 70, 71, 72, 73, 74, 75, 76, 77, 78, 79, 80, 81, 82, 83, 84, 85, 86, 87, 88, 89, 90, 95, 48, 49, 50, 51, 52, 53, 54, 55, 56, 57]⟩ w hs (by decide) (ascii_of_all (by decide))
theorem zo7 (s : ByteArray) (w : World) (h : zr s.data.toList = true) :
   Calls Tryz.prog 64 #[.string s] w fun e w' => e = .returned .nilIface /\ Below w.heap.size w w' := by
 obtain ⟨b, r, hl, h20, htr, hd⟩ := zss h
 obtain ⟨⟨l⟩⟩ := s
 simp only at hl
 subst hl
 simp only [List.length_cons] at h20
 have hcon := zfy ⟨⟨b :: r⟩⟩ w (by simp [ByteArray.size]; omega)
 simp only [htr] at hcon
 have hix := Tryz.strings_IndexByte ⟨⟨zl8⟩⟩ b.toNat
 have hdi := zmq b
 rw [hd] at hdi
 simp only [decide_eq_false_iff_not] at hdi
 have HI := Hq hix
 have HC := Hq hcon
 clear hix hcon htr h
 go_enter Tryz.func64, Tryz.ntmps64
 go_wp2_with fail
 refine HC.out.mono ?_
 rintro e w1 ⟨rfl, hb⟩
 go_wp2_with fail
 refine (HI.out _).mono ?_
 rintro e w2 ⟨rfl, rfl⟩
 go_wp2_with fail
 go_ret
 exact ⟨rfl, hb⟩
theorem zks (s : ByteArray) (w : World) (h : zr s.data.toList = false) :
   Calls Tryz.prog 64 #[.string s] w fun e w' => e = .returned (zby 1) /\ Below w.heap.size w w' := by
 rcases zpz h with h | h | ⟨b, r, hl, h20, htr⟩ | ⟨b, r, hl, h20, htr, hd⟩
 . obtain ⟨⟨l⟩⟩ := s
   simp only at h
   subst h
   go_enter Tryz.func64, Tryz.ntmps64
   go_wp2
   go_ret
   exact ⟨rfl, Below.refl _ _⟩
 . have hne : s.data.toList = [] -> False := by intro e; rw [e] at h; simp at h
   have hz : 20 < s.size := by
     have e : s.size = s.data.toList.length := Array.length_toList.symm
     omega
   go_enter Tryz.func64, Tryz.ntmps64
   go_wp2_with fail
   all_goals go_ret
   all_goals exact ⟨rfl, Below.refl _ _⟩
 . obtain ⟨⟨l⟩⟩ := s
   simp only at hl
   subst hl
   simp only [List.length_cons] at h20
   have hcon := zfy ⟨⟨b :: r⟩⟩ w (by simp [ByteArray.size]; omega)
   obtain ⟨x, y, hxy⟩ : ∃ x y, trimS (b :: r) zd0 = x :: y := by
     cases hh : trimS (b :: r) zd0 with
     | nil => exact absurd hh htr
     | cons x y => exact ⟨x, y, rfl⟩
   simp only [hxy] at hcon
   have HC := Hq hcon
   clear hcon htr h hxy
   go_enter Tryz.func64, Tryz.ntmps64
   go_wp2_with fail
   refine HC.out.mono ?_
   rintro e w1 ⟨rfl, hb⟩
   go_wp2_with fail
   go_ret
   exact ⟨rfl, hb⟩
 . obtain ⟨⟨l⟩⟩ := s
   simp only at hl
   subst hl
   simp only [List.length_cons] at h20
   have hcon := zfy ⟨⟨b :: r⟩⟩ w (by simp [ByteArray.size]; omega)
   simp only [htr] at hcon
   have hix := Tryz.strings_IndexByte ⟨⟨zl8⟩⟩ b.toNat
   have hdi := zmq b
   rw [hd] at hdi
   simp only [decide_eq_true_eq] at hdi
   have HI := Hq hix
   have HC := Hq hcon
   clear hix hcon htr h
   go_enter Tryz.func64, Tryz.ntmps64
   go_wp2_with fail
   refine HC.out.mono ?_
   rintro e w1 ⟨rfl, hb⟩
   go_wp2_with fail
   refine (HI.out _).mono ?_
   rintro e w2 ⟨rfl, rfl⟩
   go_wp2_with fail
   go_ret
   exact ⟨rfl, hb⟩
theorem z5r {W w1 : World} (hb : Below W.heap.size W w1) : (∀ b o, b < W.heap.size -> w1.cell? ⟨b, o, none⟩ = W.cell? ⟨b, o, none⟩) /\ (∀ b o, b < W.heap.size -> w1.frozen? ⟨b, o, none⟩ = W.frozen? ⟨b, o, none⟩) :=
 ⟨fun b o h => hb.cell (p := ⟨b, o, none⟩) h, fun b o h => hb.frozen (p := ⟨b, o, none⟩) h⟩
theorem zq {w w1 : World} {o : Obj} (h : Below (w.alloc o).heap.size (w.alloc o) w1) : Below w.heap.size w w1 := ((Below.refl _ _).alloc (Nat.le_refl _) o).trans (h.mono (by simp))
def zi3 (w : World) (size : Nat) (x : Value) (m : Nat) (news : List Value) : Prop :=
 news.length = m * size /\ (∀ u ∈ news, u.oneCell' = true) /\ ((x = .slice none 0 0 /\ m = 0) \/ ∃ ad c, x = .slice (some ad) m c /\ ∀ j u, news[j]? = some u -> w.cell? (ad.add j) = some u)
theorem zjy {P : Program} {w : World} {ops : Array Oper} {rest : List Oper} {o : Oper} {a : Act} {Q : Exit -> Act -> World -> Prop} (hgd : o.guard = none) (s x : Operand) (t : TypeId)
   (ho : o.op = .call { callee := .builtin .append, args := #[s, x], argTypes := #[t, t] })
   (base : Nat) (e : TypeId) (i : TypeInfo) (z : Value) (size bytes : Nat) (ht : P.underlying t = some (.slice e)) (hi : P.info? e = some i) (hz : i.zero = some z)
   (hsize : i.size = size) (hby : i.bytes = bytes) (hzs : z.cells.size = size) (hsz : 0 < size)
   (v : Value) (n : Nat) (xs : List Value) (hs : a.eval s = v) (hown : w.ownsRow base e size v n xs)
   (xv : Value) (m : Nat) (news : List Value) (hx : a.eval x = xv) (hsrc : zi3 w size xv m news)
   (h63 : n + m <= maxLen) (hbytes : (n + m) * bytes <= 140737488355328) (hbase : base <= w.heap.size)
   (h : ∀ v' w', w'.ownsRow base e size v' (n + m) (xs ++ news) -> w.grownBy w' v.ownBlock -> wpList P ops Q rest (a.put o.dst v') w') : wpList P ops Q (o :: rest) a w := by
 obtain ⟨hl, h1, ⟨rfl, rfl⟩ | ⟨ad, c, rfl, hc⟩⟩ := hsrc
 . have hn : news = [] := List.eq_nil_of_length_eq_zero (by simpa using hl)
   subst hn
   exact wpList_append_own_none hgd s x t ho base e i size ht hi v n xs hs hown hx (h v w (by simpa using hown) ⟨rfl, rfl, rfl, Nat.le_refl _, fun _ _ _ => rfl⟩)
 . exact wpList_append_own w hgd s x t ho base e i z size bytes ht hi hz hsize hby hzs hsz v n xs hs hown ad m c news hx hl hc h1 h63 hbytes hbase (fun v' w' h2 h3 _ => h v' w' h2 h3)
theorem zi3.moved {w w' : World} {size : Nat} {x : Value} {m : Nat} {news : List Value} (h : zi3 w size x m news) (hb : ∀ k, x.ownBlock = some k -> w'.heap[k]? = w.heap[k]?) : zi3 w' size x m news := by
 obtain ⟨h1, h2, h3 | ⟨ad, c, rfl, hc⟩⟩ := h
 . exact ⟨h1, h2, Or.inl h3⟩
 . refine ⟨h1, h2, Or.inr ⟨ad, c, rfl, fun j u hj => ?_⟩⟩
   have e : (ad.add j).block = ad.block := by unfold Addr.add; split <;> rfl
   rw [World.cell?_of_block (w := w) (by rw [e]; exact hb ad.block rfl)]
   exact hc j u hj
structure zld (P : Program) (t e : TypeId) (size bytes : Nat) : Prop where
 slice : P.underlying t = some (.slice e)
 info : ∃ i z, P.info? e = some i /\ i.zero = some z /\ i.size = size /\ i.bytes = bytes /\ z.cells.size = size
 pos : 0 < size
theorem zld.mk' {P : Program} {t e : TypeId} {size bytes : Nat} {z : Value} (h : P.underlying t = some (.slice e)) (hi : (P.info? e).map (fun i => (i.zero, i.size, i.bytes)) = some (some z, size, bytes)) (hz : z.cells.size = size) (hp : 0 < size) : zld P t e size bytes := by
 refine ⟨h, ?_, hp⟩
 cases hh : P.info? e with
 | none => rw [hh] at hi; cases hi
 | some i =>
   rw [hh] at hi
   simp only [Option.map_some, Option.some.injEq, Prod.mk.injEq] at hi
   exact ⟨i, z, rfl, hi.1, hi.2.1, hi.2.2, hz⟩
theorem zt {P : Program} {W : World} {t e : TypeId} {size bytes : Nat} (T : zld P t e size bytes) {ops : Array Oper} {rest : List Oper} {o : Oper} {a : Act} {Q : Exit -> Act -> World -> Prop} (hgd : o.guard = none) (s x : Operand)
   (ho : o.op = .call { callee := .builtin .append, args := #[s, x], argTypes := #[t, t] }) (B : Nat) (v : Value) (n : Nat) (xs : List Value) (hs : a.eval s = v) (hown : W.ownsRow B e size v n xs)
   (ys : List Value) (hy : ys.length = size) (h1 : ∀ u ∈ ys, u.oneCell' = true) (g : Nat) (hx : a.eval x = .slice (some ⟨g, 0, none⟩) 1 1) (hg : g = W.heap.size) (hn : n + 1 <= 1000000000) (hb : (n + 1) * bytes <= 140737488355328) (hB : B <= W.heap.size)
   (h : ∀ v' w', w'.ownsRow B e size v' (n + 1) (xs ++ ys) -> (W.alloc (.cells ys.toArray e)).grownBy w' v.ownBlock -> wpList P ops Q rest (a.put o.dst v') w') :
   wpList P ops Q (o :: rest) a (W.alloc (.cells ys.toArray e)) := by
 subst hg
 obtain ⟨i, z, hi, hz, hsz, hby, hzs⟩ := T.info
 exact wpList_append_own _ hgd s x t ho B e i z size bytes T.slice hi hz hsz hby hzs T.pos v n xs hs (hown.alloc _) ⟨W.heap.size, 0, none⟩ 1 1 ys hx (by omega) (fun j u hj => zdj W ys e j u hj) h1 (by unfold maxLen; omega) hb (by simp; omega)
   (fun v' w' h2 h3 _ => h v' w' h2 h3)
theorem zj2 {P : Program} {W : World} {t e : TypeId} {size bytes : Nat} (T : zld P t e size bytes) {ops : Array Oper} {rest : List Oper} {o : Oper} {a : Act} {Q : Exit -> Act -> World -> Prop} (hgd : o.guard = none) (s x : Operand)
   (ho : o.op = .call { callee := .builtin .append, args := #[s, x], argTypes := #[t, t] }) (B : Nat) (v : Value) (n : Nat) (xs : List Value) (hs : a.eval s = v) (hown : W.ownsRow B e size v n xs)
   (xv : Value) (m : Nat) (news : List Value) (hx : a.eval x = xv) (hsrc : zi3 W size xv m news) (hn : n + m <= 1000000000) (hb : (n + m) * bytes <= 140737488355328) (hB : B <= W.heap.size)
   (h : ∀ v' w', w'.ownsRow B e size v' (n + m) (xs ++ news) -> W.grownBy w' v.ownBlock -> wpList P ops Q rest (a.put o.dst v') w') :
   wpList P ops Q (o :: rest) a W := by
 obtain ⟨i, z, hi, hz, hsz, hby, hzs⟩ := T.info
 exact zjy hgd s x t ho B e i z size bytes T.slice hi hz hsz hby hzs T.pos v n xs hs hown xv m news hx hsrc (by unfold maxLen; omega) hb hB h
theorem zbg {W w' : World} {o : Obj} {B : Nat} {v : Value} {e : TypeId} {size n : Nat} {xs : List Value} (hB : B <= W.heap.size) (hown : W.ownsRow B e size v n xs) (hg : (W.alloc o).grownBy w' v.ownBlock) : Below B W w' :=
 ((Below.refl B W).alloc hB o).grown hg (by simp; omega) (fun k hk => (hown.lt k hk).1)
theorem zad {w w' : World} {B : Nat} {e : TypeId} {size : Nat} {v : Value} {n : Nat} {xs : List Value} (h : w.ownsRow B e size v n xs) (hb : Below w.heap.size w w') : w'.ownsRow B e size v n xs :=
 h.kept (row := none) ⟨hb.os, hb.tape, hb.output, hb.size, fun k hk _ => hb.block k hk⟩ (by cases hv : Value.ownBlock v <;> simp)
theorem zbv {B : Nat} {a w : World} (h : Below B a w) (n : Nat) : Below B a (w.drewN n) := ⟨h.os, h.tape, h.output, h.size, h.block⟩
theorem zy {w : World} {B : Nat} {e : TypeId} {size : Nat} {v : Value} {n : Nat} {xs : List Value} (h : w.ownsRow B e size v n xs) : ∃ a cap, v = .slice a n cap /\ n <= cap := by
 rcases h.2 with ⟨rfl, h0⟩ | ⟨g, cap, cur, rfl, _, _, hle, _⟩
 . exact ⟨none, 0, by rw [h0], by omega⟩
 . exact ⟨_, cap, rfl, hle⟩
def zab (w : World) (a : Option Addr) (cap : Nat) (xs : List Value) : Prop :=
 xs.length <= cap /\ (xs = [] \/ ∃ b off, a = some ⟨b, off, none⟩ /\ b < w.heap.size /\ ∀ j x, xs[j]? = some x -> w.cell? ⟨b, off + j, none⟩ = some x)
theorem zab.below {w w' : World} {a : Option Addr} {cap : Nat} {xs : List Value} (h : zab w a cap xs) (hb : Below w.heap.size w w') : zab w' a cap xs := by
 obtain ⟨h1, h2 | ⟨b, off, rfl, hlt, hc⟩⟩ := h
 . exact ⟨h1, Or.inl h2⟩
 . exact ⟨h1, Or.inr ⟨b, off, rfl, Nat.lt_of_lt_of_le hlt hb.size, fun j x hx => by rw [hb.cell (p := ⟨b, off + j, none⟩) hlt]; exact hc j x hx⟩⟩
theorem zmd {w : World} {B : Nat} {e : TypeId} {v : Value} {n : Nat} {xs : List Value} (h : w.ownsRow B e 1 v n xs) : ∃ a cap, v = .slice a n cap /\ xs.length = n /\ zab w a cap xs := by
 have hl : xs.length = n := by have := h.1; omega
 rcases h.2 with ⟨rfl, h0⟩ | ⟨g, cap, cur, rfl, _, hg, hle, _, _, _⟩
 . exact ⟨none, 0, by rw [h0], hl, by omega, Or.inl (List.eq_nil_of_length_eq_zero (by omega))⟩
 . refine ⟨_, cap, rfl, hl, by omega, Or.inr ⟨g, 0, rfl, (Array.getElem?_eq_some_iff.1 hg).1, fun j x hx => ?_⟩⟩
   have := h.cells (g := g) rfl j x hx
   have e : (⟨g, 0, none⟩ : Addr).add j = ⟨g, j, none⟩ := by unfold Addr.add; split <;> simp_all
   rw [e] at this
   rw [Nat.zero_add]; exact this
def za6 (w : World) (size : Nat) (a : Option Addr) (cap : Nat) (L : List (List Value)) : Prop :=
 L.length <= cap /\ (L = [] \/ ∃ b off, a = some ⟨b, off, none⟩ /\ b < w.heap.size /\ ∀ k cs, L[k]? = some cs -> ∀ j u, cs[j]? = some u -> w.cell? ⟨b, off + k * size + j, none⟩ = some u)
theorem za6.below {w w' : World} {size : Nat} {a : Option Addr} {cap : Nat} {L : List (List Value)} (h : za6 w size a cap L) (hb : Below w.heap.size w w') : za6 w' size a cap L := by
 obtain ⟨h1, h2 | ⟨b, off, rfl, hlt, hc⟩⟩ := h
 . exact ⟨h1, Or.inl h2⟩
 . exact ⟨h1, Or.inr ⟨b, off, rfl, Nat.lt_of_lt_of_le hlt hb.size, fun k cs hk j u hu => by rw [hb.cell (p := ⟨b, off + k * size + j, none⟩) hlt]; exact hc k cs hk j u hu⟩⟩
theorem zox : ∀ (L : List (List Value)) (size k j : Nat) (cs : List Value) (u : Value), (∀ c ∈ L, c.length = size) -> L[k]? = some cs -> cs[j]? = some u -> L.flatten[k * size + j]? = some u
 | [], _, k, j, cs, u, _, h, _ => by simp at h
 | c :: L, size, 0, j, cs, u, hl, h, hu => by
   simp at h; subst h
   have hj : j < c.length := (List.getElem?_eq_some_iff.1 hu).1
   simp only [List.flatten_cons, Nat.zero_mul, Nat.zero_add]
   rw [List.getElem?_append_left hj]; exact hu
 | c :: L, size, k + 1, j, cs, u, hl, h, hu => by
   have ih := zox L size k j cs u (fun x hx => hl x (by simp [hx])) (by simpa using h) hu
   have hc := hl c (by simp)
   simp only [List.flatten_cons]
   rw [List.getElem?_append_right (by rw [hc, Nat.succ_mul]; omega), hc, Nat.succ_mul]
   rw [show k * size + size + j - size = k * size + j by omega]; exact ih
theorem zh5 {w : World} {B : Nat} {e : TypeId} {size : Nat} {v : Value} {L : List (List Value)} (h : w.ownsRow B e size v L.length L.flatten) (hL : ∀ c ∈ L, c.length = size) : ∃ a cap, v = .slice a L.length cap /\ za6 w size a cap L := by
 rcases h.2 with ⟨rfl, h0⟩ | ⟨g, cap, cur, rfl, _, hg, hle, _, _, _⟩
 . exact ⟨none, 0, by rw [h0], by omega, Or.inl (List.eq_nil_of_length_eq_zero h0)⟩
 . refine ⟨_, cap, rfl, hle, Or.inr ⟨g, 0, rfl, (Array.getElem?_eq_some_iff.1 hg).1, fun k cs hk j u hu => ?_⟩⟩
   have := h.cells (g := g) rfl (k * size + j) u (zox L size k j cs u hL hk hu)
   have e : (⟨g, 0, none⟩ : Addr).add (k * size + j) = ⟨g, k * size + j, none⟩ := by unfold Addr.add; split <;> simp_all
   rw [e] at this
   rw [Nat.zero_add]; exact this
@[go_sem] theorem extract_mk (l : List UInt8) (a b : Nat) : (⟨⟨l⟩⟩ : ByteArray).extract a b = ⟨⟨(l.drop a).take (b - a)⟩⟩ := by
 have h := extract_data ⟨⟨l⟩⟩ a b
 cases hx : (⟨⟨l⟩⟩ : ByteArray).extract a b with
 | mk x =>
   rw [hx] at h
   cases x
   simp only at h
   rw [h]
@[go_sem] theorem append_mk (a b : List UInt8) : (⟨⟨a⟩⟩ : ByteArray) ++ ⟨⟨b⟩⟩ = ⟨⟨a ++ b⟩⟩ := by
 rw [ByteArray.mk_append_mk]
@[go_sem] theorem get_mk (l : List UInt8) (i : Nat) (h : i < (⟨⟨l⟩⟩ : ByteArray).size) : (⟨⟨l⟩⟩ : ByteArray)[i]'h = l[i]'h := rfl
theorem zyb {a b c d : List UInt8} (h1 : a = c) (h2 : b = d) : Ending.returned (.tuple #[.string ⟨⟨a⟩⟩, .string ⟨⟨b⟩⟩, .bool true]) = .returned (.tuple #[.string ⟨⟨c⟩⟩, .string ⟨⟨d⟩⟩, .bool true]) := by rw [h1, h2]
theorem zbp (P X : List UInt8) (hP : ∀ b ∈ P, b = 91) (hX : ∀ c r, X = c :: r -> c ≠ 91) (w : World) :
   Calls Tryz.prog 62 #[.string ⟨⟨P ++ X⟩⟩, .string ⟨#[91]⟩] w fun e w' => e = .returned (.string ⟨⟨X⟩⟩) /\ w = w' := by
 have h := Tryz.strings_TrimLeft_one ⟨⟨P ++ X⟩⟩ 91 (by decide) w
 rw [show (⟨⟨P ++ X⟩⟩ : ByteArray).data.toList = P ++ X from rfl, zm8 P X hP hX] at h
 exact h.mono fun e w' ⟨h1, h2⟩ => ⟨h1, h2.symm⟩
theorem zr3 (l : List UInt8) (v : Int) (h : indexByte l 59 = v) (w : World) : Calls Tryz.prog 63 #[.string ⟨⟨l⟩⟩, .int .u8 59] w fun e w' => e = .returned (.int .i64 v) /\ w = w' := by
 have h1 := Tryz.strings_IndexByte ⟨⟨l⟩⟩ 59 w
 exact h1.mono fun e w' ⟨h2, h3⟩ => ⟨by rw [h2, <- h]; rfl, h3.symm⟩
theorem zmz {n : List UInt8} (h : ∀ b ∈ n, b ≠ 59) : ∀ b ∈ (76 :: n), b ≠ 59 := by
 intro b hb
 rcases List.mem_cons.1 hb with h1 | h1
 . rw [h1]; decide
 . exact h b h1
theorem zj8 (c : UInt8) (hc : c = 73 \/ c = 74) (P r : List UInt8) (hP : ∀ b ∈ P, b = 91) (h3 : P.length <= 3) (hr : r.length <= 4611686018427387904) (w : World) :
   Calls Tryz.prog 32 #[.string ⟨⟨P ++ c :: r⟩⟩] w fun e w' => e = .returned (.tuple #[.string ⟨⟨P ++ [c]⟩⟩, .string ⟨⟨r⟩⟩, .bool true]) /\ Below w.heap.size w w' := by
 have ht := fun w => zbp P (c :: r) hP (by intro c' r' e; cases e; rcases hc with rfl | rfl <;> decide) w
 have HT := Hq ht
 clear ht hP
 rcases hc with rfl | rfl
 all_goals
   go_enter Tryz.func32, Tryz.ntmps32
   go_wp2_with fail
   refine (HT.out _).mono ?_
   rintro e w1 ⟨rfl, rfl⟩
   go_wp2_with fail
   go_region
   go_wp2_with fail
   go_ret3
   refine ⟨zyb (List.take_length_add_append 1) (List.take_of_length_le (by omega)), (Below.refl _ _).drew⟩
theorem zol (n P r : List UInt8) (hn : zr n = true) (hP : ∀ b ∈ P, b = 91) (h3 : P.length <= 3) (hr : r.length <= 4611686018427387904) (w : World) :
   Calls Tryz.prog 32 #[.string ⟨⟨P ++ 76 :: (n ++ 59 :: r)⟩⟩] w fun e w' => e = .returned (.tuple #[.string ⟨⟨P ++ 76 :: (n ++ [59])⟩⟩, .string ⟨⟨r⟩⟩, .bool true]) /\ Below w.heap.size w w' := by
 have ht := fun w => zbp P (76 :: (n ++ 59 :: r)) hP (by intro c' r' e; cases e; decide) w
 have HT := Hq ht
 have hi := fun w => zr3 (76 :: (n ++ 59 :: r)) ((n.length : Int) + 1) (by simpa using zgv (76 :: n) r 59 (zmz (zij hn))) w
 have HI := Hq hi
 have hl := zdm hn
 have hl1 := hl.1
 have hl2 := hl.2
 have HN : ∀ w, Hid (Calls Tryz.prog 64 #[.string ⟨⟨n⟩⟩] w fun e w' => e = .returned .nilIface /\ Below w.heap.size w w') := fun w => zo7 ⟨⟨n⟩⟩ w hn
 clear ht hP hi hn hl
 have e1 : List.take (n.length + (r.length + 1)) (n ++ 59 :: r) = n ++ 59 :: r := List.take_of_length_le (by simp)
 go_enter Tryz.func32, Tryz.ntmps32
 go_wp2_with fail
 refine (HT.out _).mono ?_
 rintro e w1 ⟨rfl, rfl⟩
 go_wp2_with fail
 refine (HI.out _).mono ?_
 rintro e w1 ⟨rfl, rfl⟩
 go_wp2_with fail
 refine (HN _).out.mono ?_
 rintro e w1 ⟨rfl, hb⟩
 go_wp2_with fail
 go_region
 go_wp2_with fail
 go_ret3
 refine ⟨zyb ?_ ?_, hb.drew⟩
 . rw [show n.length + 1 + 1 = (76 :: (n ++ [59])).length by simp, List.take_length_add_append, show 76 :: (n ++ 59 :: r) = (76 :: (n ++ [59])) ++ r by simp, List.take_left]
 . rw [show P.length + (n.length + 1 + 1) = (P ++ (76 :: (n ++ [59]))).length by simp, show P ++ 76 :: (n ++ 59 :: r) = (P ++ (76 :: (n ++ [59]))) ++ r by simp, List.drop_left]
   exact List.take_of_length_le (by simp; omega)
theorem zg7 {b d : List UInt8} (h2 : b = d) : Ending.returned (.tuple #[.string ⟨#[]⟩, .string ⟨⟨b⟩⟩, .bool false]) = .returned (.tuple #[.string ⟨#[]⟩, .string ⟨⟨d⟩⟩, .bool false]) := by rw [h2]
def zjp (l : List UInt8) (w : World) : Prop := Calls Tryz.prog 32 #[.string ⟨⟨l⟩⟩] w fun e w' => e = .returned (.tuple #[.string ⟨#[]⟩, .string ⟨⟨l⟩⟩, .bool false]) /\ Below w.heap.size w w'
theorem zta (P X : List UInt8) (hP : ∀ b ∈ P, b = 91) (hX : ∀ c r, X = c :: r -> c ≠ 91) (hl : (P ++ X).length <= 4611686018427387904) (h3 : 3 < P.length) (w : World) : zjp (P ++ X) w := by
 have ht := fun w => zbp P X hP hX w
 have HT := Hq ht
 rw [List.length_append] at hl
 clear ht hP hX
 unfold zjp
 go_enter Tryz.func32, Tryz.ntmps32
 go_wp2_with fail
 refine (HT.out _).mono ?_
 rintro e w1 ⟨rfl, rfl⟩
 go_wp2_with fail
 all_goals go_ret3
 all_goals exact ⟨zg7 rfl, Below.refl _ _⟩
theorem zwi (P : List UInt8) (hP : ∀ b ∈ P, b = 91) (h3 : P.length <= 3) (w : World) : zjp P w := by
 have ht := fun w => zbp P [] hP (by simp) w
 simp only [List.append_nil] at ht
 have HT := Hq ht
 clear ht hP
 unfold zjp
 go_enter Tryz.func32, Tryz.ntmps32
 go_wp2_with fail
 refine (HT.out _).mono ?_
 rintro e w1 ⟨rfl, rfl⟩
 go_wp2_with fail
 all_goals go_ret3
 all_goals exact ⟨zg7 rfl, Below.refl _ _⟩
theorem zs7 (c : UInt8) (P r : List UInt8) (hP : ∀ b ∈ P, b = 91) (hc : c ≠ 91) (h3 : P.length <= 3) (hr : r.length <= 4611686018427387904) (c1 : c ≠ 73) (c2 : c ≠ 74) (c3 : c ≠ 76) (w : World) : zjp (P ++ c :: r) w := by
 have ht := fun w => zbp P (c :: r) hP (by intro c' r' e; cases e; exact hc) w
 have HT := Hq ht
 have d1 : ((c.toNat : Int) == 73) = false := by
   rw [beq_eq_false_iff_ne]; intro e; apply c1; apply UInt8.toNat_inj.1; exact Int.ofNat.inj e
 have d2 : ((c.toNat : Int) == 74) = false := by
   rw [beq_eq_false_iff_ne]; intro e; apply c2; apply UInt8.toNat_inj.1; exact Int.ofNat.inj e
 have d3 : ((c.toNat : Int) == 76) = false := by
   rw [beq_eq_false_iff_ne]; intro e; apply c3; apply UInt8.toNat_inj.1; exact Int.ofNat.inj e
 clear ht hP hc c1 c2 c3
 unfold zjp
 go_enter Tryz.func32, Tryz.ntmps32
 go_wp2_with fail
 refine (HT.out _).mono ?_
 rintro e w1 ⟨rfl, rfl⟩
 go_wp2_with fail
 all_goals go_ret3
 all_goals exact ⟨zg7 rfl, Below.refl _ _⟩
theorem zr1 (P r : List UInt8) (hP : ∀ b ∈ P, b = 91) (h3 : P.length <= 3) (hr : r.length <= 4611686018427387904) (hn : ∀ b ∈ r, b ≠ 59) (w : World) : zjp (P ++ 76 :: r) w := by
 have ht := fun w => zbp P (76 :: r) hP (by intro c' r' e; cases e; decide) w
 have HT := Hq ht
 have hi := fun w => zr3 (76 :: r) (-1) (zi9 _ 59 (zmz hn)) w
 have HI := Hq hi
 clear ht hP hn hi
 unfold zjp
 go_enter Tryz.func32, Tryz.ntmps32
 go_wp2_with fail
 refine (HT.out _).mono ?_
 rintro e w1 ⟨rfl, rfl⟩
 go_wp2_with fail
 refine (HI.out _).mono ?_
 rintro e w1 ⟨rfl, rfl⟩
 go_wp2_with fail
 go_ret3
 exact ⟨zg7 rfl, Below.refl _ _⟩
theorem zsf (n P r : List UInt8) (hn : zr n = false) (hs : ∀ b ∈ n, b ≠ 59) (hP : ∀ b ∈ P, b = 91) (h3 : P.length <= 3) (hl : n.length <= 4611686018427387904) (hr : r.length <= 4611686018427387904) (w : World) :
   zjp (P ++ 76 :: (n ++ 59 :: r)) w := by
 have ht := fun w => zbp P (76 :: (n ++ 59 :: r)) hP (by intro c' r' e; cases e; decide) w
 have HT := Hq ht
 have hi := fun w => zr3 (76 :: (n ++ 59 :: r)) ((n.length : Int) + 1) (by simpa using zgv (76 :: n) r 59 (zmz hs)) w
 have HI := Hq hi
 have HN : ∀ w, Hid (Calls Tryz.prog 64 #[.string ⟨⟨n⟩⟩] w fun e w' => e = .returned (zby 1) /\ Below w.heap.size w w') := fun w => zks ⟨⟨n⟩⟩ w hn
 clear ht hP hi hn hs
 have e1 : List.take (n.length + (r.length + 1)) (n ++ 59 :: r) = n ++ 59 :: r := List.take_of_length_le (by simp)
 unfold zjp
 go_enter Tryz.func32, Tryz.ntmps32
 go_wp2_with fail
 refine (HT.out _).mono ?_
 rintro e w1 ⟨rfl, rfl⟩
 go_wp2_with fail
 refine (HI.out _).mono ?_
 rintro e w1 ⟨rfl, rfl⟩
 go_wp2_with fail
 refine (HN _).out.mono ?_
 rintro e w1 ⟨rfl, hb⟩
 go_wp2_with fail
 go_ret3
 exact ⟨zg7 rfl, hb⟩
theorem zr0 (t r : List UInt8) (ht : zi t) (hr : r.length <= 4611686018427387904) (w : World) :
   Calls Tryz.prog 32 #[.string ⟨⟨t ++ r⟩⟩] w fun e w' => e = .returned (.tuple #[.string ⟨⟨t⟩⟩, .string ⟨⟨r⟩⟩, .bool true]) /\ Below w.heap.size w w' := by
 obtain ⟨P, X, rfl, hP, h3, rfl | rfl | ⟨n, hn, rfl⟩⟩ := ht
 . have := zj8 73 (Or.inl rfl) P r hP h3 hr w
   simpa using this
 . have := zj8 74 (Or.inr rfl) P r hP h3 hr w
   simpa using this
 . have := zol n P r hn hP h3 hr w
   simpa using this
theorem z4d (l : List UInt8) (h : ∀ t r, l = t ++ r -> ¬ zi t) (hl : l.length <= 4611686018427387904) (w : World) : zjp l w := by
 rcases z2l l with ⟨t, r, e, ht⟩ | ⟨P, X, rfl, hP, hX, hc⟩
 . exact absurd ht (h t r e)
 . rw [List.length_append] at hl
   rcases hc with h3 | ⟨h3, rfl⟩ | ⟨h3, c, r, rfl, c1, c2, c3⟩ | ⟨h3, r, rfl, hr⟩ | ⟨h3, n, r, rfl, hn, hb⟩
   . exact zta P X hP hX (by rw [List.length_append]; exact hl) h3 w
   . rw [List.append_nil]; exact zwi P hP h3 w
   . exact zs7 c P r hP (hX c r rfl) h3 (by simp at hl; omega) c1 c2 c3 w
   . exact zr1 P r hP h3 (by simp at hl; omega) hr w
   . exact zsf n P r hb hn hP h3 (by simp at hl; omega) (by simp at hl; omega) w
theorem zc1 (t : List UInt8) (h : zi t) (w : World) : Calls Tryz.prog 34 #[.string ⟨⟨t⟩⟩] w fun e w' => e = .returned .nilIface /\ Below w.heap.size w w' := by
 have hc := fun w => zr0 t [] h (by simp) w
 simp only [List.append_nil] at hc
 have HC := Hq hc
 clear hc
 go_enter Tryz.func34, Tryz.ntmps34
 go_wp2_with fail
 refine (HC.out _).mono ?_
 rintro e w1 ⟨rfl, hb⟩
 go_wp2_with fail
 go_ret
 exact ⟨rfl, hb⟩
theorem zdi (l : List UInt8) (h : ¬ zi l) (hl : l.length <= 4611686018427387904) (w : World) : Calls Tryz.prog 34 #[.string ⟨⟨l⟩⟩] w fun e w' => e = .returned (zby 1) /\ Below w.heap.size w w' := by
 by_cases hx : ∃ t r, l = t ++ r /\ zi t
 . obtain ⟨t, r, rfl, ht⟩ := hx
   cases r with
   | nil => rw [List.append_nil] at h; exact absurd ht h
   | cons x r =>
     simp only [List.length_append] at hl
     have hc := fun w => zr0 t (x :: r) ht (by omega) w
     have HC := Hq hc
     clear hc h
     go_enter Tryz.func34, Tryz.ntmps34
     go_wp2_with fail
     refine (HC.out _).mono ?_
     rintro e w1 ⟨rfl, hb⟩
     go_wp2_with fail
     go_ret
     exact ⟨rfl, hb⟩
 . have hc := fun w => z4d l (fun t r e ht => hx ⟨t, r, e, ht⟩) hl w
   unfold zjp at hc
   have HC := Hq hc
   clear hc h
   go_enter Tryz.func34, Tryz.ntmps34
   go_wp2_with fail
   refine (HC.out _).mono ?_
   rintro e w1 ⟨rfl, hb⟩
   go_wp2_with fail
   go_ret
   exact ⟨rfl, hb⟩
theorem ztv : (Tryz.prog.info? 9).map (fun i => (i.zero, i.size, i.bytes)) = some (some (.string ByteArray.empty), 1, 16) := by kernel_rfl
abbrev zz (t : List UInt8) : Value := .string ⟨⟨t⟩⟩
theorem zmc (s : List UInt8) (w : World) : Calls Tryz.prog 30 #[.string ⟨⟨40 :: s⟩⟩, .string ⟨#[40]⟩] w fun e w' => e = .returned (.tuple #[.string ⟨⟨s⟩⟩, .bool true]) /\ w = w' := by
 have h := Tryz.strings_CutPrefix ⟨⟨40 :: s⟩⟩ ⟨#[40]⟩ w
 exact h.mono fun e w' ⟨h1, h2⟩ => ⟨by rw [h1]; rfl, h2.symm⟩
theorem znd (m : List UInt8) (hm : ∀ s, m ≠ 40 :: s) (w : World) : Calls Tryz.prog 30 #[.string ⟨⟨m⟩⟩, .string ⟨#[40]⟩] w fun e w' => e = .returned (.tuple #[.string ⟨⟨m⟩⟩, .bool false]) /\ w = w' := by
 have h := Tryz.strings_CutPrefix ⟨⟨m⟩⟩ ⟨#[40]⟩ w
 have hp : hasPrefix m [40] = false := by
   cases m with
   | nil => rfl
   | cons x r =>
     have : x ≠ 40 := fun e => hm r (by rw [e])
     simp [hasPrefix, List.isPrefixOf, this.symm]
 refine h.mono fun e w' ⟨h1, h2⟩ => ⟨?_, h2.symm⟩
 rw [h1]
 simp only [trimPrefix, hp]
 rfl
theorem zmw (s : List UInt8) (w : World) : Calls Tryz.prog 31 #[.string ⟨⟨41 :: s⟩⟩, .string ⟨#[41]⟩] w fun e w' => e = .returned (.bool true) /\ w = w' := by
 have h := Tryz.strings_HasPrefix ⟨⟨41 :: s⟩⟩ ⟨#[41]⟩ w
 exact h.mono fun e w' ⟨h1, h2⟩ => ⟨by rw [h1]; rfl, h2.symm⟩
theorem z1r {m : List UInt8} (hm : ∀ s, m ≠ 41 :: s) : hasPrefix m [41] = false := by
 cases m with
 | nil => rfl
 | cons x r =>
   have : x ≠ 41 := fun e => hm r (by rw [e])
   simp [hasPrefix, List.isPrefixOf, this.symm]
theorem zm9 (m : List UInt8) (hm : ∀ s, m ≠ 41 :: s) (w : World) : Calls Tryz.prog 31 #[.string ⟨⟨m⟩⟩, .string ⟨#[41]⟩] w fun e w' => e = .returned (.bool false) /\ w = w' := by
 have h := Tryz.strings_HasPrefix ⟨⟨m⟩⟩ ⟨#[41]⟩ w
 refine h.mono fun e w' ⟨h1, h2⟩ => ⟨?_, h2.symm⟩
 rw [h1, show hasPrefix (⟨⟨m⟩⟩ : ByteArray).data.toList (⟨#[41]⟩ : ByteArray).data.toList = false from z1r hm]
theorem zkj (s : List UInt8) (w : World) : Calls Tryz.prog 33 #[.string ⟨⟨41 :: s⟩⟩, .string ⟨#[41]⟩] w fun e w' => e = .returned (.string ⟨⟨s⟩⟩) /\ w = w' := by
 have h := Tryz.strings_TrimPrefix ⟨⟨41 :: s⟩⟩ ⟨#[41]⟩ w
 exact h.mono fun e w' ⟨h1, h2⟩ => ⟨by rw [h1]; rfl, h2.symm⟩
theorem zgf (m : List UInt8) (w : World) : Calls Tryz.prog 33 #[.string ⟨⟨m⟩⟩, .string ⟨#[41]⟩] w fun e w' => (∃ g, e = .returned (.string ⟨⟨g⟩⟩)) /\ w = w' := by
 have h := Tryz.strings_TrimPrefix ⟨⟨m⟩⟩ ⟨#[41]⟩ w
 exact h.mono fun e w' ⟨h1, h2⟩ => ⟨⟨_, h1⟩, h2.symm⟩
def z0r : Value -> Nat | .string s => s.size | _ => 0
def bit : Value -> Nat | .bool true => 1 | _ => 0
def ztg (s : List UInt8) (B : Nat) (w : World) (rest : List UInt8) (b : Bool) (v : Value) (wr : World) : Prop :=
 Below B w wr /\ ∃ A : List (List UInt8), wr.ownsRow B 9 1 v A.length (A.map zz) /\ (∀ t ∈ A, zi t) /\ s = A.flatten ++ rest /\ (b = false -> (∀ t r, rest = t ++ r -> ¬ zi t) /\ ∀ g, rest ≠ 41 :: g)
def zso (m : List UInt8) (w : World) (e : Ending) (w' : World) : Prop :=
 Below w.heap.size w w' /\ ((e = .returned (.tuple #[.slice none 0 0, .string ⟨#[]⟩, zby 1]) /\ ∀ A g, ¬ zk m A g) \/
   ∃ v A g, e = .returned (.tuple #[v, .string ⟨⟨g⟩⟩, .nilIface]) /\ zk m A g /\ w'.ownsRow w.heap.size 9 1 v A.length (A.map zz))
theorem zop (m : List UInt8) (hm : ∀ s, m ≠ 40 :: s) (w : World) : Calls Tryz.prog 15 #[.string ⟨⟨m⟩⟩] w fun e w' => zso m w e w' := by
 have HC := Hq (fun w => znd m hm w)
 have HM := Hq hm
 clear hm
 go_enter Tryz.func15, Tryz.ntmps15
 go_wp2_with fail
 refine (HC.out _).mono ?_
 rintro e w1 ⟨rfl, rfl⟩
 go_wp2_with fail
 refine wp_loop_rounds 1 ?_
 rw [rounds_succ]
 go_wp2_with fail
 refine (zgf m _).mono ?_
 rintro e w1 ⟨⟨g, rfl⟩, rfl⟩
 go_wp2_with fail
 go_ret3
 exact ⟨Below.refl _ _, Or.inl ⟨rfl, zr2 HM.out⟩⟩
theorem zxh {s rest t r : List UInt8} {B : Nat} {w wr w1 w2 : World} {v v' : Value} {o : Obj} {A : List (List UInt8)} (hB : B <= wr.heap.size) (hw : Below B w wr) (hb1 : Below wr.heap.size wr w1) (ht : zi t) (hA : ∀ t ∈ A, zi t) (hs : s = A.flatten ++ rest) (hr : rest = t ++ r)
   (hown : w2.ownsRow B 9 1 v' (A.length + 1) (A.map zz ++ [zz t])) (hrow : ∀ j, v.ownBlock = some j -> B <= j) (hg : (w1.alloc o).grownBy w2 v.ownBlock) : ztg s B w r true v' w2 := by
 refine ⟨((hw.trans (hb1.mono hB)).alloc (by have := hb1.size; omega) o).grown hg (by simp; have := hb1.size; omega) hrow, A ++ [t], ?_, ?_, ?_, by simp⟩
 . simpa using hown
 . intro x hx
   rcases List.mem_append.1 hx with h | h
   . exact hA x h
   . simp at h; rw [h]; exact ht
 . rw [hs, hr]; simp
theorem zjo (s : List UInt8) (hl : s.length <= 8388608) (w : World) : Calls Tryz.prog 15 #[.string ⟨⟨40 :: s⟩⟩] w fun e w' => zso (40 :: s) w e w' := by
 obtain ⟨i0, hi, hz0, hz1, hz2⟩ := info_parts ztv
 have HC := Hq (fun w => zmc s w)
 obtain ⟨B, hB⟩ : ∃ B, B = w.heap.size := ⟨_, rfl⟩
 have HB := Hq hB
 clear hB
 go_enter Tryz.func15, Tryz.ntmps15
 go_wp2_with fail
 refine (HC.out _).mono ?_
 rintro e w1 ⟨rfl, rfl⟩
 go_wp2_with fail
 go_loopw [5, 6, 7] (fun x y v wr => ∃ (rest : List UInt8) (b : Bool), x = .string ⟨⟨rest⟩⟩ /\ y = .bool b /\ ztg s B w rest b v wr) (fun x y _ _ => 2 * z0r x + bit y)
 case atStart => exact ⟨s, true, rfl, rfl, Below.refl _ _, [], by simpa using World.ownsRow_nil w B _ 1, by simp, by simp, by simp⟩
 case round =>
   obtain ⟨rest, b, rfl, rfl, hrel⟩ := hrel
   obtain ⟨hw, A, hown, hA, hs, hb⟩ := hrel
   have hAl := zl7 A hA
   have hln := congrArg List.length hs
   rw [List.length_append] at hln
   have hr1 : rest.length <= 8388608 := by omega
   have ha1 : A.length <= 8388608 := by omega
   have HW := Hq hw
   have HA := Hq hA
   have HS := Hq hs
   have HBB := Hq hb
   clear hw hA hs hb hAl hln
   cases b with
   | false =>
     go_wp2_with fail
     refine (zgf rest _).mono ?_
     rintro e w1 ⟨⟨g, rfl⟩, rfl⟩
     go_wp2_with fail
     go_ret3
     have h := HB.out
     subst h
     exact ⟨HW.out, Or.inl ⟨rfl, zl2 HA.out HS.out (HBB.out trivial).1 (HBB.out trivial).2⟩⟩
   | true =>
     by_cases h41 : ∃ g, rest = 41 :: g
     . obtain ⟨g, rfl⟩ := h41
       clear HBB
       simp only [List.length_cons] at hr1
       have HH := Hq (fun w => zmw g w)
       have HT := Hq (fun w => zkj g w)
       by_cases h5 : 5 < A.length
       . go_wp2_with fail
         refine (HH.out _).mono ?_
         rintro e w1 ⟨rfl, rfl⟩
         go_wp2_with fail
         refine (HT.out _).mono ?_
         rintro e w1 ⟨rfl, rfl⟩
         obtain ⟨C, hv⟩ : ∃ C : Option Addr × Nat, u7 = .slice C.1 A.length C.2 := by
           rcases hown.2 with ⟨h, h0⟩ | ⟨g2, c2, _, h, _⟩
           . omega
           . exact ⟨(some ⟨g2, 0, none⟩, c2), h⟩
         subst hv
         go_wp2_with fail
         go_ret3
         have h := HB.out
         subst h
         exact ⟨HW.out, Or.inl ⟨rfl, zg3 HA.out HS.out (Or.inl h5)⟩⟩
       . obtain ⟨C, hv⟩ : ∃ C : Option Addr × Nat, u7 = .slice C.1 A.length C.2 := by
           rcases hown.2 with ⟨h, h0⟩ | ⟨g2, c2, _, h, _⟩
           . exact ⟨(none, 0), by rw [h, h0]⟩
           . exact ⟨(some ⟨g2, 0, none⟩, c2), h⟩
         have HO := Hq hown
         clear hown
         subst hv
         by_cases hV : g = [86]
         . subst hV
           go_wp2_with fail
           refine (HH.out _).mono ?_
           rintro e w1 ⟨rfl, rfl⟩
           go_wp2_with fail
           refine (HT.out _).mono ?_
           rintro e w1 ⟨rfl, rfl⟩
           go_wp2_with fail
           go_ret3
           have h := HB.out
           subst h
           exact ⟨HW.out, Or.inr ⟨_, A, [86], rfl, ⟨by rw [HS.out], HA.out, by omega, Or.inl rfl⟩, HO.out⟩⟩
         . have hq : (g == [86]) = false := by rw [beq_eq_false_iff_ne]; exact hV
           by_cases hg : zi g
           . have HK := Hq (fun w => zc1 g hg w)
             have HG := Hq hg
             have HVV := Hq hV
             clear hg
             go_wp2_with fail
             refine (HH.out _).mono ?_
             rintro e w1 ⟨rfl, rfl⟩
             go_wp2_with fail
             refine (HT.out _).mono ?_
             rintro e w1 ⟨rfl, rfl⟩
             go_wp2_with fail
             refine (HK.out _).mono ?_
             rintro e w1 ⟨rfl, hb1⟩
             go_wp2_with fail
             go_ret3
             have h := HB.out
             subst h
             have hown1 : w1.ownsRow w.heap.size 9 1 (.slice C.1 A.length C.2) A.length (A.map zz) := HO.out.kept (row := none) ⟨hb1.os, hb1.tape, hb1.output, hb1.size, fun k hk _ => hb1.block k hk⟩ (by cases hv : Value.ownBlock (.slice C.1 A.length C.2) <;> simp)
             exact ⟨HW.out.trans (hb1.mono HW.out.size), Or.inr ⟨_, A, g, rfl, ⟨by rw [HS.out], HA.out, by omega, Or.inr HG.out⟩, hown1⟩⟩
           . have HK := Hq (fun w => zdi g hg (by omega) w)
             have HG := Hq hg
             have HVV := Hq hV
             clear hg
             go_wp2_with fail
             refine (HH.out _).mono ?_
             rintro e w1 ⟨rfl, rfl⟩
             go_wp2_with fail
             refine (HT.out _).mono ?_
             rintro e w1 ⟨rfl, rfl⟩
             go_wp2_with fail
             refine (HK.out _).mono ?_
             rintro e w1 ⟨rfl, hb1⟩
             go_wp2_with fail
             go_ret3
             have h := HB.out
             subst h
             have hown1 : w1.ownsRow w.heap.size 9 1 (.slice C.1 A.length C.2) A.length (A.map zz) := HO.out.kept (row := none) ⟨hb1.os, hb1.tape, hb1.output, hb1.size, fun k hk _ => hb1.block k hk⟩ (by cases hv : Value.ownBlock (.slice C.1 A.length C.2) <;> simp)
             exact ⟨HW.out.trans (hb1.mono HW.out.size), Or.inl ⟨rfl, zg3 HA.out HS.out (Or.inr (fun h => h.elim (fun e => HVV.out e) (fun e => HG.out e)))⟩⟩
     . have h41' : ∀ g, rest ≠ 41 :: g := fun g e => h41 ⟨g, e⟩
       have HH := Hq (fun w => zm9 rest h41' w)
       have H41 := Hq h41'
       clear h41 h41' HBB
       by_cases hc : ∃ t r, rest = t ++ r /\ zi t
       . obtain ⟨t, r, rfl, ht⟩ := hc
         rw [List.length_append] at hr1
         have HCU := Hq (fun w => zr0 t r ht (by omega) w)
         have hpos := zuc ht
         have HT := Hq ht
         clear ht
         go_wp2_with fail
         refine (HH.out _).mono ?_
         rintro e w1 ⟨rfl, rfl⟩
         go_wp2_with fail
         refine (HCU.out _).mono ?_
         rintro e w1 ⟨rfl, hb1⟩
         have hown1 : w1.ownsRow B 9 1 u7 A.length (A.map zz) := hown.kept (row := none) ⟨hb1.os, hb1.tape, hb1.output, hb1.size, fun k hk _ => hb1.block k hk⟩ (by cases hv : Value.ownBlock u7 <;> simp)
         have hs1 : B <= w1.heap.size := by have := hb1.size; have := HW.out.size; have := HB.out; omega
         have HB1 := Hq hb1
         clear hb1 hown
         go_wp2_with (at_builtin; refine wpList_append_own _ rfl _ _ 35 rfl B 9 i0 (.string ByteArray.empty) 1 16 Tryz.underlying35 hi hz0 hz1 hz2 rfl (by decide) _ _ _ rfl (hown1.alloc _) ⟨w1.heap.size, 0, none⟩ 1 1 [zz t] rfl rfl ?c1 ?c2 ?c3 ?c4 ?c5 ?_)
         case c1 => exact fun j v hj => zdj w1 [zz t] 9 j v hj
         case c2 => intro x hx; simp only [List.mem_cons, List.mem_nil_iff, or_false] at hx; rcases hx with rfl; rfl
         case c3 => unfold maxLen; omega
         case c4 => omega
         case c5 => simp; omega
         intro v' w2 ho hg _
         have HN := Hq (zxh (by have := HW.out.size; have := HB.out; omega) HW.out HB1.out HT.out HA.out HS.out rfl ho (fun j hj => (hown1.lt j hj).1) hg)
         clear ho hg hown1 HW HA HS HT HB1 HH HCU H41
         go_wp2_with fail
         go_roundw
         case rel => exact ⟨r, true, rfl, rfl, HN.out⟩
         case measure =>
           simp [z0r, bit, ByteArray.size]
           omega
       . have hc' : ∀ t r, rest = t ++ r -> ¬ zi t := fun t r e h => hc ⟨t, r, e, h⟩
         have hcu := fun w => z4d rest hc' (by omega) w
         unfold zjp at hcu
         have HCU := Hq hcu
         have HCC := Hq hc'
         clear hcu hc hc'
         have HO := Hq hown
         clear hown
         go_wp2_with fail
         refine (HH.out _).mono ?_
         rintro e w1 ⟨rfl, rfl⟩
         go_wp2_with fail
         refine (HCU.out _).mono ?_
         rintro e w1 ⟨rfl, hb1⟩
         have hown1 : w1.ownsRow B 9 1 u7 A.length (A.map zz) := HO.out.kept (row := none) ⟨hb1.os, hb1.tape, hb1.output, hb1.size, fun k hk _ => hb1.block k hk⟩ (by cases hv : Value.ownBlock u7 <;> simp)
         have HN : Hid (ztg s B w rest false u7 w1) := ⟨HW.out.trans (hb1.mono (by have := HW.out.size; have := HB.out; omega)), A, hown1, HA.out, HS.out, fun _ => ⟨HCC.out, H41.out⟩⟩
         clear hb1 hown1 HW HA HS HH HCU HCC HO H41
         go_wp2_with fail
         go_roundw
         case rel => exact ⟨rest, false, rfl, rfl, HN.out⟩
         case measure => simp [z0r, bit]
theorem zat (m : List UInt8) (hl : m.length <= 8388608) (w : World) : Calls Tryz.prog 15 #[.string ⟨⟨m⟩⟩] w fun e w' => zso m w e w' := by
 by_cases h : ∃ s, m = 40 :: s
 . obtain ⟨s, rfl⟩ := h
   exact zjo s (by simp at hl; omega) w
 . exact zop m (fun s e => h ⟨s, e⟩) w
def zdl (w : World) (a : Option Addr) (cap : Nat) (A : List (List UInt8)) : Prop :=
 A.length <= cap /\ (A = [] \/ ∃ b off, a = some ⟨b, off, none⟩ /\ b < w.heap.size /\ ∀ j x, A[j]? = some x -> w.cell? ⟨b, off + j, none⟩ = some (zz x))
theorem zdl.below {w w' : World} {a : Option Addr} {cap : Nat} {A : List (List UInt8)} (h : zdl w a cap A) (hb : Below w.heap.size w w') : zdl w' a cap A := by
 obtain ⟨h1, h2 | ⟨b, off, rfl, hlt, hc⟩⟩ := h
 . exact ⟨h1, Or.inl h2⟩
 . exact ⟨h1, Or.inr ⟨b, off, rfl, Nat.lt_of_lt_of_le hlt hb.size, fun j x hx => by rw [hb.cell (p := ⟨b, off + j, none⟩) hlt]; exact hc j x hx⟩⟩
theorem zl {w : World} {B : Nat} {v : Value} {A : List (List UInt8)} (h : w.ownsRow B 9 1 v A.length (A.map zz)) : ∃ a cap, v = .slice a A.length cap /\ zdl w a cap A := by
 rcases h.2 with ⟨rfl, h0⟩ | ⟨g, cap, cur, rfl, _, hg, hle, _, _, _⟩
 . exact ⟨none, 0, by rw [h0], by omega, Or.inl (List.eq_nil_of_length_eq_zero h0)⟩
 . refine ⟨_, cap, rfl, hle, Or.inr ⟨g, 0, rfl, (Array.getElem?_eq_some_iff.1 hg).1, fun j x hx => ?_⟩⟩
   have := h.cells (g := g) rfl j (zz x) (by rw [List.getElem?_map, hx]; rfl)
   have e : (⟨g, 0, none⟩ : Addr).add j = ⟨g, j, none⟩ := by unfold Addr.add; split <;> simp_all
   rw [e] at this
   rw [Nat.zero_add]; exact this
end Go.Proofs.YtbnkckjdgpiggaaGreatDoor
