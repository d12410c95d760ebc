import Derived.Test.YtbnkckjdgpiggaaGreatDoorClass5
import Derived.Lib.OwnBridge
import Derived.Lib.AppendIntMem
import Derived.Deep.AppendLies
namespace Go.Proofs.YtbnkckjdgpiggaaGreatDoor
set_option maxRecDepth 100000
set_option maxHeartbeats 16000000
set_option linter.unusedVariables false
set_option linter.unusedSimpArgs false
open Go.MapKept Go.ChangeMaps Go.Maps Go.RowKit
def zqv (f : List UInt8 -> Option Value) (z : List UInt8) (v : Value) (y : List UInt8) : Option Value := if y = z then some v else f y
def sdelf (f : List UInt8 -> Option Value) (z : List UInt8) (y : List UInt8) : Option Value := if y = z then none else f y
theorem zvy (f : List UInt8 -> Option Value) (z : List UInt8) (v : Value) : zqv f z v z = some v := by simp [zqv]
theorem zml (f : List UInt8 -> Option Value) (z : List UInt8) (v : Value) {y : List UInt8} (h : y ≠ z) : zqv f z v y = f y := by simp [zqv, h]
def zje (w : World) (b n : Nat) (f : List UInt8 -> Option Value) : Prop :=
 ∃ es clock, w.heap[b]? = some (.map es clock) /\ es.size <= n /\ (∀ x ∈ es.toList, ∃ z, x.key = .string ⟨⟨z⟩⟩ /\ z.length <= maxLen /\ f z = some x.val) /\
   (∀ z v, f z = some v -> ∃ x ∈ es.toList, x.key = .string ⟨⟨z⟩⟩) /\ es.toList.Pairwise (fun x y => x.key ≠ y.key)
theorem zje.made (w : World) : zje (w.alloc (.map #[] 0)) w.heap.size 0 (fun _ => none) :=
 ⟨#[], 0, (MapKept.heap_alloc w _).1, by simp, by simp, by simp, by simp⟩
theorem zje.lt {w : World} {b n : Nat} {f : List UInt8 -> Option Value} (h : zje w b n f) : b < w.heap.size := by
 obtain ⟨es, clock, hb, _⟩ := h
 exact (Array.getElem?_eq_some_iff.1 hb).1
theorem zje.kept {w w' : World} {b n : Nat} {f : List UInt8 -> Option Value} (h : zje w b n f) (hk : w'.heap[b]? = w.heap[b]?) : zje w' b n f := by
 obtain ⟨es, clock, hb, r⟩ := h
 exact ⟨es, clock, hk.trans hb, r⟩
theorem zje.below {w w' : World} {b n : Nat} {f : List UInt8 -> Option Value} (h : zje w b n f) (hk : Below w.heap.size w w') : zje w' b n f := h.kept (hk.block b h.lt)
theorem zje.cong {w : World} {b n n' : Nat} {f f' : List UInt8 -> Option Value} (h : zje w b n f) (hn : n <= n') (hf : ∀ z, f' z = f z) : zje w b n' f' := by
 obtain rfl : f' = f := funext hf
 obtain ⟨es, clock, hb, hs, r⟩ := h
 exact ⟨es, clock, hb, by omega, r⟩
theorem zl3 {P : Program} {k : TypeId} (hk : P.underlying k = some .string) {z : List UInt8} (hz : z.length <= maxLen) : keyOf P k (.string ⟨⟨z⟩⟩) = some (.string z) :=
 WideMaps.keyOf_string_mk (s := ⟨⟨z⟩⟩) hk hz
section
variable {P : Program} {w : World} {k t e : TypeId} {b n : Nat} {f : List UInt8 -> Option Value}
theorem zje.find (hk : P.underlying k = some .string) {es : Array MapEntry} (h : ∀ x ∈ es.toList, ∃ z, x.key = .string ⟨⟨z⟩⟩ /\ z.length <= maxLen /\ f z = some x.val) {z : List UInt8} (hz : z.length <= maxLen) :
   ((Instr.findKey k (.string ⟨⟨z⟩⟩) es.toList).run P w = .ok none w /\ ∀ x ∈ es.toList, x.key ≠ .string ⟨⟨z⟩⟩) \/
   ∃ j x, (Instr.findKey k (.string ⟨⟨z⟩⟩) es.toList).run P w = .ok (some (j, x.val)) w /\ es.toList[j]? = some x /\ x.key = .string ⟨⟨z⟩⟩ /\ f z = some x.val := by
 have K := string_keyed hk
 rcases K.find w (zl3 hk hz) es.toList (fun x hx => by
   obtain ⟨y, hy, hw, _⟩ := h x hx
   exact ⟨_, by rw [hy]; exact zl3 hk hw⟩) with h1 | ⟨j, x, h1, h2, h3⟩
 . exact .inl h1
 . obtain ⟨y, hy, _, hf⟩ := h x (List.mem_of_getElem? h2)
   rw [h3] at hy
   cases hy
   exact .inr ⟨j, x, h1, h2, h3, hf⟩
theorem zje.look_none (hk : P.underlying k = some .string) (ht : P.underlying t = some (.map k e)) (h : zje w b n f) {z : List UInt8} (hz : z.length <= maxLen) (hf : f z = none) {zv : Value} (hzv : (zeroValue e).run P w = .ok zv w) (c : Bool) :
   (Instr.lookup t (.map (some b)) (.string ⟨⟨z⟩⟩) c).run P w = .ok (if c then .tuple #[zv, .bool false] else zv) w := by
 obtain ⟨es, clock, hb, _, he, _, _⟩ := h
 have K := string_keyed hk
 rcases zje.find (w := w) hk he hz with ⟨h1, _⟩ | ⟨j, x, _, _, _, h4⟩
 . simp [Instr.lookup, run_underlying ht, MapKept.run_getObj_map hb, K.check w _ (zl3 hk hz), h1, hzv, Result.andThen]
 . rw [hf] at h4; cases h4
theorem zje.look_some (hk : P.underlying k = some .string) (ht : P.underlying t = some (.map k e)) (h : zje w b n f) {z : List UInt8} (hz : z.length <= maxLen) {v : Value} (hf : f z = some v) (c : Bool) :
   (Instr.lookup t (.map (some b)) (.string ⟨⟨z⟩⟩) c).run P w = .ok (if c then .tuple #[v, .bool true] else v) w := by
 obtain ⟨es, clock, hb, _, he, hex, _⟩ := h
 have K := string_keyed hk
 rcases zje.find (w := w) hk he hz with ⟨_, h2⟩ | ⟨j, x, h1, _, _, h4⟩
 . obtain ⟨x, hx, hxk⟩ := hex z v hf
   exact absurd hxk (h2 x hx)
 . rw [hf] at h4
   obtain rfl : v = x.val := by simpa using h4
   simp [Instr.lookup, run_underlying ht, MapKept.run_getObj_map hb, K.check w _ (zl3 hk hz), h1, Result.andThen]
theorem zje.store (hk : P.underlying k = some .string) (ht : P.underlying t = some (.map k e)) (h : zje w b n f) {z : List UInt8} (hz : z.length <= maxLen) (hf : f z = none) (v : Value) :
   ∃ w', (Instr.mapUpdate t (.map (some b)) (.string ⟨⟨z⟩⟩) v).run P w = .ok () w' /\ zje w' b (n + 1) (zqv f z v) /\ w.grownBy w' (some b) := by
 obtain ⟨es, clock, hb, hs, he, hex, hd⟩ := h
 have K := string_keyed hk
 rcases zje.find (w := w) hk he hz with ⟨h1, h2⟩ | ⟨j, x, _, _, _, h4⟩
 . refine ⟨setBlock w b (.map (es.push ⟨.string ⟨⟨z⟩⟩, v, clock⟩) (clock + 1)), ?_, ⟨_, _, heap_setBlock_same hb _, by simp; omega, ?_, ?_, ?_⟩, ⟨rfl, rfl, rfl, by simp [setBlock], fun i _ hi => heap_setBlock_other hb _ (fun e => hi (by rw [e]))⟩⟩
   . simp [Instr.mapUpdate, run_underlying ht, MapKept.run_getObj_map hb, K.check w false (zl3 hk hz), h1, MapKept.run_setObj_map _ hb, Result.andThen, setBlock]
   . intro x hx
     simp only [Array.toList_push, List.mem_append, List.mem_singleton] at hx
     rcases hx with hx | rfl
     . obtain ⟨y, hy, hw, hfy⟩ := he x hx
       refine ⟨y, hy, hw, ?_⟩
       rw [zml _ _ _ (fun q => h2 x hx (by rw [hy, q])), hfy]
     . exact ⟨z, rfl, hz, zvy _ _ _⟩
   . intro y u hy
     by_cases e1 : y = z
     . exact ⟨⟨.string ⟨⟨z⟩⟩, v, clock⟩, by simp, by rw [e1]⟩
     . rw [zml _ _ _ e1] at hy
       obtain ⟨x, hx, hxk⟩ := hex y u hy
       exact ⟨x, by simp [hx], hxk⟩
   . rw [Array.toList_push, List.pairwise_append]
     refine ⟨hd, by simp, ?_⟩
     intro a ha c hc
     simp only [List.mem_singleton] at hc
     subst hc
     exact h2 a ha
 . rw [hf] at h4; cases h4
end
open Go.ChangeShapes Go.WideShapes Go.Deep
def za7 (w : World) (a : Option Addr) (cap : Nat) (l : List zd) (ps : List zbf) : Prop :=
 ps.length = l.length /\ za6 w 6 a cap (List.zipWith zb7 l ps) /\ ∀ (k : Nat) (c : zd) (p : zbf), l[k]? = some c -> ps[k]? = some p -> zf3 w c p
theorem za7.below {w w' : World} {a : Option Addr} {cap : Nat} {l : List zd} {ps : List zbf} (h : za7 w a cap l ps) (hb : Below w.heap.size w w') : za7 w' a cap l ps :=
 ⟨h.1, h.2.1.below hb, fun k m p hm hp => (h.2.2 k m p hm hp).below hb⟩
theorem za7.cells {w : World} {a : Option Addr} {cap : Nat} {l : List zd} {ps : List zbf} (h : za7 w a cap l ps) {k : Nat} {c : zd} (hx : l[k]? = some c) : ∃ (b : Nat) (off : Nat) (p : zbf), a = some ⟨b, off, none⟩ /\ b < w.heap.size /\ ps[k]? = some p /\ zf3 w c p /\
   w.cell? ⟨b, off + k * 6, none⟩ = some (.string ⟨⟨c.nm⟩⟩) /\ w.cell? ⟨b, off + k * 6 + 1, none⟩ = some (.string ⟨⟨c.sup⟩⟩) /\ w.cell? ⟨b, off + k * 6 + 2, none⟩ = some (.slice p.fa c.faces.length p.fc) /\ w.cell? ⟨b, off + k * 6 + 3, none⟩ = some (.bool c.face) /\
   w.cell? ⟨b, off + k * 6 + 4, none⟩ = some (.slice p.ga c.fields.length p.gc) /\ w.cell? ⟨b, off + k * 6 + 5, none⟩ = some (.slice p.ma c.meths.length p.mc) := by
 obtain ⟨hl, hr, hm⟩ := h
 obtain ⟨hk, hx'⟩ := List.getElem?_eq_some_iff.1 hx
 have hkp : k < ps.length := by omega
 obtain ⟨p, hp⟩ : ∃ p, ps[k]? = some p := ⟨_, List.getElem?_eq_getElem hkp⟩
 have hz : (List.zipWith zb7 l ps)[k]? = some (zb7 c p) := by
   rw [List.getElem?_zipWith, hx, hp]
 obtain ⟨_, h2 | ⟨b, off, rfl, hlt, hc⟩⟩ := hr
 . rw [h2] at hz; simp at hz
 . have hh := hc k _ hz
   exact ⟨b, off, p, rfl, hlt, hp, hm k c p hx hp, hh 0 _ rfl, hh 1 _ rfl, hh 2 _ rfl, hh 3 _ rfl, hh 4 _ rfl, hh 5 _ rfl⟩
section
variable {H : Type} {enc : TypeId × Value -> H} {W : World}
end
abbrev CP := zd × zbf
def z04 : zbf := ⟨none, 0, none, 0, none, 0, []⟩
def zbj (L : List CP) (n : Nm) : Option CP := L.find? (fun cp => cp.1.nm == n)
def fOf (L : List CP) (n : Nm) : Option Value := (zbj L n).map fun cp => zbl cp.1 cp.2
def zav (W : World) (b : Nat) (L : List CP) : Prop := zje W b L.length (fOf L) /\ ∀ cp ∈ L, zf3 W cp.1 cp.2
theorem zav.below {w w' : World} {b : Nat} {L : List CP} (h : zav w b L) (hb : Below w.heap.size w w') : zav w' b L := ⟨h.1.below hb, fun cp hc => (h.2 cp hc).below hb⟩
theorem zav.lt {w : World} {b : Nat} {L : List CP} (h : zav w b L) : b < w.heap.size := h.1.lt
theorem zcm (L : List CP) (n : Nm) : zbi (L.map (·.1)) n = (zbj L n).map (·.1) := by
 unfold zbi zbj
 rw [List.find?_map]
 rfl
theorem zhj {L : List CP} {n : Nm} {cp : CP} (h : zbj L n = some cp) : cp.1.nm = n /\ cp ∈ L := ⟨by simpa using List.find?_some h, List.mem_of_find?_eq_some h⟩
theorem zh6 (L : List CP) (cp : CP) (n : Nm) (h : zbj L cp.1.nm = none) : fOf (L ++ [cp]) n = zqv (fOf L) cp.1.nm (zbl cp.1 cp.2) n := by
 unfold fOf zbj zqv at *
 rw [List.find?_append]
 by_cases e : n = cp.1.nm
 . subst e
   rw [if_pos rfl, h]
   simp
 . rw [if_neg e]
   show Option.map _ _ = Option.map (fun cp => zbl cp.1 cp.2) (List.find? (fun cp => cp.1.nm == n) L)
   cases hf : L.find? (fun cp => cp.1.nm == n) with
   | some x => rfl
   | none =>
     have : (cp.1.nm == n) = false := by simpa using fun q => e q.symm
     simp [List.find?, this]
theorem zke {P : Program} {w : World} (base : Nat) (t ty e : TypeId) (i : TypeInfo) (size : Nat) (ht : P.underlying t = some (.slice e)) (hi : P.info? e = some i)
   (v : Value) (n : Nat) (xs : List Value) (hown : w.ownsRow base e size v n xs) (c : Nat) : (Builtin.append_ #[t, t] ty #[v, .slice none 0 c]).run P w = .ok v w := by
 rcases hown.2 with ⟨rfl, rfl⟩ | ⟨g, cap, cur, rfl, _, _, hnc, _⟩
 . simp [Builtin.append_, run_underlying ht, sizeOf, typeInfo, hi, Builtin.lenOf, Builtin.firstCells]
 . simp [Builtin.append_, run_underlying ht, sizeOf, typeInfo, hi, Builtin.lenOf, Builtin.firstCells, hnc, storeCells]
def z4k (w : World) (size : Nat) (xv : Value) (m : Nat) (news : List Value) : Prop := (∃ c, xv = .slice none 0 c /\ m = 0 /\ news = []) \/ zi3 w size xv m news
theorem zdt {P : Program} {w : World} {t e : TypeId} {size bytes : Nat} (T : zld P t e size bytes) {ops : Array Oper} {o : Oper} {a : Act} {K : Act -> World -> Prop} {Q : Exit -> Act -> World -> Prop} {E : Prop} (hgd : o.guard = none) (s x : Operand)
   (ho : o.op = .call { callee := .builtin .append, args := #[s, x], argTypes := #[t, t] }) (B : Nat) (v : Value) (n : Nat) (xs : List Value) (hs : a.eval s = v) (hown : w.ownsRow B e size v n xs)
   (xv : Value) (m : Nat) (news : List Value) (hx : a.eval x = xv) (hsrc : z4k w size xv m news) (hn : n + m <= 1000000000) (hb : (n + m) * bytes <= 140737488355328) (hB : B <= w.heap.size)
   (h : ∀ v' w', w'.ownsRow B e size v' (n + m) (xs ++ news) -> w.grownBy w' v.ownBlock -> (∀ k, v.ownBlock = some k -> B <= k) -> K (a.put o.dst v') w') :
   if Region.wanted o (yielded ops a.tmps) = true then Oper.wp P o a w K Q else E := by
 have hw : Region.wanted o (yielded ops a.tmps) = true := by simp [Region.wanted, hgd]
 rw [if_pos hw]
 obtain ⟨i, z, hi, hz, hsz, hby, hzs⟩ := T.info
 rcases (show (∃ c, xv = .slice none 0 c /\ m = 0 /\ news = []) \/ (news.length = m * size /\ (∀ u ∈ news, u.oneCell' = true) /\ ∃ ad c, xv = .slice (some ad) m c /\ ∀ j u, news[j]? = some u -> w.cell? (ad.add j) = some u) by
     rcases hsrc with h | ⟨hl, h1, ⟨rfl, rfl⟩ | h⟩
     . exact Or.inl h
     . exact Or.inl ⟨0, rfl, rfl, List.eq_nil_of_length_eq_zero (by simpa using hl)⟩
     . exact Or.inr ⟨hl, h1, h⟩) with ⟨c, rfl, rfl, rfl⟩ | ⟨hl, h1, ad, c, rfl, hc⟩
 . have hr := zke (P := P) B t o.type e i size T.slice hi v n xs hown c
   unfold Oper.wp execOp
   simp only [ho, resolve, invoke, builtin, Sem.run_bind, Sem.run_pure, Result.andThen_ok, List.map_toArray, List.map_cons, List.map_nil, hs, hx, hr]
   exact h v w (by simpa using hown) ⟨rfl, rfl, rfl, Nat.le_refl _, fun _ _ _ => rfl⟩ (fun k hk => (hown.lt k hk).1)
 . exact wp_append_own w s x t ho B e i z size bytes T.slice hi hz hsz hby hzs T.pos v n xs hs hown ad m c news hx hl hc h1 (by unfold maxLen; omega) hb hB (fun v' w' h2 h3 _ => h v' w' h2 h3 (fun k hk => (hown.lt k hk).1))
theorem zz5 : ∀ (L : List (List Value)) (size j : Nat) (u : Value), 0 < size -> (∀ c ∈ L, c.length = size) -> L.flatten[j]? = some u -> ∃ cs, L[j / size]? = some cs /\ cs[j % size]? = some u
 | [], _, j, u, _, _, h => by simp at h
 | c :: L, size, j, u, hs, hl, h => by
   have hc := hl c (by simp)
   simp only [List.flatten_cons] at h
   by_cases hj : j < size
   . rw [List.getElem?_append_left (by omega)] at h
     exact ⟨c, by rw [Nat.div_eq_of_lt hj]; rfl, by rw [Nat.mod_eq_of_lt hj]; exact h⟩
   . rw [List.getElem?_append_right (by omega), hc] at h
     obtain ⟨cs, h1, h2⟩ := zz5 L size (j - size) u hs (fun x hx => hl x (by simp [hx])) h
     refine ⟨cs, ?_, ?_⟩
     . rw [Nat.div_eq_sub_div hs (by omega)]; simpa using h1
     . rw [Nat.mod_eq_sub_mod (by omega)]; exact h2
theorem zf5 {w : World} {a : Option Addr} {cap : Nat} {l : List zal} (h : zcy w a cap l) : z4k w 6 (.slice a l.length cap) l.length (l.map z6).flatten := by
 have hlen : ((l.map z6).flatten).length = l.length * 6 := by
   clear h
   induction l with
   | nil => rfl
   | cons x r ih => simp only [List.map_cons, List.flatten_cons, List.length_append, ih, List.length_cons]; show 6 + r.length * 6 = _; omega
 have hone : ∀ u ∈ (l.map z6).flatten, u.oneCell' = true := by
   intro u hu
   obtain ⟨c, hc, hu⟩ := List.mem_flatten.1 hu
   obtain ⟨x, _, rfl⟩ := List.mem_map.1 hc
   exact ze9 x u hu
 obtain ⟨hle, h2 | ⟨b, off, rfl, _, hc⟩⟩ := h
 . have hl : l = [] := by simpa using h2
   subst hl
   cases a with
   | none => exact Or.inl ⟨cap, rfl, rfl, rfl⟩
   | some ad => exact Or.inr ⟨hlen, hone, Or.inr ⟨ad, cap, rfl, fun j u hj => by simp at hj⟩⟩
 . refine Or.inr ⟨hlen, hone, Or.inr ⟨_, cap, rfl, fun j u hj => ?_⟩⟩
   obtain ⟨cs, h3, h4⟩ := zz5 _ 6 j u (by decide) (by intro c hc; obtain ⟨x, _, rfl⟩ := List.mem_map.1 hc; rfl) hj
   have h5 := hc (j / 6) cs h3 (j % 6) u h4
   have e : (⟨b, off, none⟩ : Addr).add j = ⟨b, off + j / 6 * 6 + j % 6, none⟩ := by
     have e1 : (⟨b, off, none⟩ : Addr).add j = ⟨b, off + j, none⟩ := by unfold Addr.add; split <;> simp_all
     rw [e1]
     congr 1
     omega
   rw [e]; exact h5
open Go.Shelf Go.Lib
theorem z8 {P : Program} {W : World} {t e : TypeId} {size bytes : Nat} (T : zld P t e size bytes) {ops : Array Oper} {rest : List Oper} {o : Oper} {a : Act} {Q : Exit -> Act -> World -> Prop} (hgd : o.guard = none) (s x : Operand)
   (ho : o.op = .call { callee := .builtin .append, args := #[s, x], argTypes := #[t, t] }) (B : Nat) (v : Value) (n : Nat) (xs : List Value) (hs : a.eval s = v) (hown : W.ownsRow B e size v n xs)
   (xv : Value) (m : Nat) (news : List Value) (hx : a.eval x = xv) (hsrc : z4k W size xv m news) (hn : n + m <= 1000000000) (hb : (n + m) * bytes <= 140737488355328) (hB : B <= W.heap.size)
   (h : ∀ v' w', w'.ownsRow B e size v' (n + m) (xs ++ news) -> W.grownBy w' v.ownBlock -> wpList P ops Q rest (a.put o.dst v') w') :
   wpList P ops Q (o :: rest) a W := by
 rcases hsrc with ⟨c, rfl, rfl, rfl⟩ | hsrc
 . obtain ⟨i, z, hi, hz, hsz, hby, hzs⟩ := T.info
   refine wpList_plain hgd fun K hK => ?_
   have hrun := zke (P := P) (w := W) B t o.type e i size T.slice hi v n xs hown c
   unfold Oper.wp
   simp [execOp, ho, resolve, invoke, builtin, hs, hx, hrun, Result.andThen]
   exact hK _ _ (h v W (by simpa using hown) ⟨rfl, rfl, rfl, Nat.le_refl _, fun _ _ _ => rfl⟩)
 . exact zj2 T hgd s x ho B v n xs hs hown xv m news hx hsrc hn hb hB h
theorem zo5 (A : List Nm) : ∀ u ∈ A.map zz, u.oneCell' = true := by
 intro u hu
 obtain ⟨y, _, rfl⟩ := List.mem_map.1 hu
 rfl
theorem zh9 {w : World} {a : Option Addr} {cap : Nat} {A : List Nm} (h : zdl w a cap A) : z4k w 1 (.slice a A.length cap) A.length (A.map zz) := by
 obtain ⟨_, rfl | ⟨b, off, rfl, _, hc⟩⟩ := h
 . cases a with
   | none => exact Or.inl ⟨cap, rfl, rfl, rfl⟩
   | some ad => exact Or.inr ⟨rfl, by simp, Or.inr ⟨ad, cap, rfl, fun j u hj => by simp at hj⟩⟩
 . refine Or.inr ⟨by simp, zo5 A, Or.inr ⟨_, cap, rfl, fun j u hj => ?_⟩⟩
   rw [List.getElem?_map] at hj
   cases hx : A[j]? with
   | none => rw [hx] at hj; cases hj
   | some x =>
     rw [hx] at hj
     simp only [Option.map_some, Option.some.injEq] at hj
     subst hj
     have e : (⟨b, off, none⟩ : Addr).add j = ⟨b, off + j, none⟩ := by unfold Addr.add; split <;> simp_all
     rw [e]; exact hc j x hx
def zqf : Value := .agg #[.string ⟨#[]⟩, .string ⟨#[]⟩, .slice none 0 0, .bool false, .slice none 0 0, .slice none 0 0]
theorem zwk (w : World) : (zeroValue 50).run Tryz.prog w = .ok zqf w := Tryz.zeroValue50 w
theorem zdq {w : World} {b : Nat} {L : List CP} {n : Nm} (h : zav w b L) (hn : n.length <= maxLen) (hf : zbj L n = none) (c : Bool) :
   (Instr.lookup 74 (.map (some b)) (.string ⟨⟨n⟩⟩) c).run Tryz.prog w = .ok (if c then .tuple #[zqf, .bool false] else zqf) w :=
 zje.look_none Tryz.underlying9 Tryz.underlying74 h.1 hn (by unfold fOf; rw [hf]; rfl) (zwk w) c
theorem zcn {w : World} {b : Nat} {L : List CP} {n : Nm} {cp : CP} (h : zav w b L) (hn : n.length <= maxLen) (hf : zbj L n = some cp) (c : Bool) :
   (Instr.lookup 74 (.map (some b)) (.string ⟨⟨n⟩⟩) c).run Tryz.prog w = .ok (if c then .tuple #[zbl cp.1 cp.2, .bool true] else zbl cp.1 cp.2) w :=
 zje.look_some Tryz.underlying9 Tryz.underlying74 h.1 hn (by unfold fOf; rw [hf]; rfl) c
def CL (L : List CP) : List zd := L.map (·.1)
theorem zwn {L : List CP} {n : Nm} (h : zbj L n = none) : zcr (CL L) n = [] := by unfold zcr CL; rw [zcm, h]; rfl
theorem zvm {L : List CP} {n : Nm} {cp : CP} (h : zbj L n = some cp) : zcr (CL L) n = zdy cp.1 := by unfold zcr CL; rw [zcm, h]; rfl
theorem z5d (w : World) (o : Obj) (y : Nm) : ((w.alloc o).alloc (.cells #[zz y] 9)).ownsRow w.heap.size 9 1 (.slice (some ⟨w.heap.size + 1, 0, none⟩) 1 1) 1 [zz y] := by
 have h := World.ownsRow_lit (base := w.heap.size) (e := 9) (size := 1) (w.alloc o) #[zz y] 1 (by simp) (by unfold maxLen; omega) rfl
 have e : (w.alloc o).heap.size = w.heap.size + 1 := by simp
 rw [e] at h
 exact h
theorem z17 {w w4 : World} {o o' : Obj} {n c : Nat} (hg : ((w.alloc o).alloc o').grownBy w4 (Value.slice (some ⟨w.heap.size + 1, 0, none⟩) n c).ownBlock) : Below w.heap.size w w4 :=
 Below.grown (((Below.refl _ _).alloc (Nat.le_refl _) _).alloc (by simp) _) hg (by simp; omega) (fun k hk => by simp [Value.ownBlock] at hk; omega)
theorem z4m {w4 : World} {B : Nat} {x : Nm} {A : List Nm} {v : Value} (ho : w4.ownsRow B 9 1 v (1 + A.length) ([zz x] ++ A.map zz)) : ∃ a cap, v = .slice a (1 + A.length) cap /\ zdl w4 a cap (x :: A) := by
 have h : w4.ownsRow B 9 1 v (x :: A).length ((x :: A).map zz) := by
   rw [List.length_cons, Nat.add_comm]; exact ho
 obtain ⟨a, cap, h1, h2⟩ := zl h
 exact ⟨a, cap, by rw [h1, List.length_cons, Nat.add_comm], h2⟩
def z6j (L : List CP) (A : List Nm) (w : World) (e : Ending) (w' : World) : Prop := (∃ a cap, e = .returned (.slice a A.length cap) /\ zdl w' a cap A /\ (A = [] \/ (∃ cp ∈ L, a = cp.2.fa /\ A = cp.1.faces) \/ ∀ ad, a = some ad -> w.heap.size <= ad.block)) /\ Below w.heap.size w w'
theorem zle (L : List CP) (b : Nat) (n : Nm) (w : World) (hW : zav w b L) (hn : n.length <= maxLen) (hL : ∀ cp ∈ L, cp.1.faces.length <= 100000000) :
   Calls Tryz.prog 119 #[.map (some b), .string ⟨⟨n⟩⟩] w (z6j L (zcr (CL L) n) w) := by
 cases hf : zbj L n with
 | none =>
   have hlk := zdq hW hn hf false
   simp only [Bool.false_eq_true, if_false] at hlk
   rw [zwn hf]
   unfold zqf at hlk
   clear hf hW
   go_enter Tryz.func119, Tryz.ntmps119
   go_wp2_with fail
   go_ret
   exact ⟨⟨none, 0, rfl, ⟨Nat.le_refl _, Or.inl rfl⟩, Or.inl rfl⟩, (Below.refl _ _).alloc (Nat.le_refl _) _⟩
 | some cp =>
   have hlk := zcn hW hn hf false
   simp only [Bool.false_eq_true, if_false] at hlk
   obtain ⟨hnm, hmem⟩ := zhj hf
   have HC := Hq (hW.2 cp hmem).1
   have hfl := hL cp hmem
   rw [zvm hf]
   unfold zbl at hlk
   have HLK := Hq hlk
   have HMEM := Hq hmem
   clear hf hW hnm hmem hlk
   obtain ⟨c, p⟩ := cp
   simp only at HC hfl HLK |-
   by_cases hs : c.sup = []
   . have ha : zdy c = c.faces := by unfold zdy; rw [if_pos hs]
     rw [ha]
     rw [hs] at HLK
     have hlk := HLK.out
     clear ha
     go_enter Tryz.func119, Tryz.ntmps119
     go_wp2_with fail
     go_ret
     exact ⟨⟨_, _, rfl, HC.out.below ((Below.refl _ _).alloc (Nat.le_refl _) _), Or.inr (Or.inl ⟨_, HMEM.out, rfl, rfl⟩)⟩, (Below.refl _ _).alloc (Nat.le_refl _) _⟩
   . have ha : zdy c = c.sup :: c.faces := by unfold zdy; rw [if_neg hs]
     rw [ha]
     obtain ⟨x, r, hx⟩ : ∃ x r, c.sup = x :: r := by
       cases h : c.sup with
       | nil => exact absurd h hs
       | cons x r => exact ⟨x, r, rfl⟩
     rw [hx] at HLK
     rw [hx]
     have hlk := HLK.out
     clear ha hs
     go_enter Tryz.func119, Tryz.ntmps119
     go_wp2_with (at_builtin; refine z8 zdu rfl _ _ rfl w.heap.size _ 1 [zz (x :: r)] rfl ?c0 _ c.faces.length (c.faces.map zz) rfl ?c1 ?c2 ?c3 ?c4 ?_)
     case c0 => exact z5d w _ (x :: r)
     case c1 => exact zh9 (HC.out.below (((Below.refl _ _).alloc (Nat.le_refl _) _).alloc (by simp) _))
     case c2 => omega
     case c3 => omega
     case c4 => simp; omega
     intro v4 w4 ho4 hg4
     have hb4 := Hq (z17 hg4)
     obtain ⟨A4, C4, rfl, hr4⟩ := z4m (x := x :: r) (A := c.faces) ho4
     have HN4 := Hq (show ∀ ad, A4 = some ad -> w.heap.size <= ad.block from fun ad e => (ho4.lt ad.block (by rw [e]; rfl)).1)
     have HR4 := Hq hr4
     clear ho4 hg4 hr4
     go_wp2_with fail
     go_ret
     exact ⟨⟨A4, C4, by rw [List.length_cons, Nat.add_comm]; rfl, HR4.out, Or.inr (Or.inr HN4.out)⟩, hb4.out⟩
def z3x : zd := ⟨[], [], [], false, [], []⟩
def zfs (L : List CP) (cur : Nm) : CP := (zbj L cur).getD (z3x, z04)
def cArr (cp : CP) : Array Value := #[.string ⟨⟨cp.1.nm⟩⟩, .string ⟨⟨cp.1.sup⟩⟩, .slice cp.2.fa cp.1.faces.length cp.2.fc, .bool cp.1.face, .slice cp.2.ga cp.1.fields.length cp.2.gc, .slice cp.2.ma cp.1.meths.length cp.2.mc]
def zn0 (W : World) (g : Nat) (cp : CP) : Prop := W.heap[g]? = some (.cells (cArr cp) 50 (0, 0))
theorem zn0.below {W W' : World} {g : Nat} {cp : CP} (h : zn0 W g cp) (hb : Below W.heap.size W W') : zn0 W' g cp := (hb.block g (Array.getElem?_eq_some_iff.1 h).1).trans h
theorem zn0.lt {W : World} {g : Nat} {cp : CP} (h : zn0 W g cp) : g < W.heap.size := (Array.getElem?_eq_some_iff.1 h).1
theorem zn0.cell {W : World} {g j : Nat} {cp : CP} (h : zn0 W g cp) : W.cell? ⟨g, j, none⟩ = (cArr cp)[j]? := by unfold zn0 at h; simp [World.cell?, h]
theorem zn0.frozen {W : World} {g j : Nat} {cp : CP} (h : zn0 W g cp) : W.frozen? ⟨g, j, none⟩ = false := by unfold zn0 at h; simp [World.frozen?, h]
theorem zn0.cells {W : World} {g : Nat} {cp : CP} (h : zn0 W g cp) : W.cell? ⟨g, 0, none⟩ = some (.string ⟨⟨cp.1.nm⟩⟩) /\ W.cell? ⟨g, 1, none⟩ = some (.string ⟨⟨cp.1.sup⟩⟩) /\ W.cell? ⟨g, 2, none⟩ = some (.slice cp.2.fa cp.1.faces.length cp.2.fc) /\ W.cell? ⟨g, 3, none⟩ = some (.bool cp.1.face) /\ W.cell? ⟨g, 4, none⟩ = some (.slice cp.2.ga cp.1.fields.length cp.2.gc) /\ W.cell? ⟨g, 5, none⟩ = some (.slice cp.2.ma cp.1.meths.length cp.2.mc) :=
 ⟨by rw [h.cell]; rfl, by rw [h.cell]; rfl, by rw [h.cell]; rfl, by rw [h.cell]; rfl, by rw [h.cell]; rfl, by rw [h.cell]; rfl⟩
theorem zn0.grown {W W' : World} {g B n : Nat} {cp : CP} {v : Value} {xs : List Value} (h : zn0 W g cp) (ho : W.ownsRow B 9 1 v n xs) (hg : W.grownBy W' v.ownBlock) : zn0 W' g cp := by
 refine (hg.block g h.lt ?_).trans h
 intro e
 rcases ho.2 with ⟨rfl, _⟩ | ⟨k, cap, cur, rfl, _, hk, _⟩
 . simp [Value.ownBlock] at e
 . simp [Value.ownBlock] at e
   subst e
   unfold zn0 at h
   rw [hk] at h
   simp only [Option.some.injEq, Obj.cells.injEq] at h
   exact absurd h.2.1 (by decide)
theorem zov (W : World) (cp : CP) : zn0 (W.alloc (.cells #[.string ⟨⟨cp.1.nm⟩⟩, .string ⟨⟨cp.1.sup⟩⟩, .slice cp.2.fa cp.1.faces.length cp.2.fc, .bool cp.1.face, .slice cp.2.ga cp.1.fields.length cp.2.gc, .slice cp.2.ma cp.1.meths.length cp.2.mc] 50)) W.heap.size cp := (MapKept.heap_alloc W _).1
theorem zk1 {w : World} {b : Nat} {L : List CP} {n : Nm} (h : zav w b L) (hn : n.length <= maxLen) :
   (Instr.lookup 74 (.map (some b)) (.string ⟨⟨n⟩⟩) false).run Tryz.prog w = .ok (zbl (zfs L n).1 (zfs L n).2) w := by
 unfold zfs
 cases hf : zbj L n with
 | none => exact zdq h hn hf false
 | some cp => exact zcn h hn hf false
theorem z5p {L : List CP} {n : Nm} (h : (zfs L n).1.sup ≠ []) : ∃ c, zbi (CL L) n = some c /\ c = (zfs L n).1 := by
 unfold zfs at *
 unfold CL
 rw [zcm]
 cases hf : zbj L n with
 | none => rw [hf] at h; simp [z3x] at h
 | some cp => exact ⟨cp.1, rfl, rfl⟩
theorem z41 {L : List CP} {n : Nm} (h : (zfs L n).1.sup = []) : zsl (CL L) n := by
 unfold zfs at h
 unfold zsl CL
 rw [zcm]
 cases hf : zbj L n with
 | none => exact Or.inl rfl
 | some cp => rw [hf] at h; exact Or.inr ⟨cp.1, rfl, h⟩
theorem z6c {L : List CP} {n : Nm} (hL : ∀ cp ∈ L, cp.1.sup.length <= 1048576) : (zfs L n).1.sup.length <= 1048576 := by
 unfold zfs
 cases hf : zbj L n with
 | none => simp [z3x]
 | some cp => exact hL cp (zhj hf).2
def zo1 (A : List Nm) (w : World) (e : Ending) (w' : World) : Prop := (∃ v, e = .returned v /\ w'.ownsRow w.heap.size 9 1 v A.length (A.map zz)) /\ Below w.heap.size w w'
def lenOf : Value -> Nat | .slice _ n _ => n | _ => 0
theorem zw4 (L : List CP) (l : List zd) (b : Nat) (n : Nm) (w : World) (hW : zav w b L) (hl : CL L = wl l) (hg : zdf l) (hn : n.length <= 1048576) (hL : ∀ cp ∈ L, cp.1.sup.length <= 1048576) :
   Calls Tryz.prog 171 #[.map (some b), .string ⟨⟨n⟩⟩] w (zo1 (zcx (wl l) n) w) := by
 have HW := Hq hW
 have HL := Hq hl
 have HG := Hq hg
 have HLL := Hq hL
 clear hl hg hL
 have hml : (1048576 : Nat) <= maxLen := by unfold maxLen; omega
 have ho0 : (w.alloc (.cells #[zz n] 9)).ownsRow w.heap.size 9 1 (.slice (some ⟨w.heap.size, 0, none⟩) 1 1) 1 [zz n] := by
   have := World.ownsRow_lit (base := w.heap.size) (e := 9) (size := 1) w #[zz n] 1 (Nat.le_refl _) (by unfold maxLen; omega) rfl
   exact this
 have HO0 := Hq ho0
 have hlk := zk1 (n := n) (hW.below ((Below.refl _ _).alloc (Nat.le_refl _) (.cells #[zz n] 9))) (by omega)
 have HD0 := Hq (zov (w.alloc (.cells #[zz n] 9)) (zfs L n))
 unfold zbl at hlk
 clear ho0 hW
 go_enter Tryz.func171, Tryz.ntmps171
 go_wp2_with fail
 go_loopw [5, 6] (fun v c wr => ∃ (out : List Nm) (cur : Nm) (g : Nat) (A : Option Addr) (C : Nat), Hid (Ln l n out cur) /\ v = .slice A out.length C /\ c = .pointer (some ⟨g, 0, none⟩) /\ wr.ownsRow w.heap.size 9 1 (.slice A out.length C) out.length (out.map zz) /\ Below w.heap.size w wr /\ zn0 wr g (zfs L cur)) (fun v _ _ => 14 - lenOf v)
 case atStart => exact ⟨[n], n, w.heap.size + 1, some ⟨w.heap.size, 0, none⟩, 1, Hq (Ln.start l n), rfl, by simp, HO0.out.alloc _, ((Below.refl _ _).alloc (Nat.le_refl _) _).alloc (by simp) _, by have := HD0.out; simpa using this⟩
 case round =>
   obtain ⟨out, cur, g, A, C, HLN, rfl, rfl, ho, hb, hd⟩ := hrel
   have HO := Hq ho
   have HB := Hq hb
   have HD := Hq hd
   have hsz := hb.size
   have hgl := hd.lt
   obtain ⟨c0, c1, c2, c3, c4, c5⟩ := hd.cells
   have hlen := HLN.out.len HG.out
   clear ho hb hd
   by_cases hs : (zfs L cur).1.sup = []
   . have HE := Hq (HLN.out.done HG.out (by rw [<- HL.out]; exact z41 hs))
     rw [hs] at c1
     clear hs
     go_wp2_with fail
     go_ret
     exact ⟨⟨_, rfl, by rw [HE.out]; exact HO.out⟩, HB.out⟩
   . obtain ⟨c, hc, hce⟩ := z5p hs
     have HN := Hq (HLN.out.step HG.out (by rw [<- HL.out]; exact hc) (by rw [hce]; exact hs))
     have hsl := z6c (n := cur) HLL.out
     rw [hce] at HN
     obtain ⟨x, r, hx⟩ : ∃ x r, (zfs L cur).1.sup = x :: r := by
       cases h : (zfs L cur).1.sup with
       | nil => exact absurd h hs
       | cons x r => exact ⟨x, r, rfl⟩
     rw [hx] at c1 HN hsl
     clear hs hc hce
     go_wp2_with (at_builtin; refine zt zdu rfl _ _ rfl w.heap.size _ out.length (out.map zz) rfl ?c0 [zz (x :: r)] rfl ?c1 _ rfl ?cg ?c2 ?c3 ?c4 ?_)
     case c0 => exact HO.out
     case c1 => intro u hu; rw [List.mem_singleton.1 hu]; rfl
     case cg => rfl
     case c2 => omega
     case c3 => omega
     case c4 => exact hsz
     intro v4 w4 ho4 hg4
     have hb4 := zbg hsz HO.out hg4
     have HB4 := Hq (HB.out.trans hb4)
     have HD4 := Hq ((HD.out.below ((Below.refl _ _).alloc (Nat.le_refl _) _)).grown (HO.out.alloc _) hg4)
     have hw4 := HB4.out.size
     have ho5 : w4.ownsRow w.heap.size 9 1 v4 (out ++ [x :: r]).length ((out ++ [x :: r]).map zz) := by
       rw [List.length_append, List.length_singleton, List.map_append]; exact ho4
     obtain ⟨A4, C4, rfl, _⟩ := zy ho5
     have HO5 := Hq ho5
     have hll : (out ++ [x :: r]).length = out.length + 1 := by simp
     obtain ⟨e0, e1, e2, e3, e4, e5⟩ := HD4.out.cells
     rw [hx] at e1
     have hlk4 := zk1 (n := x :: r) ((HW.out.below HB4.out).below ((Below.refl _ _).alloc (Nat.le_refl _) (.cells #[.string ⟨⟨(zfs L cur).1.nm⟩⟩, .string ⟨⟨x :: r⟩⟩, .slice (zfs L cur).2.fa (zfs L cur).1.faces.length (zfs L cur).2.fc, .bool (zfs L cur).1.face, .slice (zfs L cur).2.ga (zfs L cur).1.fields.length (zfs L cur).2.gc, .slice (zfs L cur).2.ma (zfs L cur).1.meths.length (zfs L cur).2.mc] 50))) (Nat.le_trans hsl hml)
     unfold zbl at hlk4
     clear ho4 hg4 hb4 ho5 hx
     generalize hcp2 : zfs L (x :: r) = cp2 at *
     have HCP := Hq hcp2
     clear hcp2
     go_wp2_with fail
     go_roundw
     case rel => exact ⟨out ++ [x :: r], x :: r, w4.heap.size, A4, C4, HN, rfl, rfl, HO5.out.alloc _, HB4.out.alloc hw4 _, by rw [HCP.out]; exact zov w4 cp2⟩
     case measure => simp [lenOf]; omega
open Go.Sort
theorem z3d {w : World} {B : Nat} {e : TypeId} {size : Nat} {v : Value} {n : Nat} {xs : List Value} (h : w.ownsRow B e size v n xs) (os : Array Obj) : (grow w os).ownsRow B e size v n xs := by
 refine h.kept (row := none) ⟨rfl, rfl, rfl, by simp [grow], fun k hk _ => ?_⟩ (by cases hv : Value.ownBlock v <;> simp)
 simp only [grow]
 rw [Array.getElem?_append_left hk]
theorem z1p (A : List Nm) (B : Nat) (g cap : Nat) (w0 w : World) (hb : Below B w0 w) (hg : B <= g) (h : w.ownsRow B 9 1 (.slice (some ⟨g, 0, none⟩) A.length cap) A.length (A.map zz)) (hl : A.length <= 1000000) :
   Calls Tryz.prog 127 #[.slice (some ⟨g, 0, none⟩) A.length cap] w fun e w' => e = .returned (.tuple #[]) /\ Below B w0 w' /\ w'.ownsRow B 9 1 (.slice (some ⟨g, 0, none⟩) A.length cap) A.length ((A.mergeSort (fun x y => decide (x <= y))).map zz) := by
 obtain ⟨g', cap', hv, _, hlt, hle, _, hzl, hH⟩ := holds_of_ownsRow (enc := encStr) (zs := A) h (by simp)
 simp only [Value.slice.injEq, Option.some.injEq, Addr.mk.injEq] at hv
 obtain ⟨⟨rfl, _, _⟩, _, rfl⟩ := hv
 refine (Tryz.slices_Sort_string g 0 cap A w hH hlt (by omega)).mono ?_
 rintro e w' ⟨rfl, n, os, rfl⟩
 refine ⟨rfl, ?_, ?_⟩
 . have h1 := below_putRow (enc := encStr) (q := n) (d := (A.mergeSort (fun x y => decide (x <= y))).toArray) hb hg
   exact ⟨h1.os, h1.tape, h1.output, Nat.le_trans h1.size (by simp [grow]), fun k hk => by
     rw [<- h1.block k hk]
     simp only [grow]
     have hs1 : w.heap.size <= (putRow encStr (Go.Sort.ahead w n) g 0 (A.mergeSort (fun x y => decide (x <= y))).toArray).heap.size := by simp [putRow, mapBlock, Go.Sort.ahead]
     rw [Array.getElem?_append_left (Nat.lt_of_lt_of_le (show k < w.heap.size by omega) hs1)]⟩
 . have h2 := ownsRow_putRow (enc := encStr) (q := n) (k := A.length) (ys := A.mergeSort (fun x y => decide (x <= y))) h (by simp) (Nat.le_refl _)
   rw [List.take_of_length_le (by simp)] at h2
   exact z3d h2 os
theorem zjv {W : World} {ops : Array Oper} {rest : List Oper} {o : Oper} {a : Act} {Q : Exit -> Act -> World -> Prop} (hgd : o.guard = none) (s x : Operand)
   (ho : o.op = .call { callee := .builtin .append, args := #[s, x], argTypes := #[35, 35] }) (B : Nat) (v : Value) (n : Nat) (xs : List Value) (hs : a.eval s = v) (hown : W.ownsRow B 9 1 v n xs)
   (y : Nm) (g : Nat) (hx : a.eval x = .slice (some ⟨g, 0, none⟩) 1 1) (hg : g = W.heap.size) (hn : n + 1 <= 1000000000) (hB : B <= W.heap.size)
   (h : ∀ g' cap w', w'.ownsRow B 9 1 (.slice (some ⟨g', 0, none⟩) (n + 1) cap) (n + 1) (xs ++ [zz y]) -> (W.alloc (.cells #[zz y] 9)).grownBy w' v.ownBlock -> (v.ownBlock = some g' \/ g' = W.heap.size + 1) -> wpList Tryz.prog ops Q rest (a.put o.dst (.slice (some ⟨g', 0, none⟩) (n + 1) cap)) w') :
   wpList Tryz.prog ops Q (o :: rest) a (W.alloc (.cells #[zz y] 9)) := by
 subst hg
 obtain ⟨i, z, hi, hz, hsz, hby, hzs⟩ := zdu.info
 exact wpList_append_lies _ hgd s x _ ho B 9 i z 1 16 zdu.slice hi hz hsz hby hzs (by omega) v n xs hs (hown.alloc _) ⟨W.heap.size, 0, none⟩ 1 1 [zz y] hx (by simp) (fun j u hj => zdj W [zz y] 9 j u hj) (by intro u hu; rw [List.mem_singleton.1 hu]; rfl) (by omega) (by unfold maxLen; omega) (by omega) (by simp; omega) (W.heap.size + 1) (by simp) (fun g' cap w' h2 h3 h4 _ => h g' cap w' h2 h3 h4)
theorem zww {W w' : World} {o : Obj} {a : Option Addr} {cap g : Nat} {A : List Nm} {n c : Nat} (h : zdl W a cap A) (hg : (W.alloc o).grownBy w' (Value.slice (some ⟨g, 0, none⟩) n c).ownBlock) (hne : A = [] \/ ∀ ad, a = some ad -> ad.block ≠ g) : zdl w' a cap A := by
 obtain ⟨h1, h2⟩ := h
 refine ⟨h1, ?_⟩
 rcases h2 with h2 | ⟨b, off, rfl, hlt, hc⟩
 . exact Or.inl h2
 . rcases hne with hne | hne
   . exact Or.inl hne
   . refine Or.inr ⟨b, off, rfl, ?_, fun j x hx => ?_⟩
     . exact Nat.lt_of_lt_of_le hlt (by have := hg.size; simp at this; omega)
     . have hb : b ≠ g := hne _ rfl
       rw [World.cell?_of_block (w := W) ((hg.block b (by simp; omega) (by simp [Value.ownBlock]; exact fun e => hb e)).trans (Below.heap_alloc W o b hlt))]
       exact hc j x hx
theorem zsr {al : List Nm} {j : Nat} {x : Nm} (out : List Nm) (h : al[j]? = some x) : zdx out (al.drop j) = zdx (if out.contains x then out else out ++ [x]) (al.drop (j + 1)) := by
 obtain ⟨hj, rfl⟩ := List.getElem?_eq_some_iff.1 h
 rw [List.drop_eq_getElem_cons hj, zdx]
structure Inn (L : List zd) (U : List Nm) (n : Nm) (i : Nat) (al : List Nm) (j : Nat) (out : List Nm) : Prop where
 sub : ∀ x ∈ out, x ∈ U
 nd : out.Nodup
 fin : zn6 L U n (zdx out (al.drop j)) (i + 1)
 asU : ∀ a ∈ al, a ∈ U
theorem Inn.step {L : List zd} {U : List Nm} {n : Nm} {i j : Nat} {al out : List Nm} {x : Nm} (h : Inn L U n i al j out) (hx : al[j]? = some x) : Inn L U n i al (j + 1) (if out.contains x then out else out ++ [x]) := by
 refine ⟨?_, ?_, by rw [<- zsr out hx]; exact h.fin, h.asU⟩
 . intro y hy
   split at hy
   . exact h.sub y hy
   . rcases List.mem_append.1 hy with h1 | h1
     . exact h.sub y h1
     . rw [List.mem_singleton.1 h1]; exact h.asU x (List.mem_of_getElem? hx)
 . split
   . exact h.nd
   . rename_i hc
     rw [List.nodup_append]
     refine ⟨h.nd, by simp, ?_⟩
     intro a ha b hb e
     rw [List.mem_singleton] at hb
     subst hb
     subst e
     exact hc (by simpa using ha)
theorem Inn.len {L : List zd} {U : List Nm} {n : Nm} {i j : Nat} {al out : List Nm} (h : Inn L U n i al j out) : out.length <= U.length := zk4 h.nd h.sub
theorem zlv (L : List CP) (U : List Nm) (b : Nat) (n : Nm) (w : World) (hW : zav w b L) (hC : zj3 (CL L) U) (hnU : n ∈ U) (hU : U.length <= 50) (hUl : ∀ x ∈ U, x.length <= 1048576) (hL : ∀ cp ∈ L, cp.1.faces.length <= 100000000) :
   Calls Tryz.prog 85 #[.map (some b), .string ⟨⟨n⟩⟩] w (zo1 (every (CL L) n) w) := by
 have HW := Hq hW
 have HC := Hq hC
 have HUL := Hq hUl
 have HLL := Hq hL
 have HNU := Hq hnU
 clear hC hUl hL hnU
 have ho0 : (w.alloc (.cells #[zz n] 9)).ownsRow w.heap.size 9 1 (.slice (some ⟨w.heap.size, 0, none⟩) 1 1) 1 [zz n] := by
   have := World.ownsRow_lit (base := w.heap.size) (e := 9) (size := 1) w #[zz n] 1 (Nat.le_refl _) (by unfold maxLen; omega) rfl
   exact this
 have HO0 := Hq ho0
 clear ho0 hW
 go_enter Tryz.func85, Tryz.ntmps85
 go_wp2_with fail
 go_loopw [5, 6] (fun v i wr => ∃ (out : List Nm) (k : Nat) (A : Option Addr) (C : Nat), Hid (zn6 (CL L) U n out k) /\ k <= out.length /\ i = .int .i64 k /\ v = .slice A out.length C /\ wr.ownsRow w.heap.size 9 1 (.slice A out.length C) out.length (out.map zz) /\ Below w.heap.size w wr) (fun _ i _ => 60 - (RowKit.intOf i).toNat)
 case atStart => exact ⟨[n], 0, some ⟨w.heap.size, 0, none⟩, 1, Hq (zn6.start HNU.out), by simp, rfl, rfl, HO0.out, (Below.refl _ _).alloc (Nat.le_refl _) _⟩
 case round =>
   obtain ⟨out, k, A, C, HS, hk, rfl, rfl, ho, hb⟩ := hrel
   have HO := Hq ho
   have HB := Hq hb
   have hsz := hb.size
   have hlen := HS.out.len
   by_cases hlk : k < out.length
   . obtain ⟨x, hx⟩ : ∃ x, out[k]? = some x := ⟨_, List.getElem?_eq_getElem hlk⟩
     obtain ⟨a', cap', hv', hsr⟩ := zl ho
     simp only [Value.slice.injEq] at hv'
     obtain ⟨rfl, _, rfl⟩ := hv'
     obtain ⟨b1, off, rfl, hlt, d0⟩ := zbr hsr hx
     obtain ⟨g1, cg, hg1, hgB, _⟩ := ho.form (by omega)
     simp only [Value.slice.injEq, Option.some.injEq, Addr.mk.injEq] at hg1
     obtain ⟨⟨rfl, rfl, _⟩, _, rfl⟩ := hg1
     have HOB := Hq hgB
     rw [Nat.zero_add] at d0
     have hxU := HS.out.sub x (List.mem_of_getElem? hx)
     have hml : (1048576 : Nat) <= maxLen := by unfold maxLen; omega
     have HAB := Hq (zle L b x wr (HW.out.below hb) (Nat.le_trans (HUL.out x hxU) hml) HLL.out)
     have HN := Hq (HS.out.step hU HC.out hx)
     have hasU := HC.out x hxU
     have HAU := Hq hasU
     have hal : (zcr (CL L) x).length <= 200000000 := by
       unfold zcr
       cases hf : zbi (CL L) x with
       | none => simp
       | some c =>
         obtain ⟨_, hm⟩ := zfr hf
         obtain ⟨cp, hcp, rfl⟩ := List.mem_map.1 hm
         have := HLL.out cp hcp
         simp only [Option.elim, zdy]
         split
         . omega
         . simp; omega
     generalize zcr (CL L) x = al at HAB HN HAU hal
     clear ho hb hsr hx hasU
     go_wp2_with fail
     refine HAB.out.mono ?_
     rintro e w2 ⟨⟨aa, ac, rfl, hr2, hap⟩, hb2⟩
     have HAP := Hq (show al = [] \/ ∀ ad, aa = some ad -> ad.block ≠ b1 from by
       rcases hap with h | ⟨cp, hcp, h1, h2⟩ | h
       . exact Or.inl h
       . by_cases h0 : al = []
         . exact Or.inl h0
         . right
           intro ad had
           have hfa := (HW.out.2 cp hcp).1
           rw [<- h2, <- h1] at hfa
           obtain ⟨_, h3 | ⟨b', off', h4, h5, _⟩⟩ := hfa
           . exact absurd h3 h0
           . rw [h4] at had
             cases had
             have := HOB.out
             show b' ≠ b1
             omega
       . right
         intro ad had
         have := h ad had
         omega)
     have HR2 := Hq hr2
     have HB2 := Hq (zc HB.out hb2)
     have HO2 := Hq (zad HO.out hb2)
     have HI0 := Hq (show Inn (CL L) U n k al 0 out from ⟨HS.out.sub, HS.out.nd, HN.out, HAU.out⟩)
     clear hr2 hb2
     go_wp2_with fail
     go_loopw [24, 5] (fun j v wq => ∃ (m : Nat) (out2 : List Nm) (A2 : Option Addr) (C2 : Nat), Hid (Inn (CL L) U n k al m out2) /\ m <= al.length /\ j = .int .i64 m /\ v = .slice A2 out2.length C2 /\ wq.ownsRow w.heap.size 9 1 (.slice A2 out2.length C2) out2.length (out2.map zz) /\ Below w.heap.size w wq /\ zdl wq aa ac al /\ Hid (∃ g2, A2 = some ⟨g2, 0, none⟩ /\ (al = [] \/ ∀ ad, aa = some ad -> ad.block ≠ g2))) (fun j _ _ => al.length - (RowKit.intOf j).toNat)
     case atStart => exact ⟨0, out, _, _, HI0, by omega, rfl, rfl, HO2.out, HB2.out, HR2.out, Hq ⟨_, rfl, HAP.out⟩⟩
     case round =>
       obtain ⟨m, out2, A2, C2, HI, hm, rfl, rfl, ho, hb, hr, HG2⟩ := hrel
       obtain ⟨g2, rfl, hap2⟩ := HG2.out
       have HAP2 := Hq hap2
       clear hap2 HG2
       have HO3 := Hq ho
       have HB3 := Hq hb
       have HR3 := Hq hr
       have hszq := hb.size
       have hlen2 := HI.out.len
       by_cases hmk : m < al.length
       . obtain ⟨y, hy⟩ : ∃ y, al[m]? = some y := ⟨_, List.getElem?_eq_getElem hmk⟩
         obtain ⟨b3, off3, rfl, hlt3, e0⟩ := zbr hr hy
         obtain ⟨a4, cap4, hv4, hsr4⟩ := zl ho
         simp only [Value.slice.injEq] at hv4
         obtain ⟨rfl, _, rfl⟩ := hv4
         have HCT := Hq (zc9 out2 _ out2.length _ y _ hsr4 rfl (by omega))
         have HI2 := Hq (HI.out.step hy)
         clear ho hb hr hy hsr4
         cases hc : out2.contains y with
         | true =>
           rw [hc] at HCT HI2
           simp only [if_true] at HI2
           clear hc
           go_wp2_with fail
           refine HCT.out.mono ?_
           rintro e w3 ⟨rfl, rfl⟩
           go_wp2_with fail
           go_roundw
           case rel => exact ⟨m + 1, out2, _, C2, HI2, by omega, by go_num, rfl, HO3.out, HB3.out, HR3.out, Hq ⟨g2, rfl, HAP2.out⟩⟩
           case measure => simp [RowKit.intOf]; omega
         | false =>
           rw [hc] at HCT HI2
           simp only [Bool.false_eq_true, if_false] at HI2
           clear hc
           go_wp2_with fail
           refine HCT.out.mono ?_
           rintro e w3 ⟨rfl, rfl⟩
           go_wp2_with (at_builtin; refine zjv rfl _ _ rfl w.heap.size _ out2.length (out2.map zz) rfl ?c0 y _ rfl ?cg ?c2 ?c4 ?_)
           case c0 => exact HO3.out
           case cg => rfl
           case c2 => omega
           case c4 => exact hszq
           intro g4 C4 w4 ho4 hg4 hat
           have hb4 := zbg hszq HO3.out hg4
           have HB4 := Hq (HB3.out.trans hb4)
           have ho5 : w4.ownsRow w.heap.size 9 1 (.slice (some ⟨g4, 0, none⟩) (out2.length + 1) C4) (out2 ++ [y]).length ((out2 ++ [y]).map zz) := by
             rw [List.length_append, List.length_singleton, List.map_append]; exact ho4
           have HO5 := Hq ho5
           have HR4 := Hq (zww HR3.out hg4 HAP2.out)
           have HAP4 := Hq (show al = [] \/ ∀ ad, some (⟨b3, off3, none⟩ : Addr) = some ad -> ad.block ≠ g4 from by
             rcases HAP2.out with h | h
             . exact Or.inl h
             . right
               intro ad had
               cases had
               rcases hat with e | e
               . simp [Value.ownBlock] at e
                 rw [<- e]; exact h _ rfl
               . show b3 ≠ g4
                 omega)
           clear ho4 hg4 hb4 ho5 hat
           go_wp2_with fail
           go_roundw
           case rel => exact ⟨m + 1, out2 ++ [y], _, C4, HI2, by omega, by go_num, by simp, by simpa using HO5.out, HB4.out, HR4.out, Hq ⟨g4, rfl, HAP4.out⟩⟩
           case measure => simp [RowKit.intOf]; omega
       . obtain rfl : m = al.length := by omega
         have hf := HI.out.fin
         rw [List.drop_length] at hf
         have HF := Hq (show zn6 (CL L) U n out2 (k + 1) from hf)
         have hl2 := hf.le
         clear hf ho hb hr
         go_wp2_with fail
         go_roundw
         case rel => exact ⟨out2, k + 1, _, C2, HF, hl2, by go_num, rfl, HO3.out, HB3.out⟩
         case measure => simp [RowKit.intOf]; omega
   . obtain rfl : k = out.length := by omega
     have HE := Hq HS.out.done
     obtain ⟨g, cap, cur, hv, hgB, _⟩ : ∃ g cap cur, (Value.slice A out.length C) = .slice (some ⟨g, 0, none⟩) out.length cap /\ w.heap.size <= g /\ wr.heap[g]? = some (.cells cur 9 (0, 0)) := by
       rcases ho.2 with ⟨h1, h2⟩ | ⟨g, cap, cur, h1, h2, h3, _⟩
       . have := HS.out.st
         rw [List.eq_nil_of_length_eq_zero h2] at this
         cases this
       . exact ⟨g, cap, cur, h1, h2, h3⟩
     simp only [Value.slice.injEq] at hv
     obtain ⟨rfl, _, rfl⟩ := hv
     have HST := Hq (z1p out w.heap.size g C w wr hb hgB ho (by omega))
     clear ho hb
     go_wp2_with fail
     refine HST.out.mono ?_
     rintro e w2 ⟨rfl, hb2, ho2⟩
     have HB2 := Hq hb2
     have HO2 := Hq ho2
     clear hb2 ho2
     go_wp2_with fail
     go_ret
     have hee : every (CL L) n = out.mergeSort (fun x y => decide (x <= y)) := by unfold every; rw [HE.out]
     exact ⟨⟨_, rfl, by rw [hee, List.length_mergeSort]; exact HO2.out⟩, HB2.out⟩
def zg4 : List CP := [(zhy, z04), (zoc, z04)]
theorem zt2 (cs : List CP) : CL (zg4 ++ cs) = wl (CL cs) := rfl
def z1z (w : World) (e : Ending) (w' : World) : Prop := ∃ b, e = .returned (.map (some b)) /\ zav w' b zg4 /\ w.heap.size <= b /\ Below w.heap.size w w'
theorem zrz (w : World) : Calls Tryz.prog 76 #[] w (z1z w) := by
 have h0 := zje.made w
 obtain ⟨wA, hrA, hSA, hgA⟩ := h0.store (P := Tryz.prog) (k := 9) (t := 74) (e := 50) Tryz.underlying9 Tryz.underlying74 (z := zbq) (by decide) rfl (zbl zhy z04)
 obtain ⟨wB, hrB, hSB, hgB⟩ := hSA.store (P := Tryz.prog) (k := 9) (t := 74) (e := 50) Tryz.underlying9 Tryz.underlying74 (z := ztl) (by decide) (by decide) (zbl zoc z04)
 have hfin : zav wB w.heap.size zg4 := by
   refine ⟨hSB.cong (Nat.le_refl _) (fun z => ?_), ?_⟩
   . have e1 := zh6 [(zhy, z04)] (zoc, z04) z (by decide)
     have e2 : fOf [(zhy, z04)] = zqv (fun _ => none) zbq (zbl zhy z04) := by
       funext y
       exact zh6 [] (zhy, z04) y rfl
     rw [e2] at e1
     exact e1
   . intro cp hcp
     simp only [zg4, List.mem_cons, List.mem_nil_iff, or_false] at hcp
     rcases hcp with rfl | rfl <;> exact ⟨⟨Nat.le_refl _, Or.inl rfl⟩, ⟨Nat.le_refl _, Or.inl rfl⟩, ⟨rfl, ⟨Nat.le_refl _, Or.inl rfl⟩, fun k m p hm => by simp [zhy, zoc] at hm⟩⟩
 have hbel : Below w.heap.size w wB := (((Below.refl w.heap.size w).alloc (Nat.le_refl _) _).grown hgA (by simp) (fun k hk => by cases hk; exact Nat.le_refl _)).grown hgB (by have := hgA.size; simp at this; omega) (fun k hk => by cases hk; exact Nat.le_refl _)
 have HFIN := Hq hfin
 have HBEL := Hq hbel
 have hrA' : (Instr.mapUpdate 74 (.map (some w.heap.size)) (.string ⟨#[79, 98, 106, 101, 99, 116]⟩) (.agg #[.string ⟨#[79, 98, 106, 101, 99, 116]⟩, .string ⟨#[]⟩, .slice none 0 0, .bool false, .slice none 0 0, .slice none 0 0])).run Tryz.prog (w.alloc (.map #[] 0)) = .ok () wA := hrA
 have hrB' : (Instr.mapUpdate 74 (.map (some w.heap.size)) (.string ⟨#[70, 97, 117, 108, 116]⟩) (.agg #[.string ⟨#[70, 97, 117, 108, 116]⟩, .string ⟨#[79, 98, 106, 101, 99, 116]⟩, .slice none 0 0, .bool false, .slice none 0 0, .slice none 0 0])).run Tryz.prog wA = .ok () wB := hrB
 clear h0 hrA hSA hgA hrB hSB hgB hfin hbel
 have m1 := run_makeMap (P := Tryz.prog) 74
 go_enter Tryz.func76, Tryz.ntmps76
 go_wp2_with fail
 go_ret
 exact ⟨_, rfl, HFIN.out, Nat.le_refl _, HBEL.out⟩
theorem z3v {L : List CP} {n : Nm} {f : Bool} (h : zbj L n = none) : zcd (CL L) n f = 3 := by unfold zcd CL; rw [zcm, h]; rfl
theorem z26 {L : List CP} {n : Nm} {f : Bool} {cp : CP} (h : zbj L n = some cp) : zcd (CL L) n f = if cp.1.face = f then 0 else 7 := by unfold zcd CL; rw [zcm, h]; rfl
theorem zew {L : List CP} {n : Nm} (h : zbj L n = none) : zbi (CL L) n = none := by unfold CL; rw [zcm, h]; rfl
theorem zem {L : List CP} {n : Nm} {cp : CP} (h : zbj L n = some cp) : zbi (CL L) n = some cp.1 := by unfold CL; rw [zcm, h]; rfl
theorem zqh (L : List CP) (b : Nat) (n : Nm) (f : Bool) (w : World) (hW : zav w b L) (hn : n.length <= maxLen) :
   Calls Tryz.prog 117 #[.map (some b), .string ⟨⟨n⟩⟩, .bool f] w fun e w' => e = .returned (zaj (zcd (CL L) n f)) /\ Below w.heap.size w w' := by
 cases hf : zbj L n with
 | none =>
   have hlk := zdq hW hn hf true
   simp only [if_true] at hlk
   unfold zqf at hlk
   rw [z3v hf]
   clear hW hf
   go_enter Tryz.func117, Tryz.ntmps117
   go_wp2_with fail
   go_ret
   exact ⟨rfl, (Below.refl _ _).alloc (Nat.le_refl _) _⟩
 | some cp =>
   have hlk := zcn hW hn hf true
   simp only [if_true] at hlk
   unfold zbl at hlk
   rw [z26 hf]
   clear hW hf
   obtain ⟨⟨nm, sup, faces, face, fields, meths⟩, p⟩ := cp
   simp only at hlk |-
   cases face <;> cases f
   all_goals
     go_enter Tryz.func117, Tryz.ntmps117
     go_wp2_with fail
     go_ret
     exact ⟨rfl, (Below.refl _ _).alloc (Nat.le_refl _) _⟩
theorem z2m (l : List Nm) (a : Option Addr) (cap : Nat) (w : World) (lb : Array Value) (q : Nm -> Bool) (h : zdl w a cap l) (hl : l.length <= 1000000000) (hq : ∀ (k : Nat) (x : Nm), l[k]? = some x -> zna 120 lb (zz x) (q x) w) :
   Calls Tryz.prog 157 #[.slice a l.length cap, .func (.func 120) #[] lb] w fun e w' => (∃ i : Int, e = .returned (.int .i64 i) /\ decide (0 <= i) = l.any q) /\ Below w.heap.size w w' := by
 have HQ := Hq hq
 have HL := Hq h
 clear hq h
 go_enter Tryz.func157, Tryz.ntmps157
 go_wp2_with fail
 go_loopw [8] (fun i wr => ∃ k : Nat, k <= l.length /\ i = .int .i64 k /\ Below w.heap.size w wr /\ Hid (∀ x ∈ l.take k, q x = false)) (fun i _ => l.length - (RowKit.intOf i).toNat)
 case atStart => exact ⟨0, by omega, rfl, Below.refl _ _, Hq (by simp)⟩
 case round =>
   obtain ⟨k, hk, rfl, hb, HZ⟩ := hrel
   have HB := Hq hb
   by_cases hlk : k < l.length
   . obtain ⟨x, hx⟩ : ∃ x, l[k]? = some x := ⟨_, List.getElem?_eq_getElem hlk⟩
     obtain ⟨b, off, rfl, hlt, c0⟩ := zbr (HL.out.below hb) hx
     have HP := Hq (HQ.out k x hx wr hb)
     have HX := Hq hx
     unfold zz at HP
     clear hx hb
     cases hr : q x with
     | true =>
       rw [hr] at HP
       have HA := Hq (zpa HX.out hr)
       clear hr
       go_wp2_with fail
       refine HP.out.mono ?_
       rintro e w2 ⟨rfl, hb2⟩
       have HB2 := Hq hb2
       clear hb2
       go_wp2_with fail
       go_ret
       exact ⟨⟨k, rfl, by rw [HA.out]; simp⟩, HB2.out⟩
     | false =>
       rw [hr] at HP
       have HZ2 := Hq (za8 HZ.out HX.out hr)
       clear hr
       go_wp2_with fail
       refine HP.out.mono ?_
       rintro e w2 ⟨rfl, hb2⟩
       have HB2 := Hq hb2
       clear hb2
       go_wp2_with fail
       go_roundw
       case rel => exact ⟨k + 1, by omega, by go_num, HB2.out, HZ2⟩
       case measure => simp [RowKit.intOf]; omega
   . obtain rfl : k = l.length := by omega
     have HA := Hq (zkz (by have := HZ.out; rwa [List.take_length] at this))
     go_wp2_with fail
     go_ret
     exact ⟨⟨-1, rfl, by rw [HA.out]; rfl⟩, HB.out⟩
theorem zsd (l : List Nm) (a : Option Addr) (cap : Nat) (w : World) (lb : Array Value) (q : Nm -> Bool) (h : zdl w a cap l) (hl : l.length <= 1000000000) (hq : ∀ (k : Nat) (x : Nm), l[k]? = some x -> zna 120 lb (zz x) (q x) w) :
   Calls Tryz.prog 118 #[.slice a l.length cap, .func (.func 120) #[] lb] w fun e w' => e = .returned (.bool (l.any q)) /\ Below w.heap.size w w' := by
 have HI := Hq (z2m l a cap w lb q h hl hq)
 clear hq h
 go_enter Tryz.func118, Tryz.ntmps118
 go_wp2_with fail
 refine HI.out.mono ?_
 rintro e w2 ⟨⟨i, rfl, hi⟩, hb2⟩
 have H1 := Hq hi
 have HB2 := Hq hb2
 clear hi hb2
 go_wp2_with fail
 go_ret
 exact ⟨zaa H1.out, HB2.out⟩
def z48 (W : World) (g1 g2 b : Nat) (n : Nm) : Prop := g1 < W.heap.size /\ g2 < W.heap.size /\ W.cell? ⟨g1, 0, none⟩ = some (.map (some b)) /\ W.cell? ⟨g2, 0, none⟩ = some (.string ⟨⟨n⟩⟩)
theorem z48.below {W W' : World} {g1 g2 b : Nat} {n : Nm} (h : z48 W g1 g2 b n) (hb : Below W.heap.size W W') : z48 W' g1 g2 b n :=
 ⟨Nat.lt_of_lt_of_le h.1 hb.size, Nat.lt_of_lt_of_le h.2.1 hb.size, by rw [hb.cell (p := ⟨g1, 0, none⟩) h.1]; exact h.2.2.1, by rw [hb.cell (p := ⟨g2, 0, none⟩) h.2.1]; exact h.2.2.2⟩
theorem zqw (L : List CP) (U : List Nm) (b g1 g2 : Nat) (n x : Nm) (w : World) (hB : z48 w g1 g2 b n) (hW : zav w b L) (hC : zj3 (CL L) U) (hnU : x ∈ U) (hU : U.length <= 50) (hUl : ∀ x ∈ U, x.length <= 1048576) (hL : ∀ cp ∈ L, cp.1.faces.length <= 100000000) :
   zna 120 #[.pointer (some ⟨g1, 0, none⟩), .pointer (some ⟨g2, 0, none⟩)] (zz x) ((every (CL L) x).contains n) w := by
 intro W hb
 have HB := Hq hb
 have HBX := Hq (hB.below hb)
 have HE := Hq (fun W' (hW' : zav W' b L) => zlv L U b x W' hW' hC hnU hU hUl hL)
 have HW := Hq (hW.below hb)
 have hle : (every (CL L) x).length <= 50 := by
   have := (zlh hU hC hnU).len
   unfold every
   rw [List.length_mergeSort]
   omega
 clear hb hB hW hC hnU hUl hL
 obtain ⟨hg1, hg2, c0, c1⟩ := HBX.out
 generalize every (CL L) x = ev at *
 unfold zz
 show Calls Tryz.prog _ #[_, _, _] W _
 go_enter Tryz.func120, Tryz.ntmps120
 go_wp2_with fail
 go_region_with (first
   | (go_at_call 85; refine (HE.out _ (by exact HW.out)).mono ?_; rintro e w2 ⟨⟨v2, rfl, ho2⟩, hb2⟩; obtain ⟨_, _, d0, d1⟩ := (show z48 W.drew g1 g2 b n from HBX.out).below hb2; obtain ⟨A2, C2, rfl, hsr⟩ := zl ho2; have HSR := Hq hsr; have HB2 := Hq (zc (Below.refl _ _).drew hb2); clear hb2 ho2 hsr)
   | (go_at_call 84; refine (zc9 ev _ ev.length _ n _ HSR.out rfl (by omega)).mono ?_; rintro e w3 ⟨rfl, rfl⟩))
 all_goals
   go_wp2_with fail
   go_ret
   exact ⟨zaa (by simp), HB.out.trans (HB2.out.mono HB.out.size)⟩
def jn4 (c : zd) : Int := if c.face = true /\ c.sup ≠ zbq then 7 else 0
noncomputable def jn3 (L : List zd) (c : zd) : Int := if zw (zfp L c.faces) c.faces.length ≠ 0 then zw (zfp L c.faces) c.faces.length else jn4 c
noncomputable def jn2 (L : List zd) (c : zd) : Int := if zcd L c.sup false ≠ 0 then zcd L c.sup false else jn3 L c
noncomputable def jn1 (L : List zd) (c : zd) : Int := if zw (zio L c.faces) c.faces.length ≠ 0 then zw (zio L c.faces) c.faces.length else jn2 L c
theorem z6x {L : List zd} {c : zd} (h1 : c.sup ≠ []) (h2 : (zbi L c.sup).isSome = true) : zb4 L c = jn1 L c := by
 unfold zb4 jn1 jn2 jn3 jn4
 rw [if_neg h1, if_neg (by cases hl : zbi L c.sup with | none => rw [hl] at h2; cases h2 | some d => simp)]
theorem z8t {L : List zd} {c : zd} (h : ∀ j, j < c.faces.length -> zio L c.faces j = 0) : jn1 L c = jn2 L c := by unfold jn1; rw [if_neg (by rw [(zx _ _).2 h]; simp)]
theorem z7n {L : List zd} {c : zd} {k : Nat} (h0 : ∀ j, j < k -> zio L c.faces j = 0) (hk : zio L c.faces k ≠ 0) (hl : k < c.faces.length) : jn1 L c = zio L c.faces k := by
 have := zb8 h0 hk _ hl
 unfold jn1
 rw [this, if_pos hk]
theorem z9f {L : List zd} {c : zd} (h : ∀ j, j < c.faces.length -> zfp L c.faces j = 0) : jn3 L c = jn4 c := by unfold jn3; rw [if_neg (by rw [(zx _ _).2 h]; simp)]
theorem z8b {L : List zd} {c : zd} {k : Nat} (h0 : ∀ j, j < k -> zfp L c.faces j = 0) (hk : zfp L c.faces k ≠ 0) (hl : k < c.faces.length) : jn3 L c = zfp L c.faces k := by
 have := zb8 h0 hk _ hl
 unfold jn3
 rw [this, if_pos hk]
theorem z2x {L : List zd} {l : List Nm} {k : Nat} {f : Nm} (h : l[k]? = some f) : zio L l k = if (zbi L f).isSome then 0 else 3 := by unfold zio; rw [h]; rfl
theorem zyx {L : List zd} {l : List Nm} {k : Nat} {f : Nm} (h : l[k]? = some f) : zfp L l k = zcd L f true := by unfold zfp; rw [h]; rfl
theorem zqi (L : List CP) (b : Nat) (c : zd) (p : zbf) (w : World) (hW : zav w b L) (hS : zdl w p.fa p.fc c.faces) (hsl : c.sup.length <= 1048576) (hfl : ∀ f ∈ c.faces, f.length <= 1048576) (hfn : c.faces.length <= 100000000) :
   Calls Tryz.prog 78 #[.map (some b), zbl c p] w fun e w' => e = .returned (zaj (zb4 (CL L) c)) /\ Below w.heap.size w w' := by
 have hml : (1048576 : Nat) <= maxLen := by unfold maxLen; omega
 generalize hE : zaj (zb4 (CL L) c) = E
 have HE := Hq hE
 have HX := Hq (zpk w c p)
 have HW := Hq hW
 have HS := Hq hS
 have HFL := Hq hfl
 clear hE hW hS hfl
 unfold zbl
 generalize hpfa : p.fa = fa at *
 generalize hpga : p.ga = ga at *
 generalize hpma : p.ma = ma at *
 have HFA := Hq hpfa
 have HGA := Hq hpga
 have HMA := Hq hpma
 clear hpfa hpga hpma
 have HM0 := Hq (show Mid w c p (w.alloc (.cells #[.string ⟨⟨c.nm⟩⟩, .string ⟨⟨c.sup⟩⟩, .slice fa c.faces.length p.fc, .bool c.face, .slice ga c.fields.length p.gc, .slice ma c.meths.length p.mc] 50)) from ⟨(Below.refl _ _).alloc (Nat.le_refl _) _, HX.out⟩)
 by_cases hs : c.sup = []
 . have HEE := Hq (show E = zby 1 by rw [<- HE.out]; unfold zb4; rw [if_pos hs]; rfl)
   rw [hs] at HX
   go_enter Tryz.func78, Tryz.ntmps78
   obtain ⟨hg, c0, c1, c2, c3, c4, c5⟩ := HX.out
   rw [hs] at c1
   clear c2 c3 c4 c5
   go_wp2_with fail
   go_ret
   exact ⟨by rw [HEE.out]; rfl, (Below.refl _ _).alloc (Nat.le_refl _) _⟩
 . obtain ⟨x, r, hx⟩ : ∃ x r, c.sup = x :: r := by
     cases h : c.sup with
     | nil => exact absurd h hs
     | cons x r => exact ⟨x, r, rfl⟩
   cases hf : zbj L c.sup with
   | none =>
     have HEE := Hq (show E = zby 3 by rw [<- HE.out]; unfold zb4; rw [if_neg hs, zew hf]; rfl)
     have hlk := zdq (HW.out.below (HM0.out.1)) (Nat.le_trans hsl hml) hf true
     simp only [if_true] at hlk
     unfold zqf at hlk
     rw [hx] at HX hlk
     clear hf hs HM0
     go_enter Tryz.func78, Tryz.ntmps78
     obtain ⟨hg, c0, c1, c2, c3, c4, c5⟩ := HX.out
     rw [hx] at c1
     clear c2 c3 c4 c5
     go_wp2_with fail
     go_ret
     exact ⟨by rw [HEE.out]; rfl, ((Below.refl _ _).alloc (Nat.le_refl _) _).alloc (by simp) _⟩
   | some cp =>
     have HE1 := Hq (show zaj (jn1 (CL L) c) = E by rw [<- HE.out, z6x hs (by rw [zem hf]; rfl)])
     have hlk := zcn (HW.out.below (HM0.out.1)) (Nat.le_trans hsl hml) hf true
     simp only [if_true] at hlk
     unfold zbl at hlk
     rw [hx] at HX hlk HM0
     have HXX := Hq hx
     clear hf hs HE
     go_enter Tryz.func78, Tryz.ntmps78
     obtain ⟨hg, c0, c1, c2, c3, c4, c5⟩ := HX.out
     rw [hx] at c1
     clear c2 c3 c4 c5
     go_wp2_with fail
     clear c0 c1 hg hx
     go_loopw [32] (fun i wr => ∃ k : Nat, k <= c.faces.length /\ i = .int .i64 k /\ Mid w c p wr /\ Hid (∀ j, j < k -> zio (CL L) c.faces j = 0)) (fun i _ => c.faces.length - (RowKit.intOf i).toNat)
     case atStart => exact ⟨0, by omega, rfl, HM0.out.below ((Below.refl _ _).alloc (Nat.le_refl _) _), Hq (by omega)⟩
     case round =>
       obtain ⟨k, hk, rfl, hm, HZ⟩ := hrel
       have HM := Hq hm
       have hsz := hm.1.size
       clear hm HM0 hlk
       obtain ⟨hg, c0, c1, c2, c3, c4, c5⟩ := HM.out.cells HFA.out HGA.out HMA.out
       rw [HXX.out] at c1
       by_cases hlk : k < c.faces.length
       . obtain ⟨f, hf⟩ : ∃ f, c.faces[k]? = some f := ⟨_, List.getElem?_eq_getElem hlk⟩
         have hcw : zdl wr fa p.fc c.faces := HS.out.below HM.out.1
         obtain ⟨b1, off, rfl, hlt, d0⟩ := zbr hcw hf
         have hfn2 := HFL.out f (List.mem_of_getElem? hf)
         have HIE := Hq (z2x (L := CL L) hf)
         have HWW := Hq (HW.out.below HM.out.1)
         clear hcw hf c0 c1 c2 c3 c4 c5
         cases hff : zbj L f with
         | none =>
           have hz : zio (CL L) c.faces k = 3 := by rw [HIE.out, zew hff]; rfl
           have HEE := Hq (show E = zby 3 by rw [<- HE1.out, z7n HZ.out (by rw [hz]; omega) hlk, hz]; rfl)
           have hlk2 := zdq HWW.out (Nat.le_trans hfn2 hml) hff true
           simp only [if_true] at hlk2
           unfold zqf at hlk2
           clear hff hz
           go_wp2_with fail
           go_ret
           exact ⟨by rw [HEE.out]; rfl, HM.out.1.alloc hsz _⟩
         | some cq =>
           have HZ2 := Hq (zb6 HZ.out (by rw [HIE.out, zem hff]; rfl))
           have hlk2 := zcn HWW.out (Nat.le_trans hfn2 hml) hff true
           simp only [if_true] at hlk2
           unfold zbl at hlk2
           clear hff
           go_wp2_with fail
           go_roundw
           case rel => exact ⟨k + 1, by omega, by go_num, HM.out.below ((Below.refl _ _).alloc (Nat.le_refl _) _), HZ2⟩
           case measure => simp [RowKit.intOf]; omega
       . obtain rfl : k = c.faces.length := by omega
         have HE2 := Hq (show zaj (jn2 (CL L) c) = E by rw [<- HE1.out, z8t HZ.out])
         have HHS := Hq (zqh L b (x :: r) false wr (HW.out.below HM.out.1) (by rw [<- HXX.out]; omega))
         have HHE := Hq (show zcd (CL L) c.sup false = zcd (CL L) (x :: r) false by rw [HXX.out])
         clear HZ HE1 hlk
         go_wp2_with fail
         refine HHS.out.mono ?_
         rintro e w3 ⟨rfl, hb3⟩
         have HM3 := Hq (HM.out.below hb3)
         clear hb3 HM HHS hg c0 c1 c2 c3 c4 c5
         by_cases hz : zcd (CL L) (x :: r) false = 0
         case neg =>
           have HEE := Hq (show E = zby (zcd (CL L) (x :: r) false) by rw [<- HE2.out]; unfold jn2; rw [HHE.out, if_pos hz]; exact za4 hz)
           rw [za4 hz]
           generalize zcd (CL L) (x :: r) false = n at *
           clear hz
           go_wp2_with fail
           go_ret
           exact ⟨by rw [HEE.out]; rfl, HM3.out.1⟩
         case pos =>
           have HE3 := Hq (show zaj (jn3 (CL L) c) = E by rw [<- HE2.out]; unfold jn2; rw [HHE.out, if_neg (by simp [hz])])
           rw [hz, errOf_zero]
           clear hz HE2 HHE
           obtain ⟨hg, c0, c1, c2, c3, c4, c5⟩ := HM3.out.cells HFA.out HGA.out HMA.out
           rw [HXX.out] at c1
           go_wp2_with fail
           clear hg c0 c1 c2 c3 c4 c5
           go_loopw [56] (fun i wr => ∃ k : Nat, k <= c.faces.length /\ i = .int .i64 k /\ Mid w c p wr /\ Hid (∀ j, j < k -> zfp (CL L) c.faces j = 0)) (fun i _ => c.faces.length - (RowKit.intOf i).toNat)
           case atStart => exact ⟨0, by omega, rfl, HM3.out, Hq (by omega)⟩
           case round =>
             obtain ⟨k, hk, rfl, hm, HZ⟩ := hrel
             have HM := Hq hm
             clear hm HM3
             obtain ⟨hg, c0, c1, c2, c3, c4, c5⟩ := HM.out.cells HFA.out HGA.out HMA.out
             rw [HXX.out] at c1
             by_cases hlk : k < c.faces.length
             . obtain ⟨f, hf⟩ : ∃ f, c.faces[k]? = some f := ⟨_, List.getElem?_eq_getElem hlk⟩
               have hcw : zdl wr fa p.fc c.faces := HS.out.below HM.out.1
               obtain ⟨b1, off, rfl, hlt, d0⟩ := zbr hcw hf
               have hfn2 := HFL.out f (List.mem_of_getElem? hf)
               have HIE := Hq (zyx (L := CL L) hf)
               have HHS := Hq (zqh L b f true wr (HW.out.below HM.out.1) (Nat.le_trans hfn2 hml))
               clear hcw hf c0 c1 c2 c3 c4 c5
               by_cases hz : zcd (CL L) f true = 0
               case neg =>
                 have HEE := Hq (show E = zby (zcd (CL L) f true) by rw [<- HE3.out, z8b HZ.out (by rw [HIE.out]; exact hz) hlk, HIE.out]; exact za4 hz)
                 rw [za4 hz] at HHS
                 generalize zcd (CL L) f true = n at *
                 clear hz
                 go_wp2_with fail
                 refine HHS.out.mono ?_
                 rintro e w4 ⟨rfl, hb4⟩
                 have HB4 := Hq (zc HM.out.1 hb4)
                 clear hb4
                 go_wp2_with fail
                 go_ret
                 exact ⟨by rw [HEE.out]; rfl, HB4.out⟩
               case pos =>
                 have HZ2 := Hq (zb6 HZ.out (by rw [HIE.out]; exact hz))
                 rw [hz, errOf_zero] at HHS
                 clear hz
                 go_wp2_with fail
                 refine HHS.out.mono ?_
                 rintro e w4 ⟨rfl, hb4⟩
                 have HM4 := Hq (HM.out.below hb4)
                 clear hb4
                 go_wp2_with fail
                 go_roundw
                 case rel => exact ⟨k + 1, by omega, by go_num, HM4.out, HZ2⟩
                 case measure => simp [RowKit.intOf]; omega
             . obtain rfl : k = c.faces.length := by omega
               have HE4 := Hq (show zaj (jn4 c) = E by rw [<- HE3.out, z9f HZ.out])
               clear HZ HE3 hlk
               cases hfc : c.face with
               | false =>
                 have HEE := Hq (show E = .nilIface by rw [<- HE4.out]; unfold jn4; rw [hfc]; rfl)
                 rw [hfc] at c3
                 clear hfc
                 go_wp2_with fail
                 go_ret
                 exact ⟨by rw [HEE.out]; rfl, HM.out.1⟩
               | true =>
                 rw [hfc] at c3
                 by_cases ho : (x :: r) = zbq
                 . have HEE := Hq (show E = .nilIface by rw [<- HE4.out]; unfold jn4; rw [if_neg (by rintro ⟨_, h⟩; exact h (HXX.out.trans ho))]; rfl)
                   rw [ho] at c1
                   unfold zbq at c1
                   clear hfc ho
                   go_wp2_with fail
                   go_ret
                   exact ⟨by rw [HEE.out]; rfl, HM.out.1⟩
                 . have HEE := Hq (show E = zby 7 by rw [<- HE4.out]; unfold jn4; rw [if_pos ⟨hfc, by rw [HXX.out]; exact ho⟩]; rfl)
                   have hob : ((x :: r) == [79, 98, 106, 101, 99, 116]) = false := by simpa [zbq] using ho
                   generalize x :: r = xr at *
                   clear hfc ho
                   go_wp2_with fail
                   go_ret
                   exact ⟨by rw [HEE.out]; rfl, HM.out.1⟩
theorem zs8 (L : List CP) (U : List Nm) (b : Nat) (n : Nm) (w : World) (hW : zav w b L) (hC : zj3 (CL L) U) (hnU : n ∈ U) (hU : U.length <= 50) (hUl : ∀ x ∈ U, x.length <= 1048576) (hL : ∀ cp ∈ L, cp.1.faces.length <= 100000000) :
   Calls Tryz.prog 79 #[.map (some b), .string ⟨⟨n⟩⟩] w fun e w' => e = .returned (.bool (zhv (CL L) n)) /\ Below w.heap.size w w' := by
 have hml : (1048576 : Nat) <= maxLen := by unfold maxLen; omega
 generalize hR : zhv (CL L) n = R
 have HR := Hq hR
 have HA := Hq (fun W hW' => zle L b n W hW' (Nat.le_trans (hUl n hnU) hml) hL)
 have HBX := Hq (show z48 ((w.alloc (.cells #[.map (some b)] 74)).alloc (.cells #[.string ⟨⟨n⟩⟩] 9)) w.heap.size (w.heap.size + 1) b n from by
   refine ⟨by simp; omega, by simp, ?_, ?_⟩
   . rw [World.cell?_alloc_lt _ _ ⟨w.heap.size, 0, none⟩ (by simp), World.cell?_alloc_new]; rfl
   . have := World.cell?_alloc_new (w.alloc (.cells #[.map (some b)] 74)) #[.string ⟨⟨n⟩⟩] 9 0
     simp)
 have HW := Hq hW
 have HCC := Hq (fun (al : List Nm) (hal : al = zcr (CL L) n) (W : World) (a : Option Addr) (cap : Nat) (hb : z48 W w.heap.size (w.heap.size + 1) b n) (hw : zav W b L) (hs : zdl W a cap al) (hl : al.length <= 1000000000) =>
   zsd al a cap W #[.pointer (some ⟨w.heap.size, 0, none⟩), .pointer (some ⟨w.heap.size + 1, 0, none⟩)] (fun x => (every (CL L) x).contains n) hs hl (fun k x hx => zqw L U b _ _ n x W hb hw hC (hC n hnU x (by rw [<- hal]; exact List.mem_of_getElem? hx)) hU hUl hL))
 have hal : (zcr (CL L) n).length <= 200000000 := by
   unfold zcr
   cases hf : zbi (CL L) n with
   | none => simp
   | some c =>
     obtain ⟨_, hm⟩ := zfr hf
     obtain ⟨cp, hcp, rfl⟩ := List.mem_map.1 hm
     have := hL cp hcp
     simp only [Option.elim, zdy]
     split
     . omega
     . simp; omega
 clear hR hW hC hnU hUl hL
 go_enter Tryz.func79, Tryz.ntmps79
 obtain ⟨hg1, hg2, c0, c1⟩ := HBX.out
 go_wp2_with fail
 refine (HA.out _ (HW.out.below (((Below.refl _ _).alloc (Nat.le_refl _) _).alloc (by simp) _))).mono ?_
 rintro e w2 ⟨⟨aa, ac, rfl, hr2, _⟩, hb2⟩
 have HB2 := Hq (show Below w.heap.size w w2 from (((Below.refl _ _).alloc (Nat.le_refl _) _).alloc (by simp) _).trans (hb2.mono (by simp; omega)))
 have HCT := Hq (HCC.out _ rfl w2 aa ac (HBX.out.below hb2) (HW.out.below HB2.out) hr2 (by omega))
 have HRR := Hq (show R = (zcr (CL L) n).any (fun x => (every (CL L) x).contains n) by rw [<- HR.out]; rfl)
 clear hb2 hr2 HCC HA HR hg1 hg2 c0 c1
 generalize (zcr (CL L) n).any (fun x => (every (CL L) x).contains n) = R2 at *
 go_wp2_with fail
 refine HCT.out.mono ?_
 rintro e w3 ⟨rfl, hb3⟩
 have HB3 := Hq (zc HB2.out hb3)
 clear hb3
 go_wp2_with fail
 go_ret
 exact ⟨by rw [HRR.out]; rfl, HB3.out⟩
def wcp (l : List zd) (ps : List zbf) : List CP := zg4 ++ l.zip ps
def zh8 (l : List zd) (ps : List zbf) (k : Nat) : List CP := zg4 ++ (l.zip ps).take k
theorem zxr {l : List zd} {ps : List zbf} (h : ps.length = l.length) : (l.zip ps).map (·.1) = l := List.map_fst_zip (by omega)
theorem zt8 {l : List zd} {ps : List zbf} (h : ps.length = l.length) : CL (wcp l ps) = wl l := by
 unfold wcp
 rw [zt2]
 show wl ((l.zip ps).map (·.1)) = _
 rw [zxr h]
theorem zur {l : List zd} {ps : List zbf} (h : ps.length = l.length) (k : Nat) : CL (zh8 l ps k) = wl (l.take k) := by
 unfold zh8
 rw [zt2]
 show wl (((l.zip ps).take k).map (·.1)) = _
 rw [List.map_take, zxr h]
theorem zx4 {l : List zd} {ps : List zbf} (h : ps.length = l.length) : zh8 l ps l.length = wcp l ps := by
 unfold zh8 wcp
 rw [List.take_of_length_le (by rw [List.length_zip]; omega)]
theorem zwa {l : List zd} {ps : List zbf} {k : Nat} {c : zd} {p : zbf} (hc : l[k]? = some c) (hp : ps[k]? = some p) : zh8 l ps (k + 1) = zh8 l ps k ++ [(c, p)] := by
 have hz : (l.zip ps)[k]? = some (c, p) := by rw [List.getElem?_zip_eq_some]; exact ⟨hc, hp⟩
 obtain ⟨hk, e⟩ := List.getElem?_eq_some_iff.1 hz
 unfold zh8
 rw [List.take_succ_eq_append_getElem hk, e, List.append_assoc]
theorem zri {l : List zd} {ps : List zbf} (h : ps.length = l.length) {k : Nat} (hk : k <= l.length) : (zh8 l ps k).length = k + 2 := by
 unfold zh8
 rw [List.length_append, List.length_take, List.length_zip]
 simp [zg4]
 omega
theorem z50 {w W : World} {a : Option Addr} {cap : Nat} {l : List zd} {ps : List zbf} (h : za7 w a cap l ps) (hb : Below w.heap.size w W) : ∀ cp ∈ wcp l ps, zf3 W cp.1 cp.2 := by
 intro cp hcp
 unfold wcp at hcp
 rcases List.mem_append.1 hcp with h1 | h1
 . simp only [zg4, List.mem_cons, List.mem_nil_iff, or_false] at h1
   rcases h1 with rfl | rfl <;> exact ⟨⟨Nat.le_refl _, Or.inl rfl⟩, ⟨Nat.le_refl _, Or.inl rfl⟩, ⟨rfl, ⟨Nat.le_refl _, Or.inl rfl⟩, fun k m p hm => by simp [zhy, zoc] at hm⟩⟩
 . obtain ⟨j, hj, rfl⟩ := List.getElem_of_mem h1
   have hz := List.getElem?_eq_getElem hj
   have hz' : (l.zip ps)[j]? = some ((l.zip ps)[j].1, (l.zip ps)[j].2) := hz
   rw [List.getElem?_zip_eq_some] at hz'
   exact (h.2.2 j _ _ hz'.1 hz'.2).below hb
theorem z0q {l : List zd} {ps : List zbf} {k : Nat} : ∀ cp ∈ zh8 l ps k, cp ∈ wcp l ps := by
 intro cp h
 unfold zh8 at h
 unfold wcp
 rcases List.mem_append.1 h with h1 | h1
 . exact List.mem_append_left _ h1
 . exact List.mem_append_right _ (List.mem_of_mem_take h1)
theorem z8w {l : List zd} {ps : List zbf} {cp : CP} (h : cp ∈ wcp l ps) : cp.1 = zhy \/ cp.1 = zoc \/ cp.1 ∈ l := by
 unfold wcp at h
 rcases List.mem_append.1 h with h1 | h1
 . simp only [zg4, List.mem_cons, List.mem_nil_iff, or_false] at h1
   rcases h1 with rfl | rfl
   . exact Or.inl rfl
   . exact Or.inr (Or.inl rfl)
 . exact Or.inr (Or.inr (List.of_mem_zip h1).1)
def zl9 (l : List zd) : Prop := ∀ c ∈ l, zze c /\ z33 c
theorem z2j {l : List zd} {ps : List zbf} (h : zl9 l) : ∀ cp ∈ wcp l ps, cp.1.faces.length <= 100000000 := by
 intro cp hcp
 rcases z8w hcp with e | e | e
 . rw [e]; simp [zhy]
 . rw [e]; simp [zoc]
 . exact (h _ e).1.faces
theorem zuh {l : List zd} (h : zl9 l) : ∀ x ∈ zbt l, x.length <= 1048576 := by
 intro x hx
 unfold zbt wl at hx
 simp only [List.map_cons, List.mem_cons, List.mem_map] at hx
 rcases hx with rfl | rfl | ⟨c, hc, rfl⟩
 . simp [zhy, zbq]
 . simp [zoc, ztl]
 . exact (h c hc).2.nm
noncomputable def rd3 (l : List zd) : Int := zw (znb l) l.length
noncomputable def rd2 (l : List zd) : Int := if zw (zkk l) l.length ≠ 0 then zw (zkk l) l.length else rd3 l
noncomputable def rd1 (l : List zd) : Int := if zw (zgq l) l.length ≠ 0 then zw (zgq l) l.length else rd2 l
theorem z7d {l : List zd} (h : ¬ 10 < l.length) : zaq l = rd1 l := by unfold zaq rd1 rd2 rd3; rw [if_neg h]
theorem z80 {l : List zd} (h : ∀ j, j < l.length -> zgq l j = 0) : rd1 l = rd2 l := by unfold rd1; rw [if_neg (by rw [(zx _ _).2 h]; simp)]
theorem z9c {l : List zd} (h : ∀ j, j < l.length -> zkk l j = 0) : rd2 l = rd3 l := by unfold rd2; rw [if_neg (by rw [(zx _ _).2 h]; simp)]
theorem z4b {l : List zd} {k : Nat} (h0 : ∀ j, j < k -> zgq l j = 0) (hk : zgq l k ≠ 0) (hl : k < l.length) : rd1 l = zgq l k := by
 have := zb8 h0 hk _ hl
 unfold rd1; rw [this, if_pos hk]
theorem z7e {l : List zd} {k : Nat} (h0 : ∀ j, j < k -> zkk l j = 0) (hk : zkk l k ≠ 0) (hl : k < l.length) : rd2 l = zkk l k := by
 have := zb8 h0 hk _ hl
 unfold rd2; rw [this, if_pos hk]
theorem z7z {l : List zd} {k : Nat} (h0 : ∀ j, j < k -> znb l j = 0) (hk : znb l k ≠ 0) (hl : k < l.length) : rd3 l = znb l k := zb8 h0 hk _ hl
theorem z1j {l : List zd} (h : ∀ j, j < l.length -> znb l j = 0) : rd3 l = 0 := (zx _ _).2 h
def z5t (l : List zd) (ps : List zbf) (w : World) (e : Ending) (w' : World) : Prop :=
 Below w.heap.size w w' /\ ((zaq l ≠ 0 /\ e = .returned (.tuple #[.map none, zby (zaq l)])) \/
   (zdf l /\ ∃ b, e = .returned (.tuple #[.map (some b), .nilIface]) /\ w.heap.size <= b /\ zav w' b (wcp l ps)))
theorem zw9 (l : List zd) (ps : List zbf) (a : Option Addr) (cap : Nat) (w : World) (hC : za7 w a cap l ps) (hF : zaw w) (hB : zl9 l) :
   Calls Tryz.prog 47 #[.slice a l.length cap] w (z5t l ps w) := by
 by_cases h10 : 10 < l.length
 . have he : zaq l = 4 := by unfold zaq; rw [if_pos h10]
   have HE := Hq he
   clear he
   go_enter Tryz.func47, Tryz.ntmps47
   go_wp2_with fail
   go_ret2
   exact ⟨Below.refl _ _, Or.inl ⟨by rw [HE.out]; omega, by rw [HE.out]; rfl⟩⟩
 have hps := hC.1
 have HPS := Hq hps
 have HC := Hq hC
 have HF := Hq hF
 have HB := Hq hB
 have HR1 := Hq (z7d h10)
 clear hC hF hB hps
 go_enter Tryz.func47, Tryz.ntmps47
 go_wp2_with fail
 refine (zrz w).mono ?_
 rintro e w1 ⟨b, rfl, hw1, hwb, hb1⟩
 have HW1 := Hq hw1
 have HB1 := Hq hb1
 clear hw1 hb1
 go_wp2_with fail
 go_loopw [22] (fun i wr => ∃ k : Nat, k <= l.length /\ i = .int .i64 k /\ Below w.heap.size w wr /\ Hid (zav wr b (zh8 l ps k)) /\ Hid (∀ j, j < k -> zgq l j = 0)) (fun i _ => l.length - (RowKit.intOf i).toNat)
 case atStart => exact ⟨0, by omega, rfl, HB1.out, HW1, Hq (by omega)⟩
 case round =>
   obtain ⟨k, hk, rfl, hb, HW, HZ⟩ := hrel
   have HBW := Hq hb
   have hsz := hb.size
   clear HW1 HB1
   by_cases hlk : k < l.length
   . obtain ⟨c, hx⟩ : ∃ c, l[k]? = some c := ⟨_, List.getElem?_eq_getElem hlk⟩
     obtain ⟨b1, off, p, rfl, hlt, hp, hca, d0, d1, d2, d3, d4, d5⟩ := (HC.out.below hb).cells hx
     have hcl := HB.out c (List.mem_of_getElem? hx)
     have HIN := Hq (zuj hx)
     have HSU := Hq (zwa hx hp)
     have hnl := hcl.2.nm
     have HCK := Hq (fun W (hb : Below wr.heap.size wr W) => zs1 c p W (hca.below hb) (HF.out.below (zc HBW.out hb)) hcl.1)
     have HD := Hq (zpk wr c p)
     unfold zbl at HCK
     clear hx hp hca hcl hb
     by_cases hce : za3 c = 0
     case neg =>
       have hz : zgq l k = za3 c := by rw [HIN.out, if_pos hce]
       have HEE := Hq (show zaq l = za3 c by rw [HR1.out, z4b HZ.out (by rw [hz]; exact hce) hlk, hz])
       have HNE := Hq hce
       rw [za4 hce] at HCK
       generalize za3 c = n at *
       clear hz hce
       go_wp2_with fail
       refine (HCK.out _ ((Below.refl _ _).alloc (Nat.le_refl _) _)).mono ?_
       rintro e w2 ⟨rfl, hb2⟩
       have HB2 := Hq (zc HBW.out (zq hb2))
       clear hb2
       go_wp2_with fail
       go_ret2
       exact ⟨HB2.out, Or.inl ⟨by rw [HEE.out]; exact HNE.out, by rw [HEE.out]; rfl⟩⟩
     case pos =>
       have HIN2 := Hq (show zgq l k = if (zbi (wl (l.take k)) c.nm).isSome then 5 else 0 by rw [HIN.out, if_neg (by simp [hce])])
       rw [hce, errOf_zero] at HCK
       clear hce HIN
       go_wp2_with fail
       refine (HCK.out _ ((Below.refl _ _).alloc (Nat.le_refl _) _)).mono ?_
       rintro e w2 ⟨rfl, hb2⟩
       have HB2 := Hq (zc HBW.out (zq hb2))
       have HW2 := Hq (HW.out.below (zq hb2))
       have HD2 := Hq (HD.out.below hb2)
       obtain ⟨hg, c0, c1, c2, c3, c4, c5⟩ := HD2.out
       have hml : c.nm.length <= maxLen := by unfold maxLen; omega
       clear hb2 HCK HD d0 d1 d2 d3 d4 d5
       cases hf : zbj (zh8 l ps k) c.nm with
       | some cq =>
         have hz : zgq l k = 5 := by rw [HIN2.out, <- zur HPS.out k, zem hf]; rfl
         have HEE := Hq (show zaq l = 5 by rw [HR1.out, z4b HZ.out (by rw [hz]; omega) hlk, hz])
         have hlk2 := zcn HW2.out hml hf true
         simp only [if_true] at hlk2
         unfold zbl at hlk2
         clear hf hz
         go_wp2_with fail
         go_ret2
         exact ⟨HB2.out.alloc (by have := HB2.out.size; omega) _, Or.inl ⟨by rw [HEE.out]; omega, by rw [HEE.out]; rfl⟩⟩
       | none =>
         have hz : zgq l k = 0 := by rw [HIN2.out, <- zur HPS.out k, zew hf]; rfl
         have HZ2 := Hq (zb6 HZ.out hz)
         have hlk2 := zdq HW2.out hml hf true
         simp only [if_true] at hlk2
         have hw2z := HB2.out.size
         obtain ⟨w5, hst, hS5, hg5⟩ := (HW2.out.below ((Below.refl _ _).alloc (Nat.le_refl _) (.cells #[.string ⟨#[]⟩, .string ⟨#[]⟩, .slice none 0 0, .bool false, .slice none 0 0, .slice none 0 0] 50))).1.store (P := Tryz.prog) (k := 9) (t := 74) (e := 50) Tryz.underlying9 Tryz.underlying74 hml (by unfold fOf; rw [hf]; rfl) (zbl c p)
         have hB5 : Below w.heap.size w w5 := (HB2.out.alloc hw2z _).grown hg5 (by simp; omega) (fun k hk => by cases hk; exact hwb)
         have HB5 := Hq hB5
         have HW5 : Hid (zav w5 b (zh8 l ps (k + 1))) := by
           refine ⟨hS5.cong ?_ (fun z => ?_), fun cp hcp => z50 HC.out hB5 cp (z0q cp hcp)⟩
           . rw [zri HPS.out (by omega), zri HPS.out (by omega)]; omega
           . rw [HSU.out]
             exact zh6 (zh8 l ps k) (c, p) z hf
         unfold zqf at hlk2
         unfold zbl at hst
         clear hf hz hS5 hg5 hB5
         go_wp2_with fail
         go_roundw
         case rel => exact ⟨k + 1, by omega, by go_num, HB5.out, HW5, HZ2⟩
         case measure => simp [RowKit.intOf]; omega
   . obtain rfl : k = l.length := by omega
     have HR2 := Hq (show zaq l = rd2 l by rw [HR1.out, z80 HZ.out])
     have HZI := HZ
     have HWL := Hq (show zav wr b (wcp l ps) by rw [<- zx4 HPS.out]; exact HW.out)
     clear hb HZ HW HR1 hlk
     go_wp2_with fail
     go_loopw [47] (fun i wq => ∃ k : Nat, k <= l.length /\ i = .int .i64 k /\ Below w.heap.size w wq /\ Hid (zav wq b (wcp l ps)) /\ Hid (∀ j, j < k -> zkk l j = 0)) (fun i _ => l.length - (RowKit.intOf i).toNat)
     case atStart => exact ⟨0, by omega, rfl, HBW.out, HWL, Hq (by omega)⟩
     case round =>
       obtain ⟨k, hk, rfl, hb, HW, HZ⟩ := hrel
       clear HBW HWL
       have HBW := Hq hb
       by_cases hlk : k < l.length
       . obtain ⟨c, hx⟩ : ∃ c, l[k]? = some c := ⟨_, List.getElem?_eq_getElem hlk⟩
         obtain ⟨b1, off, p, rfl, hlt, hp, hca, d0, d1, d2, d3, d4, d5⟩ := (HC.out.below hb).cells hx
         have hcl := HB.out c (List.mem_of_getElem? hx)
         have HJN := Hq (zk0 hx)
         have HJC := Hq (fun W (hb : Below wr.heap.size wr W) => zqi (wcp l ps) b c p W (HW.out.below hb) (hca.1.below hb) hcl.2.sup hcl.2.faces hcl.1.faces)
         rw [zt8 HPS.out] at HJC
         unfold zbl at HJC
         clear hx hp hca hcl hb
         by_cases hje : zb4 (wl l) c = 0
         case neg =>
           have HEE := Hq (show zaq l = zb4 (wl l) c by rw [HR2.out, z7e HZ.out (by rw [HJN.out]; exact hje) hlk, HJN.out])
           have HNE := Hq hje
           rw [za4 hje] at HJC
           generalize zb4 (wl l) c = n at *
           clear hje
           go_wp2_with fail
           refine (HJC.out _ ((Below.refl _ _).alloc (Nat.le_refl _) _)).mono ?_
           rintro e w2 ⟨rfl, hb2⟩
           have HB2 := Hq (zc HBW.out (zq hb2))
           clear hb2
           go_wp2_with fail
           go_ret2
           exact ⟨HB2.out, Or.inl ⟨by rw [HEE.out]; exact HNE.out, by rw [HEE.out]; rfl⟩⟩
         case pos =>
           have HZ2 := Hq (zb6 HZ.out (by rw [HJN.out]; exact hje))
           rw [hje, errOf_zero] at HJC
           clear hje
           go_wp2_with fail
           refine (HJC.out _ ((Below.refl _ _).alloc (Nat.le_refl _) _)).mono ?_
           rintro e w2 ⟨rfl, hb2⟩
           have HB2 := Hq (zc HBW.out (zq hb2))
           have HW2 := Hq (HW.out.below (zq hb2))
           clear hb2
           go_wp2_with fail
           go_roundw
           case rel => exact ⟨k + 1, by omega, by go_num, HB2.out, HW2, HZ2⟩
           case measure => simp [RowKit.intOf]; omega
       . obtain rfl : k = l.length := by omega
         have HR3 := Hq (show zaq l = rd3 l by rw [HR2.out, z9c HZ.out])
         have hjj : ∀ c ∈ l, zb4 (wl l) c = 0 := fun c hc => by
           obtain ⟨j, hj, hx⟩ := zua hc
           rw [<- zk0 hx]; exact HZ.out j hj
         have HJJ := Hq hjj
         have HW3 := HW
         clear hb HZ HW HR2 hlk hjj
         go_wp2_with fail
         go_loopw [60] (fun i wq => ∃ k : Nat, k <= l.length /\ i = .int .i64 k /\ Below w.heap.size w wq /\ Hid (zav wq b (wcp l ps)) /\ Hid (∀ j, j < k -> znb l j = 0)) (fun i _ => l.length - (RowKit.intOf i).toNat)
         case atStart => exact ⟨0, by omega, rfl, HBW.out, HW3, Hq (by omega)⟩
         case round =>
           obtain ⟨k, hk, rfl, hb, HW, HZ⟩ := hrel
           clear HBW HW3
           have HBW := Hq hb
           by_cases hlk : k < l.length
           . obtain ⟨c, hx⟩ : ∃ c, l[k]? = some c := ⟨_, List.getElem?_eq_getElem hlk⟩
             obtain ⟨b1, off, p, rfl, hlt, hp, hca, d0, d1, d2, d3, d4, d5⟩ := (HC.out.below hb).cells hx
             have HRD := Hq (zok hx)
             have hcn : c.nm ∈ zbt l := by unfold zbt wl; simp only [List.map_cons, List.mem_cons]; right; right; exact List.mem_map.2 ⟨c, List.mem_of_getElem? hx, rfl⟩
             have HRC := Hq (fun W (hb : Below wr.heap.size wr W) => zs8 (wcp l ps) (c.nm :: zbt l) b c.nm W (HW.out.below hb) (by rw [zt8 HPS.out]; exact ze5 HJJ.out c.nm) (by simp) (by simp [zpv]; omega) (fun x hx => by
               rcases List.mem_cons.1 hx with e | e
               . rw [e]; exact zuh HB.out _ hcn
               . exact zuh HB.out _ e) (z2j HB.out))
             rw [zt8 HPS.out] at HRC
             clear hx hp hca hb hcn
             cases hre : zhv (wl l) c.nm with
             | true =>
               have hz : znb l k = 6 := by rw [HRD.out, hre]; rfl
               have HEE := Hq (show zaq l = 6 by rw [HR3.out, z7z HZ.out (by rw [hz]; omega) hlk, hz])
               rw [hre] at HRC
               clear hre hz
               go_wp2_with fail
               refine (HRC.out _ ((Below.refl _ _).alloc (Nat.le_refl _) _)).mono ?_
               rintro e w2 ⟨rfl, hb2⟩
               have HB2 := Hq (zc HBW.out (zq hb2))
               clear hb2
               go_wp2_with fail
               go_ret2
               exact ⟨HB2.out, Or.inl ⟨by rw [HEE.out]; omega, by rw [HEE.out]; rfl⟩⟩
             | false =>
               have HZ2 := Hq (zb6 HZ.out (by rw [HRD.out, hre]; rfl))
               rw [hre] at HRC
               clear hre
               go_wp2_with fail
               refine (HRC.out _ ((Below.refl _ _).alloc (Nat.le_refl _) _)).mono ?_
               rintro e w2 ⟨rfl, hb2⟩
               have HB2 := Hq (zc HBW.out (zq hb2))
               have HW2 := Hq (HW.out.below (zq hb2))
               clear hb2
               go_wp2_with fail
               go_roundw
               case rel => exact ⟨k + 1, by omega, by go_num, HB2.out, HW2, HZ2⟩
               case measure => simp [RowKit.intOf]; omega
           . obtain rfl : k = l.length := by omega
             have HG := Hq ((zgs l).1 (by rw [HR3.out, z1j HZ.out]))
             clear hb HZ hlk
             go_wp2_with fail
             go_ret2
             exact ⟨HBW.out, Or.inr ⟨HG.out, b, rfl, hwb, HW.out⟩⟩
end Go.Proofs.YtbnkckjdgpiggaaGreatDoor
