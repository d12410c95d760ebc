import Derived.Test.YtddbnboicmaooaaGreatDoorClass5
import Derived.Lib.OwnBridge
import Derived.Lib.AppendIntMem
import Derived.Deep.AppendLies
namespace Go.Proofs.YtddbnboicmaooaaGreatDoor
set_option maxRecDepth 100000
set_option maxHeartbeats 16000000
set_option linter.unusedVariables false
set_option linter.unusedSimpArgs false
open Go.MapKept Go.ChangeMaps Go.Maps Go.RowKit
def sputf (f : List UInt8 → Option Value) (z : List UInt8) (v : Value) (y : List UInt8) : Option Value := if y = z then some v else f y
def sdelf (f : List UInt8 → Option Value) (z : List UInt8) (y : List UInt8) : Option Value := if y = z then none else f y
theorem sputf_same (f : List UInt8 → Option Value) (z : List UInt8) (v : Value) : sputf f z v z = some v := by simp [sputf]
theorem sputf_other (f : List UInt8 → Option Value) (z : List UInt8) (v : Value) {y : List UInt8} (h : y ≠ z) : sputf f z v y = f y := by simp [sputf, h]
def SMap (w : World) (b n : Nat) (f : List UInt8 → Option Value) : Prop :=
 ∃ es clock, w.heap[b]? = some (.map es clock) ∧ es.size ≤ n ∧ (∀ x ∈ es.toList, ∃ z, x.key = .string ⟨⟨z⟩⟩ ∧ z.length ≤ maxLen ∧ f z = some x.val) ∧
   (∀ z v, f z = some v → ∃ x ∈ es.toList, x.key = .string ⟨⟨z⟩⟩) ∧ es.toList.Pairwise (fun x y => x.key ≠ y.key)
theorem SMap.made (w : World) : SMap (w.alloc (.map #[] 0)) w.heap.size 0 (fun _ => none) :=
 ⟨#[], 0, (MapKept.heap_alloc w _).1, by simp, by simp, by simp, by simp⟩
theorem SMap.lt {w : World} {b n : Nat} {f : List UInt8 → Option Value} (h : SMap w b n f) : b < w.heap.size := by
 obtain ⟨es, clock, hb, _⟩ := h
 exact (Array.getElem?_eq_some_iff.1 hb).1
theorem SMap.kept {w w' : World} {b n : Nat} {f : List UInt8 → Option Value} (h : SMap w b n f) (hk : w'.heap[b]? = w.heap[b]?) : SMap w' b n f := by
 obtain ⟨es, clock, hb, r⟩ := h
 exact ⟨es, clock, hk.trans hb, r⟩
theorem SMap.below {w w' : World} {b n : Nat} {f : List UInt8 → Option Value} (h : SMap w b n f) (hk : Below w.heap.size w w') : SMap w' b n f := h.kept (hk.block b h.lt)
theorem SMap.cong {w : World} {b n n' : Nat} {f f' : List UInt8 → Option Value} (h : SMap w b n f) (hn : n ≤ n') (hf : ∀ z, f' z = f z) : SMap w b n' f' := by
 obtain rfl : f' = f := funext hf
 obtain ⟨es, clock, hb, hs, r⟩ := h
 exact ⟨es, clock, hb, by omega, r⟩
theorem skey_mk {P : Program} {k : TypeId} (hk : P.underlying k = some .string) {z : List UInt8} (hz : z.length ≤ maxLen) : keyOf P k (.string ⟨⟨z⟩⟩) = some (.string z) :=
 WideMaps.keyOf_string_mk (s := ⟨⟨z⟩⟩) hk hz
section
variable {P : Program} {w : World} {k t e : TypeId} {b n : Nat} {f : List UInt8 → Option Value}
theorem SMap.find (hk : P.underlying k = some .string) {es : Array MapEntry} (h : ∀ x ∈ es.toList, ∃ z, x.key = .string ⟨⟨z⟩⟩ ∧ z.length ≤ maxLen ∧ f z = some x.val) {z : List UInt8} (hz : z.length ≤ maxLen) :
   ((Instr.findKey k (.string ⟨⟨z⟩⟩) es.toList).run P w = .ok none w ∧ ∀ x ∈ es.toList, x.key ≠ .string ⟨⟨z⟩⟩) ∨
   ∃ j x, (Instr.findKey k (.string ⟨⟨z⟩⟩) es.toList).run P w = .ok (some (j, x.val)) w ∧ es.toList[j]? = some x ∧ x.key = .string ⟨⟨z⟩⟩ ∧ f z = some x.val := by
 have K := string_keyed hk
 rcases K.find w (skey_mk hk hz) es.toList (fun x hx => by
   obtain ⟨y, hy, hw, _⟩ := h x hx
   exact ⟨_, by rw [hy]; exact skey_mk hk hw⟩) with h1 | ⟨j, x, h1, h2, h3⟩
 · exact .inl h1
 · obtain ⟨y, hy, _, hf⟩ := h x (List.mem_of_getElem? h2)
   rw [h3] at hy
   cases hy
   exact .inr ⟨j, x, h1, h2, h3, hf⟩
theorem SMap.look_none (hk : P.underlying k = some .string) (ht : P.underlying t = some (.map k e)) (h : SMap w b n f) {z : List UInt8} (hz : z.length ≤ maxLen) (hf : f z = none) {zv : Value} (hzv : (zeroValue e).run P w = .ok zv w) (c : Bool) :
   (Instr.lookup t (.map (some b)) (.string ⟨⟨z⟩⟩) c).run P w = .ok (if c then .tuple #[zv, .bool false] else zv) w := by
 obtain ⟨es, clock, hb, _, he, _, _⟩ := h
 have K := string_keyed hk
 rcases SMap.find (w := w) hk he hz with ⟨h1, _⟩ | ⟨j, x, _, _, _, h4⟩
 · simp [Instr.lookup, run_underlying ht, MapKept.run_getObj_map hb, K.check w _ (skey_mk hk hz), h1, hzv, Result.andThen]
 · rw [hf] at h4; cases h4
theorem SMap.look_some (hk : P.underlying k = some .string) (ht : P.underlying t = some (.map k e)) (h : SMap w b n f) {z : List UInt8} (hz : z.length ≤ maxLen) {v : Value} (hf : f z = some v) (c : Bool) :
   (Instr.lookup t (.map (some b)) (.string ⟨⟨z⟩⟩) c).run P w = .ok (if c then .tuple #[v, .bool true] else v) w := by
 obtain ⟨es, clock, hb, _, he, hex, _⟩ := h
 have K := string_keyed hk
 rcases SMap.find (w := w) hk he hz with ⟨_, h2⟩ | ⟨j, x, h1, _, _, h4⟩
 · obtain ⟨x, hx, hxk⟩ := hex z v hf
   exact absurd hxk (h2 x hx)
 · rw [hf] at h4
   obtain rfl : v = x.val := by simpa using h4
   simp [Instr.lookup, run_underlying ht, MapKept.run_getObj_map hb, K.check w _ (skey_mk hk hz), h1, Result.andThen]
theorem SMap.store (hk : P.underlying k = some .string) (ht : P.underlying t = some (.map k e)) (h : SMap w b n f) {z : List UInt8} (hz : z.length ≤ maxLen) (hf : f z = none) (v : Value) :
   ∃ w', (Instr.mapUpdate t (.map (some b)) (.string ⟨⟨z⟩⟩) v).run P w = .ok () w' ∧ SMap w' b (n + 1) (sputf f z v) ∧ w.grownBy w' (some b) := by
 obtain ⟨es, clock, hb, hs, he, hex, hd⟩ := h
 have K := string_keyed hk
 rcases SMap.find (w := w) hk he hz with ⟨h1, h2⟩ | ⟨j, x, _, _, _, h4⟩
 · refine ⟨setBlock w b (.map (es.push ⟨.string ⟨⟨z⟩⟩, v, clock⟩) (clock + 1)), ?_, ⟨_, _, heap_setBlock_same hb _, by simp; omega, ?_, ?_, ?_⟩, ⟨rfl, rfl, rfl, by simp [setBlock], fun i _ hi => heap_setBlock_other hb _ (fun e => hi (by rw [e]))⟩⟩
   · simp [Instr.mapUpdate, run_underlying ht, MapKept.run_getObj_map hb, K.check w false (skey_mk hk hz), h1, MapKept.run_setObj_map _ hb, Result.andThen, setBlock]
   · intro x hx
     simp only [Array.toList_push, List.mem_append, List.mem_singleton] at hx
     rcases hx with hx | rfl
     · obtain ⟨y, hy, hw, hfy⟩ := he x hx
       refine ⟨y, hy, hw, ?_⟩
       rw [sputf_other _ _ _ (fun q => h2 x hx (by rw [hy, q])), hfy]
     · exact ⟨z, rfl, hz, sputf_same _ _ _⟩
   · intro y u hy
     by_cases e1 : y = z
     · exact ⟨⟨.string ⟨⟨z⟩⟩, v, clock⟩, by simp, by rw [e1]⟩
     · rw [sputf_other _ _ _ e1] at hy
       obtain ⟨x, hx, hxk⟩ := hex y u hy
       exact ⟨x, by simp [hx], hxk⟩
   · rw [Array.toList_push, List.pairwise_append]
     refine ⟨hd, by simp, ?_⟩
     intro a ha c hc
     simp only [List.mem_singleton] at hc
     subst hc
     exact h2 a ha
 · rw [hf] at h4; cases h4
end
open Go.ChangeShapes Go.WideShapes Go.Deep
def ClassesAt (w : World) (a : Option Addr) (cap : Nat) (l : List ClassR) (ps : List CAddr) : Prop :=
 ps.length = l.length ∧ RowsAt w 6 a cap (List.zipWith classCells l ps) ∧ ∀ (k : Nat) (c : ClassR) (p : CAddr), l[k]? = some c → ps[k]? = some p → ClassAt w c p
theorem ClassesAt.below {w w' : World} {a : Option Addr} {cap : Nat} {l : List ClassR} {ps : List CAddr} (h : ClassesAt w a cap l ps) (hb : Below w.heap.size w w') : ClassesAt w' a cap l ps :=
 ⟨h.1, h.2.1.below hb, fun k m p hm hp => (h.2.2 k m p hm hp).below hb⟩
theorem ClassesAt.cells {w : World} {a : Option Addr} {cap : Nat} {l : List ClassR} {ps : List CAddr} (h : ClassesAt w a cap l ps) {k : Nat} {c : ClassR} (hx : l[k]? = some c) : ∃ (b : Nat) (off : Nat) (p : CAddr), a = some ⟨b, off, none⟩ ∧ b < w.heap.size ∧ ps[k]? = some p ∧ ClassAt w c p ∧
   w.cell? ⟨b, off + k * 6, none⟩ = some (.string ⟨⟨c.nm⟩⟩) ∧ w.cell? ⟨b, off + k * 6 + 1, none⟩ = some (.string ⟨⟨c.sup⟩⟩) ∧ w.cell? ⟨b, off + k * 6 + 2, none⟩ = some (.slice p.fa c.faces.length p.fc) ∧ w.cell? ⟨b, off + k * 6 + 3, none⟩ = some (.bool c.face) ∧
   w.cell? ⟨b, off + k * 6 + 4, none⟩ = some (.slice p.ga c.fields.length p.gc) ∧ w.cell? ⟨b, off + k * 6 + 5, none⟩ = some (.slice p.ma c.meths.length p.mc) := by
 obtain ⟨hl, hr, hm⟩ := h
 obtain ⟨hk, hx'⟩ := List.getElem?_eq_some_iff.1 hx
 have hkp : k < ps.length := by omega
 obtain ⟨p, hp⟩ : ∃ p, ps[k]? = some p := ⟨_, List.getElem?_eq_getElem hkp⟩
 have hz : (List.zipWith classCells l ps)[k]? = some (classCells c p) := by
   rw [List.getElem?_zipWith, hx, hp]
 obtain ⟨_, h2 | ⟨b, off, rfl, hlt, hc⟩⟩ := hr
 · rw [h2] at hz; simp at hz
 · have hh := hc k _ hz
   exact ⟨b, off, p, rfl, hlt, hp, hm k c p hx hp, hh 0 _ rfl, hh 1 _ rfl, hh 2 _ rfl, hh 3 _ rfl, hh 4 _ rfl, hh 5 _ rfl⟩
section
variable {H : Type} {enc : TypeId × Value → H} {W : World}
theorem open_classes {fuel : Nat} {cs : List Value} {d : DataW H} {p : List MemPlace} (h : DataW.trod enc Tryz.prog W 0 (fun _ => true) true fuel 51 cs = some (d, p)) :
   ∃ a cap l ps, cs = [.slice a (l : List ClassR).length cap] ∧ ClassesAt W a cap l ps ∧ l.length ≤ Rows.uptoBulk d ∧ (Rows.uptoBulk d ≤ 1048576 → ∀ x ∈ l, ClassB x ∧ ClassI x) := by
 obtain ⟨a, cap, L, rfl, hlc, _, hr⟩ := open_list Tryz.underlying51 cells_Class (by decide) (ClassIs (H := H) W) (fun fuel cs d p h hl => open_class h hl) h
 obtain ⟨h1, h2, h3⟩ := rows_of_list (f := fun mq => classCells mq.1 mq.2) (fun _ _ _ hR => hR.1) hlc hr
 refine ⟨a, cap, L.map (·.1), L.map (·.2), by rw [List.length_map], ⟨by simp, ?_, ?_⟩, by rw [List.length_map]; exact h2, fun hb x hx => ?_⟩
 · have e : List.zipWith classCells (L.map (·.1)) (L.map (·.2)) = L.map (fun mq => classCells mq.1 mq.2) := by
     clear h1 h2 h3 hr hlc h
     induction L with
     | nil => rfl
     | cons x r ih => simp only [List.map_cons, List.zipWith_cons_cons, ih]
   rw [e]; exact h1
 · intro k m q hm hq
   rw [List.getElem?_map] at hm hq
   cases hL : L[k]? with
   | none => rw [hL] at hm; cases hm
   | some mq =>
     rw [hL] at hm hq
     simp only [Option.map_some, Option.some.injEq] at hm hq
     subst hm hq
     obtain ⟨cs, d', ⟨_, hM, _⟩, _⟩ := h3 mq (List.mem_of_getElem? hL)
     exact hM
 · obtain ⟨mq, hmq, rfl⟩ := List.mem_map.1 hx
   obtain ⟨cs, d', ⟨_, _, hB⟩, hd⟩ := h3 mq hmq
   exact hB (by omega)
end
abbrev CP := ClassR × CAddr
def nilP : CAddr := ⟨none, 0, none, 0, none, 0, []⟩
def cpFind (L : List CP) (n : Nm) : Option CP := L.find? (fun cp => cp.1.nm == n)
def fOf (L : List CP) (n : Nm) : Option Value := (cpFind L n).map fun cp => classV cp.1 cp.2
def WorldAt (W : World) (b : Nat) (L : List CP) : Prop := SMap W b L.length (fOf L) ∧ ∀ cp ∈ L, ClassAt W cp.1 cp.2
theorem WorldAt.below {w w' : World} {b : Nat} {L : List CP} (h : WorldAt w b L) (hb : Below w.heap.size w w') : WorldAt w' b L := ⟨h.1.below hb, fun cp hc => (h.2 cp hc).below hb⟩
theorem WorldAt.lt {w : World} {b : Nat} {L : List CP} (h : WorldAt w b L) : b < w.heap.size := h.1.lt
theorem cpFind_look (L : List CP) (n : Nm) : look (L.map (·.1)) n = (cpFind L n).map (·.1) := by
 unfold look cpFind
 rw [List.find?_map]
 rfl
theorem cpFind_mem {L : List CP} {n : Nm} {cp : CP} (h : cpFind L n = some cp) : cp.1.nm = n ∧ cp ∈ L := ⟨by simpa using List.find?_some h, List.mem_of_find?_eq_some h⟩
theorem cpFind_snoc (L : List CP) (cp : CP) (n : Nm) (h : cpFind L cp.1.nm = none) : fOf (L ++ [cp]) n = sputf (fOf L) cp.1.nm (classV cp.1 cp.2) n := by
 unfold fOf cpFind sputf at *
 rw [List.find?_append]
 by_cases e : n = cp.1.nm
 · subst e
   rw [if_pos rfl, h]
   simp
 · rw [if_neg e]
   show Option.map _ _ = Option.map (fun cp => classV cp.1 cp.2) (List.find? (fun cp => cp.1.nm == n) L)
   cases hf : L.find? (fun cp => cp.1.nm == n) with
   | some x => rfl
   | none =>
     have : (cp.1.nm == n) = false := by simpa using fun q => e q.symm
     simp [List.find?, this]
theorem run_app_none {P : Program} {w : World} (base : Nat) (t ty e : TypeId) (i : TypeInfo) (size : Nat) (ht : P.underlying t = some (.slice e)) (hi : P.info? e = some i)
   (v : Value) (n : Nat) (xs : List Value) (hown : w.ownsRow base e size v n xs) (c : Nat) : (Builtin.append_ #[t, t] ty #[v, .slice none 0 c]).run P w = .ok v w := by
 rcases hown.2 with ⟨rfl, rfl⟩ | ⟨g, cap, cur, rfl, _, _, hnc, _⟩
 · simp [Builtin.append_, run_underlying ht, sizeOf, typeInfo, hi, Builtin.lenOf, Builtin.firstCells]
 · simp [Builtin.append_, run_underlying ht, sizeOf, typeInfo, hi, Builtin.lenOf, Builtin.firstCells, hnc, storeCells]
def Src0 (w : World) (size : Nat) (xv : Value) (m : Nat) (news : List Value) : Prop := (∃ c, xv = .slice none 0 c ∧ m = 0 ∧ news = []) ∨ SrcRow w size xv m news
theorem step_app {P : Program} {w : World} {t e : TypeId} {size bytes : Nat} (T : RowT P t e size bytes) {ops : Array Oper} {o : Oper} {a : Act} {K : Act → World → Prop} {Q : Exit → Act → World → Prop} {E : Prop} (hgd : o.guard = none) (s x : Operand)
   (ho : o.op = .call { callee := .builtin .append, args := #[s, x], argTypes := #[t, t] }) (B : Nat) (v : Value) (n : Nat) (xs : List Value) (hs : a.eval s = v) (hown : w.ownsRow B e size v n xs)
   (xv : Value) (m : Nat) (news : List Value) (hx : a.eval x = xv) (hsrc : Src0 w size xv m news) (hn : n + m ≤ 1000000000) (hb : (n + m) * bytes ≤ 140737488355328) (hB : B ≤ w.heap.size)
   (h : ∀ v' w', w'.ownsRow B e size v' (n + m) (xs ++ news) → w.grownBy w' v.ownBlock → (∀ k, v.ownBlock = some k → B ≤ k) → K (a.put o.dst v') w') :
   if Region.wanted o (yielded ops a.tmps) = true then Oper.wp P o a w K Q else E := by
 have hw : Region.wanted o (yielded ops a.tmps) = true := by simp [Region.wanted, hgd]
 rw [if_pos hw]
 obtain ⟨i, z, hi, hz, hsz, hby, hzs⟩ := T.info
 rcases (show (∃ c, xv = .slice none 0 c ∧ m = 0 ∧ news = []) ∨ (news.length = m * size ∧ (∀ u ∈ news, u.oneCell' = true) ∧ ∃ ad c, xv = .slice (some ad) m c ∧ ∀ j u, news[j]? = some u → w.cell? (ad.add j) = some u) by
     rcases hsrc with h | ⟨hl, h1, ⟨rfl, rfl⟩ | h⟩
     · exact Or.inl h
     · exact Or.inl ⟨0, rfl, rfl, List.eq_nil_of_length_eq_zero (by simpa using hl)⟩
     · exact Or.inr ⟨hl, h1, h⟩) with ⟨c, rfl, rfl, rfl⟩ | ⟨hl, h1, ad, c, rfl, hc⟩
 · have hr := run_app_none (P := P) B t o.type e i size T.slice hi v n xs hown c
   unfold Oper.wp execOp
   simp only [ho, resolve, invoke, builtin, Sem.run_bind, Sem.run_pure, Result.andThen_ok, List.map_toArray, List.map_cons, List.map_nil, hs, hx, hr]
   exact h v w (by simpa using hown) ⟨rfl, rfl, rfl, Nat.le_refl _, fun _ _ _ => rfl⟩ (fun k hk => (hown.lt k hk).1)
 · exact wp_append_own w s x t ho B e i z size bytes T.slice hi hz hsz hby hzs T.pos v n xs hs hown ad m c news hx hl hc h1 (by unfold maxLen; omega) hb hB (fun v' w' h2 h3 _ => h v' w' h2 h3 (fun k hk => (hown.lt k hk).1))
open Go.Shelf Go.Lib
theorem wpList_append_src0 {P : Program} {W : World} {t e : TypeId} {size bytes : Nat} (T : RowT P t e size bytes) {ops : Array Oper} {rest : List Oper} {o : Oper} {a : Act} {Q : Exit → Act → World → Prop} (hgd : o.guard = none) (s x : Operand)
   (ho : o.op = .call { callee := .builtin .append, args := #[s, x], argTypes := #[t, t] }) (B : Nat) (v : Value) (n : Nat) (xs : List Value) (hs : a.eval s = v) (hown : W.ownsRow B e size v n xs)
   (xv : Value) (m : Nat) (news : List Value) (hx : a.eval x = xv) (hsrc : Src0 W size xv m news) (hn : n + m ≤ 1000000000) (hb : (n + m) * bytes ≤ 140737488355328) (hB : B ≤ W.heap.size)
   (h : ∀ v' w', w'.ownsRow B e size v' (n + m) (xs ++ news) → W.grownBy w' v.ownBlock → wpList P ops Q rest (a.put o.dst v') w') :
   wpList P ops Q (o :: rest) a W := by
 rcases hsrc with ⟨c, rfl, rfl, rfl⟩ | hsrc
 · obtain ⟨i, z, hi, hz, hsz, hby, hzs⟩ := T.info
   refine wpList_plain hgd fun K hK => ?_
   have hrun := run_app_none (P := P) (w := W) B t o.type e i size T.slice hi v n xs hown c
   unfold Oper.wp
   simp [execOp, ho, resolve, invoke, builtin, hs, hx, hrun, Result.andThen]
   exact hK _ _ (h v W (by simpa using hown) ⟨rfl, rfl, rfl, Nat.le_refl _, fun _ _ _ => rfl⟩)
 · exact wpList_append_src T hgd s x ho B v n xs hs hown xv m news hx hsrc hn hb hB h
theorem strV_one (A : List Nm) : ∀ u ∈ A.map strV, u.oneCell' = true := by
 intro u hu
 obtain ⟨y, _, rfl⟩ := List.mem_map.1 hu
 rfl
theorem src_of_strs {w : World} {a : Option Addr} {cap : Nat} {A : List Nm} (h : SRow w a cap A) : Src0 w 1 (.slice a A.length cap) A.length (A.map strV) := by
 obtain ⟨_, rfl | ⟨b, off, rfl, _, hc⟩⟩ := h
 · cases a with
   | none => exact Or.inl ⟨cap, rfl, rfl, rfl⟩
   | some ad => exact Or.inr ⟨rfl, by simp, Or.inr ⟨ad, cap, rfl, fun j u hj => by simp at hj⟩⟩
 · refine Or.inr ⟨by simp, strV_one A, Or.inr ⟨_, cap, rfl, fun j u hj => ?_⟩⟩
   rw [List.getElem?_map] at hj
   cases hx : A[j]? with
   | none => rw [hx] at hj; cases hj
   | some x =>
     rw [hx] at hj
     simp only [Option.map_some, Option.some.injEq] at hj
     subst hj
     have e : (⟨b, off, none⟩ : Addr).add j = ⟨b, off + j, none⟩ := by unfold Addr.add; split <;> simp_all
     rw [e]; exact hc j x hx
def zeroC : Value := .agg #[.string ⟨#[]⟩, .string ⟨#[]⟩, .slice none 0 0, .bool false, .slice none 0 0, .slice none 0 0]
theorem zero_class (w : World) : (zeroValue 50).run Tryz.prog w = .ok zeroC w := Tryz.zeroValue50 w
theorem wlook_none {w : World} {b : Nat} {L : List CP} {n : Nm} (h : WorldAt w b L) (hn : n.length ≤ maxLen) (hf : cpFind L n = none) (c : Bool) :
   (Instr.lookup 88 (.map (some b)) (.string ⟨⟨n⟩⟩) c).run Tryz.prog w = .ok (if c then .tuple #[zeroC, .bool false] else zeroC) w :=
 SMap.look_none Tryz.underlying9 Tryz.underlying88 h.1 hn (by unfold fOf; rw [hf]; rfl) (zero_class w) c
theorem wlook_some {w : World} {b : Nat} {L : List CP} {n : Nm} {cp : CP} (h : WorldAt w b L) (hn : n.length ≤ maxLen) (hf : cpFind L n = some cp) (c : Bool) :
   (Instr.lookup 88 (.map (some b)) (.string ⟨⟨n⟩⟩) c).run Tryz.prog w = .ok (if c then .tuple #[classV cp.1 cp.2, .bool true] else classV cp.1 cp.2) w :=
 SMap.look_some Tryz.underlying9 Tryz.underlying88 h.1 hn (by unfold fOf; rw [hf]; rfl) c
def CL (L : List CP) : List ClassR := L.map (·.1)
theorem above_none {L : List CP} {n : Nm} (h : cpFind L n = none) : above (CL L) n = [] := by unfold above CL; rw [cpFind_look, h]; rfl
theorem above_some {L : List CP} {n : Nm} {cp : CP} (h : cpFind L n = some cp) : above (CL L) n = aboveC cp.1 := by unfold above CL; rw [cpFind_look, h]; rfl
theorem ab_own1 (w : World) (o : Obj) (y : Nm) : ((w.alloc o).alloc (.cells #[strV y] 9)).ownsRow w.heap.size 9 1 (.slice (some ⟨w.heap.size + 1, 0, none⟩) 1 1) 1 [strV y] := by
 have h := World.ownsRow_lit (base := w.heap.size) (e := 9) (size := 1) (w.alloc o) #[strV y] 1 (by simp) (by unfold maxLen; omega) rfl
 have e : (w.alloc o).heap.size = w.heap.size + 1 := by simp
 rw [e] at h
 exact h
theorem ab_below {w w4 : World} {o o' : Obj} {n c : Nat} (hg : ((w.alloc o).alloc o').grownBy w4 (Value.slice (some ⟨w.heap.size + 1, 0, none⟩) n c).ownBlock) : Below w.heap.size w w4 :=
 Below.grown (((Below.refl _ _).alloc (Nat.le_refl _) _).alloc (by simp) _) hg (by simp; omega) (fun k hk => by simp [Value.ownBlock] at hk; omega)
theorem ab_srow {w4 : World} {B : Nat} {x : Nm} {A : List Nm} {v : Value} (ho : w4.ownsRow B 9 1 v (1 + A.length) ([strV x] ++ A.map strV)) : ∃ a cap, v = .slice a (1 + A.length) cap ∧ SRow w4 a cap (x :: A) := by
 have h : w4.ownsRow B 9 1 v (x :: A).length ((x :: A).map strV) := by
   rw [List.length_cons, Nat.add_comm]; exact ho
 obtain ⟨a, cap, h1, h2⟩ := srow_of_own h
 exact ⟨a, cap, by rw [h1, List.length_cons, Nat.add_comm], h2⟩
def StrsRes (L : List CP) (A : List Nm) (w : World) (e : Ending) (w' : World) : Prop := (∃ a cap, e = .returned (.slice a A.length cap) ∧ SRow w' a cap A ∧ (A = [] ∨ (∃ cp ∈ L, a = cp.2.fa ∧ A = cp.1.faces) ∨ ∀ ad, a = some ad → w.heap.size ≤ ad.block)) ∧ Below w.heap.size w w'
theorem above_calls (L : List CP) (b : Nat) (n : Nm) (w : World) (hW : WorldAt w b L) (hn : n.length ≤ maxLen) (hL : ∀ cp ∈ L, cp.1.faces.length ≤ 100000000) :
   Calls Tryz.prog 149 #[.map (some b), .string ⟨⟨n⟩⟩] w (StrsRes L (above (CL L) n) w) := by
 cases hf : cpFind L n with
 | none =>
   have hlk := wlook_none hW hn hf false
   simp only [Bool.false_eq_true, if_false] at hlk
   rw [above_none hf]
   unfold zeroC at hlk
   clear hf hW
   go_enter Tryz.func149, Tryz.ntmps149
   go_wp2_with fail
   go_ret
   exact ⟨⟨none, 0, rfl, ⟨Nat.le_refl _, Or.inl rfl⟩, Or.inl rfl⟩, (Below.refl _ _).alloc (Nat.le_refl _) _⟩
 | some cp =>
   have hlk := wlook_some hW hn hf false
   simp only [Bool.false_eq_true, if_false] at hlk
   obtain ⟨hnm, hmem⟩ := cpFind_mem hf
   have HC := Hd (hW.2 cp hmem).1
   have hfl := hL cp hmem
   rw [above_some hf]
   unfold classV at hlk
   have HLK := Hd hlk
   have HMEM := Hd hmem
   clear hf hW hnm hmem hlk
   obtain ⟨c, p⟩ := cp
   simp only at HC hfl HLK ⊢
   by_cases hs : c.sup = []
   · have ha : aboveC c = c.faces := by unfold aboveC; rw [if_pos hs]
     rw [ha]
     rw [hs] at HLK
     have hlk := HLK.out
     clear ha
     go_enter Tryz.func149, Tryz.ntmps149
     go_wp2_with fail
     go_ret
     exact ⟨⟨_, _, rfl, HC.out.below ((Below.refl _ _).alloc (Nat.le_refl _) _), Or.inr (Or.inl ⟨_, HMEM.out, rfl, rfl⟩)⟩, (Below.refl _ _).alloc (Nat.le_refl _) _⟩
   · have ha : aboveC c = c.sup :: c.faces := by unfold aboveC; rw [if_neg hs]
     rw [ha]
     obtain ⟨x, r, hx⟩ : ∃ x r, c.sup = x :: r := by
       cases h : c.sup with
       | nil => exact absurd h hs
       | cons x r => exact ⟨x, r, rfl⟩
     rw [hx] at HLK
     rw [hx]
     have hlk := HLK.out
     clear ha hs
     go_enter Tryz.func149, Tryz.ntmps149
     go_wp2_with (at_builtin; refine wpList_append_src0 rowStr rfl _ _ rfl w.heap.size _ 1 [strV (x :: r)] rfl ?c0 _ c.faces.length (c.faces.map strV) rfl ?c1 ?c2 ?c3 ?c4 ?_)
     case c0 => exact ab_own1 w _ (x :: r)
     case c1 => exact src_of_strs (HC.out.below (((Below.refl _ _).alloc (Nat.le_refl _) _).alloc (by simp) _))
     case c2 => omega
     case c3 => omega
     case c4 => simp; omega
     intro v4 w4 ho4 hg4
     have hb4 := Hd (ab_below hg4)
     obtain ⟨A4, C4, rfl, hr4⟩ := ab_srow (x := x :: r) (A := c.faces) ho4
     have HN4 := Hd (show ∀ ad, A4 = some ad → w.heap.size ≤ ad.block from fun ad e => (ho4.lt ad.block (by rw [e]; rfl)).1)
     have HR4 := Hd hr4
     clear ho4 hg4 hr4
     go_wp2_with fail
     go_ret
     exact ⟨⟨A4, C4, by rw [List.length_cons, Nat.add_comm]; rfl, HR4.out, Or.inr (Or.inr HN4.out)⟩, hb4.out⟩
def zeroK : ClassR := ⟨[], [], [], false, [], []⟩
def curP (L : List CP) (cur : Nm) : CP := (cpFind L cur).getD (zeroK, nilP)
def cArr (cp : CP) : Array Value := #[.string ⟨⟨cp.1.nm⟩⟩, .string ⟨⟨cp.1.sup⟩⟩, .slice cp.2.fa cp.1.faces.length cp.2.fc, .bool cp.1.face, .slice cp.2.ga cp.1.fields.length cp.2.gc, .slice cp.2.ma cp.1.meths.length cp.2.mc]
def DBlk (W : World) (g : Nat) (cp : CP) : Prop := W.heap[g]? = some (.cells (cArr cp) 50 (0, 0))
theorem DBlk.below {W W' : World} {g : Nat} {cp : CP} (h : DBlk W g cp) (hb : Below W.heap.size W W') : DBlk W' g cp := (hb.block g (Array.getElem?_eq_some_iff.1 h).1).trans h
theorem DBlk.lt {W : World} {g : Nat} {cp : CP} (h : DBlk W g cp) : g < W.heap.size := (Array.getElem?_eq_some_iff.1 h).1
theorem DBlk.cell {W : World} {g j : Nat} {cp : CP} (h : DBlk W g cp) : W.cell? ⟨g, j, none⟩ = (cArr cp)[j]? := by unfold DBlk at h; simp [World.cell?, h]
theorem DBlk.frozen {W : World} {g j : Nat} {cp : CP} (h : DBlk W g cp) : W.frozen? ⟨g, j, none⟩ = false := by unfold DBlk at h; simp [World.frozen?, h]
theorem DBlk.cells {W : World} {g : Nat} {cp : CP} (h : DBlk W g cp) : W.cell? ⟨g, 0, none⟩ = some (.string ⟨⟨cp.1.nm⟩⟩) ∧ W.cell? ⟨g, 1, none⟩ = some (.string ⟨⟨cp.1.sup⟩⟩) ∧ W.cell? ⟨g, 2, none⟩ = some (.slice cp.2.fa cp.1.faces.length cp.2.fc) ∧ W.cell? ⟨g, 3, none⟩ = some (.bool cp.1.face) ∧ W.cell? ⟨g, 4, none⟩ = some (.slice cp.2.ga cp.1.fields.length cp.2.gc) ∧ W.cell? ⟨g, 5, none⟩ = some (.slice cp.2.ma cp.1.meths.length cp.2.mc) :=
 ⟨by rw [h.cell]; rfl, by rw [h.cell]; rfl, by rw [h.cell]; rfl, by rw [h.cell]; rfl, by rw [h.cell]; rfl, by rw [h.cell]; rfl⟩
theorem DBlk.grown {W W' : World} {g B n : Nat} {cp : CP} {v : Value} {xs : List Value} (h : DBlk W g cp) (ho : W.ownsRow B 9 1 v n xs) (hg : W.grownBy W' v.ownBlock) : DBlk W' g cp := by
 refine (hg.block g h.lt ?_).trans h
 intro e
 rcases ho.2 with ⟨rfl, _⟩ | ⟨k, cap, cur, rfl, _, hk, _⟩
 · simp [Value.ownBlock] at e
 · simp [Value.ownBlock] at e
   subst e
   unfold DBlk at h
   rw [hk] at h
   simp only [Option.some.injEq, Obj.cells.injEq] at h
   exact absurd h.2.1 (by decide)
theorem dblk_new (W : World) (cp : CP) : DBlk (W.alloc (.cells #[.string ⟨⟨cp.1.nm⟩⟩, .string ⟨⟨cp.1.sup⟩⟩, .slice cp.2.fa cp.1.faces.length cp.2.fc, .bool cp.1.face, .slice cp.2.ga cp.1.fields.length cp.2.gc, .slice cp.2.ma cp.1.meths.length cp.2.mc] 50)) W.heap.size cp := (MapKept.heap_alloc W _).1
theorem cur_look {w : World} {b : Nat} {L : List CP} {n : Nm} (h : WorldAt w b L) (hn : n.length ≤ maxLen) :
   (Instr.lookup 88 (.map (some b)) (.string ⟨⟨n⟩⟩) false).run Tryz.prog w = .ok (classV (curP L n).1 (curP L n).2) w := by
 unfold curP
 cases hf : cpFind L n with
 | none => exact wlook_none h hn hf false
 | some cp => exact wlook_some h hn hf false
theorem cur_sup {L : List CP} {n : Nm} (h : (curP L n).1.sup ≠ []) : ∃ c, look (CL L) n = some c ∧ c = (curP L n).1 := by
 unfold curP at *
 unfold CL
 rw [cpFind_look]
 cases hf : cpFind L n with
 | none => rw [hf] at h; simp [zeroK] at h
 | some cp => exact ⟨cp.1, rfl, rfl⟩
theorem cur_top {L : List CP} {n : Nm} (h : (curP L n).1.sup = []) : atTop (CL L) n := by
 unfold curP at h
 unfold atTop CL
 rw [cpFind_look]
 cases hf : cpFind L n with
 | none => exact Or.inl rfl
 | some cp => rw [hf] at h; exact Or.inr ⟨cp.1, rfl, h⟩
theorem cur_len {L : List CP} {n : Nm} (hL : ∀ cp ∈ L, cp.1.sup.length ≤ 1048576) : (curP L n).1.sup.length ≤ 1048576 := by
 unfold curP
 cases hf : cpFind L n with
 | none => simp [zeroK]
 | some cp => exact hL cp (cpFind_mem hf).2
def LineRes (A : List Nm) (w : World) (e : Ending) (w' : World) : Prop := (∃ v, e = .returned v ∧ w'.ownsRow w.heap.size 9 1 v A.length (A.map strV)) ∧ Below w.heap.size w w'
def lenOf : Value → Nat | .slice _ n _ => n | _ => 0
theorem line_calls (L : List CP) (l : List ClassR) (b : Nat) (n : Nm) (w : World) (hW : WorldAt w b L) (hl : CL L = wl l) (hg : Good l) (hn : n.length ≤ 1048576) (hL : ∀ cp ∈ L, cp.1.sup.length ≤ 1048576) :
   Calls Tryz.prog 197 #[.map (some b), .string ⟨⟨n⟩⟩] w (LineRes (line (wl l) n) w) := by
 have HW := Hd hW
 have HL := Hd hl
 have HG := Hd hg
 have HLL := Hd hL
 clear hl hg hL
 have hml : (1048576 : Nat) ≤ maxLen := by unfold maxLen; omega
 have ho0 : (w.alloc (.cells #[strV n] 9)).ownsRow w.heap.size 9 1 (.slice (some ⟨w.heap.size, 0, none⟩) 1 1) 1 [strV n] := by
   have := World.ownsRow_lit (base := w.heap.size) (e := 9) (size := 1) w #[strV n] 1 (Nat.le_refl _) (by unfold maxLen; omega) rfl
   exact this
 have HO0 := Hd ho0
 have hlk := cur_look (n := n) (hW.below ((Below.refl _ _).alloc (Nat.le_refl _) (.cells #[strV n] 9))) (by omega)
 have HD0 := Hd (dblk_new (w.alloc (.cells #[strV n] 9)) (curP L n))
 unfold classV at hlk
 clear ho0 hW
 go_enter Tryz.func197, Tryz.ntmps197
 go_wp2_with fail
 go_loopw [5, 6] (fun v c wr => ∃ (out : List Nm) (cur : Nm) (g : Nat) (A : Option Addr) (C : Nat), Hid (Ln l n out cur) ∧ v = .slice A out.length C ∧ c = .pointer (some ⟨g, 0, none⟩) ∧ wr.ownsRow w.heap.size 9 1 (.slice A out.length C) out.length (out.map strV) ∧ Below w.heap.size w wr ∧ DBlk wr g (curP L cur)) (fun v _ _ => 14 - lenOf v)
 case atStart => exact ⟨[n], n, w.heap.size + 1, some ⟨w.heap.size, 0, none⟩, 1, Hd (Ln.start l n), rfl, by simp, HO0.out.alloc _, ((Below.refl _ _).alloc (Nat.le_refl _) _).alloc (by simp) _, by have := HD0.out; simpa using this⟩
 case round =>
   obtain ⟨out, cur, g, A, C, HLN, rfl, rfl, ho, hb, hd⟩ := hrel
   have HO := Hd ho
   have HB := Hd hb
   have HD := Hd hd
   have hsz := hb.size
   have hgl := hd.lt
   obtain ⟨c0, c1, c2, c3, c4, c5⟩ := hd.cells
   have hlen := HLN.out.len HG.out
   clear ho hb hd
   by_cases hs : (curP L cur).1.sup = []
   · have HE := Hd (HLN.out.done HG.out (by rw [← HL.out]; exact cur_top hs))
     rw [hs] at c1
     clear hs
     go_wp2_with fail
     go_ret
     exact ⟨⟨_, rfl, by rw [HE.out]; exact HO.out⟩, HB.out⟩
   · obtain ⟨c, hc, hce⟩ := cur_sup hs
     have HN := Hd (HLN.out.step HG.out (by rw [← HL.out]; exact hc) (by rw [hce]; exact hs))
     have hsl := cur_len (n := cur) HLL.out
     rw [hce] at HN
     obtain ⟨x, r, hx⟩ : ∃ x r, (curP L cur).1.sup = x :: r := by
       cases h : (curP L cur).1.sup with
       | nil => exact absurd h hs
       | cons x r => exact ⟨x, r, rfl⟩
     rw [hx] at c1 HN hsl
     clear hs hc hce
     go_wp2_with (at_builtin; refine wpList_append_one rowStr rfl _ _ rfl w.heap.size _ out.length (out.map strV) rfl ?c0 [strV (x :: r)] rfl ?c1 _ rfl ?cg ?c2 ?c3 ?c4 ?_)
     case c0 => exact HO.out
     case c1 => intro u hu; rw [List.mem_singleton.1 hu]; rfl
     case cg => rfl
     case c2 => omega
     case c3 => omega
     case c4 => exact hsz
     intro v4 w4 ho4 hg4
     have hb4 := grown_below hsz HO.out hg4
     have HB4 := Hd (HB.out.trans hb4)
     have HD4 := Hd ((HD.out.below ((Below.refl _ _).alloc (Nat.le_refl _) _)).grown (HO.out.alloc _) hg4)
     have hw4 := HB4.out.size
     have ho5 : w4.ownsRow w.heap.size 9 1 v4 (out ++ [x :: r]).length ((out ++ [x :: r]).map strV) := by
       rw [List.length_append, List.length_singleton, List.map_append]; exact ho4
     obtain ⟨A4, C4, rfl, _⟩ := slice_of_own ho5
     have HO5 := Hd ho5
     have hll : (out ++ [x :: r]).length = out.length + 1 := by simp
     obtain ⟨e0, e1, e2, e3, e4, e5⟩ := HD4.out.cells
     rw [hx] at e1
     have hlk4 := cur_look (n := x :: r) ((HW.out.below HB4.out).below ((Below.refl _ _).alloc (Nat.le_refl _) (.cells #[.string ⟨⟨(curP L cur).1.nm⟩⟩, .string ⟨⟨x :: r⟩⟩, .slice (curP L cur).2.fa (curP L cur).1.faces.length (curP L cur).2.fc, .bool (curP L cur).1.face, .slice (curP L cur).2.ga (curP L cur).1.fields.length (curP L cur).2.gc, .slice (curP L cur).2.ma (curP L cur).1.meths.length (curP L cur).2.mc] 50))) (Nat.le_trans hsl hml)
     unfold classV at hlk4
     clear ho4 hg4 hb4 ho5 hx
     generalize hcp2 : curP L (x :: r) = cp2 at *
     have HCP := Hd hcp2
     clear hcp2
     go_wp2_with fail
     go_roundw
     case rel => exact ⟨out ++ [x :: r], x :: r, w4.heap.size, A4, C4, HN, rfl, rfl, HO5.out.alloc _, HB4.out.alloc hw4 _, by rw [HCP.out]; exact dblk_new w4 cp2⟩
     case measure => simp [lenOf]; omega
open Go.Sort
theorem grow_own {w : World} {B : Nat} {e : TypeId} {size : Nat} {v : Value} {n : Nat} {xs : List Value} (h : w.ownsRow B e size v n xs) (os : Array Obj) : (grow w os).ownsRow B e size v n xs := by
 refine h.kept (row := none) ⟨rfl, rfl, rfl, by simp [grow], fun k hk _ => ?_⟩ (by cases hv : Value.ownBlock v <;> simp)
 simp only [grow]
 rw [Array.getElem?_append_left hk]
theorem sort_own (A : List Nm) (B : Nat) (g cap : Nat) (w0 w : World) (hb : Below B w0 w) (hg : B ≤ g) (h : w.ownsRow B 9 1 (.slice (some ⟨g, 0, none⟩) A.length cap) A.length (A.map strV)) (hl : A.length ≤ 1000000) :
   Calls Tryz.prog 175 #[.slice (some ⟨g, 0, none⟩) A.length cap] w fun e w' => e = .returned (.tuple #[]) ∧ Below B w0 w' ∧ w'.ownsRow B 9 1 (.slice (some ⟨g, 0, none⟩) A.length cap) A.length ((A.mergeSort (fun x y => decide (x ≤ y))).map strV) := by
 obtain ⟨g', cap', hv, _, hlt, hle, _, hzl, hH⟩ := holds_of_ownsRow (enc := encStr) (zs := A) h (by simp)
 simp only [Value.slice.injEq, Option.some.injEq, Addr.mk.injEq] at hv
 obtain ⟨⟨rfl, _, _⟩, _, rfl⟩ := hv
 refine (Tryz.slices_Sort_string g 0 cap A w hH hlt (by omega)).mono ?_
 rintro e w' ⟨rfl, n, os, rfl⟩
 refine ⟨rfl, ?_, ?_⟩
 · have h1 := below_putRow (enc := encStr) (q := n) (d := (A.mergeSort (fun x y => decide (x ≤ y))).toArray) hb hg
   exact ⟨h1.os, h1.tape, h1.output, Nat.le_trans h1.size (by simp [grow]), fun k hk => by
     rw [← h1.block k hk]
     simp only [grow]
     have hs1 : w.heap.size ≤ (putRow encStr (Go.Sort.ahead w n) g 0 (A.mergeSort (fun x y => decide (x ≤ y))).toArray).heap.size := by simp [putRow, mapBlock, Go.Sort.ahead]
     rw [Array.getElem?_append_left (Nat.lt_of_lt_of_le (show k < w.heap.size by omega) hs1)]⟩
 · have h2 := ownsRow_putRow (enc := encStr) (q := n) (k := A.length) (ys := A.mergeSort (fun x y => decide (x ≤ y))) h (by simp) (Nat.le_refl _)
   rw [List.take_of_length_le (by simp)] at h2
   exact grow_own h2 os
theorem wpList_append_str {W : World} {ops : Array Oper} {rest : List Oper} {o : Oper} {a : Act} {Q : Exit → Act → World → Prop} (hgd : o.guard = none) (s x : Operand)
   (ho : o.op = .call { callee := .builtin .append, args := #[s, x], argTypes := #[35, 35] }) (B : Nat) (v : Value) (n : Nat) (xs : List Value) (hs : a.eval s = v) (hown : W.ownsRow B 9 1 v n xs)
   (y : Nm) (g : Nat) (hx : a.eval x = .slice (some ⟨g, 0, none⟩) 1 1) (hg : g = W.heap.size) (hn : n + 1 ≤ 1000000000) (hB : B ≤ W.heap.size)
   (h : ∀ g' cap w', w'.ownsRow B 9 1 (.slice (some ⟨g', 0, none⟩) (n + 1) cap) (n + 1) (xs ++ [strV y]) → (W.alloc (.cells #[strV y] 9)).grownBy w' v.ownBlock → (v.ownBlock = some g' ∨ g' = W.heap.size + 1) → wpList Tryz.prog ops Q rest (a.put o.dst (.slice (some ⟨g', 0, none⟩) (n + 1) cap)) w') :
   wpList Tryz.prog ops Q (o :: rest) a (W.alloc (.cells #[strV y] 9)) := by
 subst hg
 obtain ⟨i, z, hi, hz, hsz, hby, hzs⟩ := rowStr.info
 exact wpList_append_lies _ hgd s x _ ho B 9 i z 1 16 rowStr.slice hi hz hsz hby hzs (by omega) v n xs hs (hown.alloc _) ⟨W.heap.size, 0, none⟩ 1 1 [strV y] hx (by simp) (fun j u hj => new_cells W [strV y] 9 j u hj) (by intro u hu; rw [List.mem_singleton.1 hu]; rfl) (by omega) (by unfold maxLen; omega) (by omega) (by simp; omega) (W.heap.size + 1) (by simp) (fun g' cap w' h2 h3 h4 _ => h g' cap w' h2 h3 h4)
theorem srow_grown {W w' : World} {o : Obj} {a : Option Addr} {cap g : Nat} {A : List Nm} {n c : Nat} (h : SRow W a cap A) (hg : (W.alloc o).grownBy w' (Value.slice (some ⟨g, 0, none⟩) n c).ownBlock) (hne : A = [] ∨ ∀ ad, a = some ad → ad.block ≠ g) : SRow w' a cap A := by
 obtain ⟨h1, h2⟩ := h
 refine ⟨h1, ?_⟩
 rcases h2 with h2 | ⟨b, off, rfl, hlt, hc⟩
 · exact Or.inl h2
 · rcases hne with hne | hne
   · exact Or.inl hne
   · refine Or.inr ⟨b, off, rfl, ?_, fun j x hx => ?_⟩
     · exact Nat.lt_of_lt_of_le hlt (by have := hg.size; simp at this; omega)
     · have hb : b ≠ g := hne _ rfl
       rw [World.cell?_of_block (w := W) ((hg.block b (by simp; omega) (by simp [Value.ownBlock]; exact fun e => hb e)).trans (Below.heap_alloc W o b hlt))]
       exact hc j x hx
theorem addNew_drop {al : List Nm} {j : Nat} {x : Nm} (out : List Nm) (h : al[j]? = some x) : addNew out (al.drop j) = addNew (if out.contains x then out else out ++ [x]) (al.drop (j + 1)) := by
 obtain ⟨hj, rfl⟩ := List.getElem?_eq_some_iff.1 h
 rw [List.drop_eq_getElem_cons hj, addNew]
structure Inn (L : List ClassR) (U : List Nm) (n : Nm) (i : Nat) (al : List Nm) (j : Nat) (out : List Nm) : Prop where
 sub : ∀ x ∈ out, x ∈ U
 nd : out.Nodup
 fin : WSch L U n (addNew out (al.drop j)) (i + 1)
 asU : ∀ a ∈ al, a ∈ U
theorem Inn.step {L : List ClassR} {U : List Nm} {n : Nm} {i j : Nat} {al out : List Nm} {x : Nm} (h : Inn L U n i al j out) (hx : al[j]? = some x) : Inn L U n i al (j + 1) (if out.contains x then out else out ++ [x]) := by
 refine ⟨?_, ?_, by rw [← addNew_drop out hx]; exact h.fin, h.asU⟩
 · intro y hy
   split at hy
   · exact h.sub y hy
   · rcases List.mem_append.1 hy with h1 | h1
     · exact h.sub y h1
     · rw [List.mem_singleton.1 h1]; exact h.asU x (List.mem_of_getElem? hx)
 · split
   · exact h.nd
   · rename_i hc
     rw [List.nodup_append]
     refine ⟨h.nd, by simp, ?_⟩
     intro a ha b hb e
     rw [List.mem_singleton] at hb
     subst hb
     subst e
     exact hc (by simpa using ha)
theorem Inn.len {L : List ClassR} {U : List Nm} {n : Nm} {i j : Nat} {al out : List Nm} (h : Inn L U n i al j out) : out.length ≤ U.length := nodup_len h.nd h.sub
theorem every_calls (L : List CP) (U : List Nm) (b : Nat) (n : Nm) (w : World) (hW : WorldAt w b L) (hC : Closed (CL L) U) (hnU : n ∈ U) (hU : U.length ≤ 50) (hUl : ∀ x ∈ U, x.length ≤ 1048576) (hL : ∀ cp ∈ L, cp.1.faces.length ≤ 100000000) :
   Calls Tryz.prog 117 #[.map (some b), .string ⟨⟨n⟩⟩] w (LineRes (every (CL L) n) w) := by
 have HW := Hd hW
 have HC := Hd hC
 have HUL := Hd hUl
 have HLL := Hd hL
 have HNU := Hd hnU
 clear hC hUl hL hnU
 have ho0 : (w.alloc (.cells #[strV n] 9)).ownsRow w.heap.size 9 1 (.slice (some ⟨w.heap.size, 0, none⟩) 1 1) 1 [strV n] := by
   have := World.ownsRow_lit (base := w.heap.size) (e := 9) (size := 1) w #[strV n] 1 (Nat.le_refl _) (by unfold maxLen; omega) rfl
   exact this
 have HO0 := Hd ho0
 clear ho0 hW
 go_enter Tryz.func117, Tryz.ntmps117
 go_wp2_with fail
 go_loopw [5, 6] (fun v i wr => ∃ (out : List Nm) (k : Nat) (A : Option Addr) (C : Nat), Hid (WSch (CL L) U n out k) ∧ k ≤ out.length ∧ i = .int .i64 k ∧ v = .slice A out.length C ∧ wr.ownsRow w.heap.size 9 1 (.slice A out.length C) out.length (out.map strV) ∧ Below w.heap.size w wr) (fun _ i _ => 60 - (RowKit.intOf i).toNat)
 case atStart => exact ⟨[n], 0, some ⟨w.heap.size, 0, none⟩, 1, Hd (WSch.start HNU.out), by simp, rfl, rfl, HO0.out, (Below.refl _ _).alloc (Nat.le_refl _) _⟩
 case round =>
   obtain ⟨out, k, A, C, HS, hk, rfl, rfl, ho, hb⟩ := hrel
   have HO := Hd ho
   have HB := Hd hb
   have hsz := hb.size
   have hlen := HS.out.len
   by_cases hlk : k < out.length
   · obtain ⟨x, hx⟩ : ∃ x, out[k]? = some x := ⟨_, List.getElem?_eq_getElem hlk⟩
     obtain ⟨a', cap', hv', hsr⟩ := srow_of_own ho
     simp only [Value.slice.injEq] at hv'
     obtain ⟨rfl, _, rfl⟩ := hv'
     obtain ⟨b1, off, rfl, hlt, d0⟩ := strs_cell hsr hx
     obtain ⟨g1, cg, hg1, hgB, _⟩ := ho.form (by omega)
     simp only [Value.slice.injEq, Option.some.injEq, Addr.mk.injEq] at hg1
     obtain ⟨⟨rfl, rfl, _⟩, _, rfl⟩ := hg1
     have HOB := Hd hgB
     rw [Nat.zero_add] at d0
     have hxU := HS.out.sub x (List.mem_of_getElem? hx)
     have hml : (1048576 : Nat) ≤ maxLen := by unfold maxLen; omega
     have HAB := Hd (above_calls L b x wr (HW.out.below hb) (Nat.le_trans (HUL.out x hxU) hml) HLL.out)
     have HN := Hd (HS.out.step hU HC.out hx)
     have hasU := HC.out x hxU
     have HAU := Hd hasU
     have hal : (above (CL L) x).length ≤ 200000000 := by
       unfold above
       cases hf : look (CL L) x with
       | none => simp
       | some c =>
         obtain ⟨_, hm⟩ := find_name hf
         obtain ⟨cp, hcp, rfl⟩ := List.mem_map.1 hm
         have := HLL.out cp hcp
         simp only [Option.elim, aboveC]
         split
         · omega
         · simp; omega
     generalize above (CL L) x = al at HAB HN HAU hal
     clear ho hb hsr hx hasU
     go_wp2_with fail
     refine HAB.out.mono ?_
     rintro e w2 ⟨⟨aa, ac, rfl, hr2, hap⟩, hb2⟩
     have HAP := Hd (show al = [] ∨ ∀ ad, aa = some ad → ad.block ≠ b1 from by
       rcases hap with h | ⟨cp, hcp, h1, h2⟩ | h
       · exact Or.inl h
       · by_cases h0 : al = []
         · exact Or.inl h0
         · right
           intro ad had
           have hfa := (HW.out.2 cp hcp).1
           rw [← h2, ← h1] at hfa
           obtain ⟨_, h3 | ⟨b', off', h4, h5, _⟩⟩ := hfa
           · exact absurd h3 h0
           · rw [h4] at had
             cases had
             have := HOB.out
             show b' ≠ b1
             omega
       · right
         intro ad had
         have := h ad had
         omega)
     have HR2 := Hd hr2
     have HB2 := Hd (bl_trans HB.out hb2)
     have HO2 := Hd (own_below HO.out hb2)
     have HI0 := Hd (show Inn (CL L) U n k al 0 out from ⟨HS.out.sub, HS.out.nd, HN.out, HAU.out⟩)
     clear hr2 hb2
     go_wp2_with fail
     go_loopw [24, 5] (fun j v wq => ∃ (m : Nat) (out2 : List Nm) (A2 : Option Addr) (C2 : Nat), Hid (Inn (CL L) U n k al m out2) ∧ m ≤ al.length ∧ j = .int .i64 m ∧ v = .slice A2 out2.length C2 ∧ wq.ownsRow w.heap.size 9 1 (.slice A2 out2.length C2) out2.length (out2.map strV) ∧ Below w.heap.size w wq ∧ SRow wq aa ac al ∧ Hid (∃ g2, A2 = some ⟨g2, 0, none⟩ ∧ (al = [] ∨ ∀ ad, aa = some ad → ad.block ≠ g2))) (fun j _ _ => al.length - (RowKit.intOf j).toNat)
     case atStart => exact ⟨0, out, _, _, HI0, by omega, rfl, rfl, HO2.out, HB2.out, HR2.out, Hd ⟨_, rfl, HAP.out⟩⟩
     case round =>
       obtain ⟨m, out2, A2, C2, HI, hm, rfl, rfl, ho, hb, hr, HG2⟩ := hrel
       obtain ⟨g2, rfl, hap2⟩ := HG2.out
       have HAP2 := Hd hap2
       clear hap2 HG2
       have HO3 := Hd ho
       have HB3 := Hd hb
       have HR3 := Hd hr
       have hszq := hb.size
       have hlen2 := HI.out.len
       by_cases hmk : m < al.length
       · obtain ⟨y, hy⟩ : ∃ y, al[m]? = some y := ⟨_, List.getElem?_eq_getElem hmk⟩
         obtain ⟨b3, off3, rfl, hlt3, e0⟩ := strs_cell hr hy
         obtain ⟨a4, cap4, hv4, hsr4⟩ := srow_of_own ho
         simp only [Value.slice.injEq] at hv4
         obtain ⟨rfl, _, rfl⟩ := hv4
         have HCT := Hd (contains_str out2 _ out2.length _ y _ hsr4 rfl (by omega))
         have HI2 := Hd (HI.out.step hy)
         clear ho hb hr hy hsr4
         cases hc : out2.contains y with
         | true =>
           rw [hc] at HCT HI2
           simp only [if_true] at HI2
           clear hc
           go_wp2_with fail
           refine HCT.out.mono ?_
           rintro e w3 ⟨rfl, rfl⟩
           go_wp2_with fail
           go_roundw
           case rel => exact ⟨m + 1, out2, _, C2, HI2, by omega, by go_num, rfl, HO3.out, HB3.out, HR3.out, Hd ⟨g2, rfl, HAP2.out⟩⟩
           case measure => simp [RowKit.intOf]; omega
         | false =>
           rw [hc] at HCT HI2
           simp only [Bool.false_eq_true, if_false] at HI2
           clear hc
           go_wp2_with fail
           refine HCT.out.mono ?_
           rintro e w3 ⟨rfl, rfl⟩
           go_wp2_with (at_builtin; refine wpList_append_str rfl _ _ rfl w.heap.size _ out2.length (out2.map strV) rfl ?c0 y _ rfl ?cg ?c2 ?c4 ?_)
           case c0 => exact HO3.out
           case cg => rfl
           case c2 => omega
           case c4 => exact hszq
           intro g4 C4 w4 ho4 hg4 hat
           have hb4 := grown_below hszq HO3.out hg4
           have HB4 := Hd (HB3.out.trans hb4)
           have ho5 : w4.ownsRow w.heap.size 9 1 (.slice (some ⟨g4, 0, none⟩) (out2.length + 1) C4) (out2 ++ [y]).length ((out2 ++ [y]).map strV) := by
             rw [List.length_append, List.length_singleton, List.map_append]; exact ho4
           have HO5 := Hd ho5
           have HR4 := Hd (srow_grown HR3.out hg4 HAP2.out)
           have HAP4 := Hd (show al = [] ∨ ∀ ad, some (⟨b3, off3, none⟩ : Addr) = some ad → ad.block ≠ g4 from by
             rcases HAP2.out with h | h
             · exact Or.inl h
             · right
               intro ad had
               cases had
               rcases hat with e | e
               · simp [Value.ownBlock] at e
                 rw [← e]; exact h _ rfl
               · show b3 ≠ g4
                 omega)
           clear ho4 hg4 hb4 ho5 hat
           go_wp2_with fail
           go_roundw
           case rel => exact ⟨m + 1, out2 ++ [y], _, C4, HI2, by omega, by go_num, by simp, by simpa using HO5.out, HB4.out, HR4.out, Hd ⟨g4, rfl, HAP4.out⟩⟩
           case measure => simp [RowKit.intOf]; omega
       · obtain rfl : m = al.length := by omega
         have hf := HI.out.fin
         rw [List.drop_length] at hf
         have HF := Hd (show WSch (CL L) U n out2 (k + 1) from hf)
         have hl2 := hf.le
         clear hf ho hb hr
         go_wp2_with fail
         go_roundw
         case rel => exact ⟨out2, k + 1, _, C2, HF, hl2, by go_num, rfl, HO3.out, HB3.out⟩
         case measure => simp [RowKit.intOf]; omega
   · obtain rfl : k = out.length := by omega
     have HE := Hd HS.out.done
     obtain ⟨g, cap, cur, hv, hgB, _⟩ : ∃ g cap cur, (Value.slice A out.length C) = .slice (some ⟨g, 0, none⟩) out.length cap ∧ w.heap.size ≤ g ∧ wr.heap[g]? = some (.cells cur 9 (0, 0)) := by
       rcases ho.2 with ⟨h1, h2⟩ | ⟨g, cap, cur, h1, h2, h3, _⟩
       · have := HS.out.st
         rw [List.eq_nil_of_length_eq_zero h2] at this
         cases this
       · exact ⟨g, cap, cur, h1, h2, h3⟩
     simp only [Value.slice.injEq] at hv
     obtain ⟨rfl, _, rfl⟩ := hv
     have HST := Hd (sort_own out w.heap.size g C w wr hb hgB ho (by omega))
     clear ho hb
     go_wp2_with fail
     refine HST.out.mono ?_
     rintro e w2 ⟨rfl, hb2, ho2⟩
     have HB2 := Hd hb2
     have HO2 := Hd ho2
     clear hb2 ho2
     go_wp2_with fail
     go_ret
     have hee : every (CL L) n = out.mergeSort (fun x y => decide (x ≤ y)) := by unfold every; rw [HE.out]
     exact ⟨⟨_, rfl, by rw [hee, List.length_mergeSort]; exact HO2.out⟩, HB2.out⟩
def first2 : List CP := [(objC, nilP), (fltC, nilP)]
theorem cl_first (cs : List CP) : CL (first2 ++ cs) = wl (CL cs) := rfl
def FirstRes (w : World) (e : Ending) (w' : World) : Prop := ∃ b, e = .returned (.map (some b)) ∧ WorldAt w' b first2 ∧ w.heap.size ≤ b ∧ Below w.heap.size w w'
theorem first_calls (w : World) : Calls Tryz.prog 81 #[] w (FirstRes w) := by
 have h0 := SMap.made w
 obtain ⟨wA, hrA, hSA, hgA⟩ := h0.store (P := Tryz.prog) (k := 9) (t := 88) (e := 50) Tryz.underlying9 Tryz.underlying88 (z := objN) (by decide) rfl (classV objC nilP)
 obtain ⟨wB, hrB, hSB, hgB⟩ := hSA.store (P := Tryz.prog) (k := 9) (t := 88) (e := 50) Tryz.underlying9 Tryz.underlying88 (z := fltN) (by decide) (by decide) (classV fltC nilP)
 have hfin : WorldAt wB w.heap.size first2 := by
   refine ⟨hSB.cong (Nat.le_refl _) (fun z => ?_), ?_⟩
   · have e1 := cpFind_snoc [(objC, nilP)] (fltC, nilP) z (by decide)
     have e2 : fOf [(objC, nilP)] = sputf (fun _ => none) objN (classV objC nilP) := by
       funext y
       exact cpFind_snoc [] (objC, nilP) y rfl
     rw [e2] at e1
     exact e1
   · intro cp hcp
     simp only [first2, List.mem_cons, List.mem_nil_iff, or_false] at hcp
     rcases hcp with rfl | rfl <;> exact ⟨⟨Nat.le_refl _, Or.inl rfl⟩, ⟨Nat.le_refl _, Or.inl rfl⟩, ⟨rfl, ⟨Nat.le_refl _, Or.inl rfl⟩, fun k m p hm => by simp [objC, fltC] at hm⟩⟩
 have hbel : Below w.heap.size w wB := (((Below.refl w.heap.size w).alloc (Nat.le_refl _) _).grown hgA (by simp) (fun k hk => by cases hk; exact Nat.le_refl _)).grown hgB (by have := hgA.size; simp at this; omega) (fun k hk => by cases hk; exact Nat.le_refl _)
 have HFIN := Hd hfin
 have HBEL := Hd hbel
 have hrA' : (Instr.mapUpdate 88 (.map (some w.heap.size)) (.string ⟨#[79, 98, 106, 101, 99, 116]⟩) (.agg #[.string ⟨#[79, 98, 106, 101, 99, 116]⟩, .string ⟨#[]⟩, .slice none 0 0, .bool false, .slice none 0 0, .slice none 0 0])).run Tryz.prog (w.alloc (.map #[] 0)) = .ok () wA := hrA
 have hrB' : (Instr.mapUpdate 88 (.map (some w.heap.size)) (.string ⟨#[70, 97, 117, 108, 116]⟩) (.agg #[.string ⟨#[70, 97, 117, 108, 116]⟩, .string ⟨#[79, 98, 106, 101, 99, 116]⟩, .slice none 0 0, .bool false, .slice none 0 0, .slice none 0 0])).run Tryz.prog wA = .ok () wB := hrB
 clear h0 hrA hSA hgA hrB hSB hgB hfin hbel
 have m1 := run_makeMap (P := Tryz.prog) 88
 go_enter Tryz.func81, Tryz.ntmps81
 go_wp2_with fail
 go_ret
 exact ⟨_, rfl, HFIN.out, Nat.le_refl _, HBEL.out⟩
theorem has_none {L : List CP} {n : Nm} {f : Bool} (h : cpFind L n = none) : hasErr (CL L) n f = 3 := by unfold hasErr CL; rw [cpFind_look, h]; rfl
theorem has_some {L : List CP} {n : Nm} {f : Bool} {cp : CP} (h : cpFind L n = some cp) : hasErr (CL L) n f = if cp.1.face = f then 0 else 7 := by unfold hasErr CL; rw [cpFind_look, h]; rfl
theorem isSome_none {L : List CP} {n : Nm} (h : cpFind L n = none) : look (CL L) n = none := by unfold CL; rw [cpFind_look, h]; rfl
theorem isSome_some {L : List CP} {n : Nm} {cp : CP} (h : cpFind L n = some cp) : look (CL L) n = some cp.1 := by unfold CL; rw [cpFind_look, h]; rfl
theorem has_calls (L : List CP) (b : Nat) (n : Nm) (f : Bool) (w : World) (hW : WorldAt w b L) (hn : n.length ≤ maxLen) :
   Calls Tryz.prog 147 #[.map (some b), .string ⟨⟨n⟩⟩, .bool f] w fun e w' => e = .returned (errOf (hasErr (CL L) n f)) ∧ Below w.heap.size w w' := by
 cases hf : cpFind L n with
 | none =>
   have hlk := wlook_none hW hn hf true
   simp only [if_true] at hlk
   unfold zeroC at hlk
   rw [has_none hf]
   clear hW hf
   go_enter Tryz.func147, Tryz.ntmps147
   go_wp2_with fail
   go_ret
   exact ⟨rfl, (Below.refl _ _).alloc (Nat.le_refl _) _⟩
 | some cp =>
   have hlk := wlook_some hW hn hf true
   simp only [if_true] at hlk
   unfold classV at hlk
   rw [has_some hf]
   clear hW hf
   obtain ⟨⟨nm, sup, faces, face, fields, meths⟩, p⟩ := cp
   simp only at hlk ⊢
   cases face <;> cases f
   all_goals
     go_enter Tryz.func147, Tryz.ntmps147
     go_wp2_with fail
     go_ret
     exact ⟨rfl, (Below.refl _ _).alloc (Nat.le_refl _) _⟩
theorem indexStr (l : List Nm) (a : Option Addr) (cap : Nat) (w : World) (lb : Array Value) (q : Nm → Bool) (h : SRow w a cap l) (hl : l.length ≤ 1000000000) (hq : ∀ (k : Nat) (x : Nm), l[k]? = some x → PredB 150 lb (strV x) (q x) w) :
   Calls Tryz.prog 204 #[.slice a l.length cap, .func (.func 150) #[] lb] w fun e w' => (∃ i : Int, e = .returned (.int .i64 i) ∧ decide (0 ≤ i) = l.any q) ∧ Below w.heap.size w w' := by
 have HQ := Hd hq
 have HL := Hd h
 clear hq h
 go_enter Tryz.func204, Tryz.ntmps204
 go_wp2_with fail
 go_loopw [8] (fun i wr => ∃ k : Nat, k ≤ l.length ∧ i = .int .i64 k ∧ Below w.heap.size w wr ∧ Hid (∀ x ∈ l.take k, q x = false)) (fun i _ => l.length - (RowKit.intOf i).toNat)
 case atStart => exact ⟨0, by omega, rfl, Below.refl _ _, Hd (by simp)⟩
 case round =>
   obtain ⟨k, hk, rfl, hb, HZ⟩ := hrel
   have HB := Hd hb
   by_cases hlk : k < l.length
   · obtain ⟨x, hx⟩ : ∃ x, l[k]? = some x := ⟨_, List.getElem?_eq_getElem hlk⟩
     obtain ⟨b, off, rfl, hlt, c0⟩ := strs_cell (HL.out.below hb) hx
     have HP := Hd (HQ.out k x hx wr hb)
     have HX := Hd hx
     unfold strV at HP
     clear hx hb
     cases hr : q x with
     | true =>
       rw [hr] at HP
       have HA := Hd (any_hit HX.out hr)
       clear hr
       go_wp2_with fail
       refine HP.out.mono ?_
       rintro e w2 ⟨rfl, hb2⟩
       have HB2 := Hd hb2
       clear hb2
       go_wp2_with fail
       go_ret
       exact ⟨⟨k, rfl, by rw [HA.out]; simp⟩, HB2.out⟩
     | false =>
       rw [hr] at HP
       have HZ2 := Hd (take_all_succ HZ.out HX.out hr)
       clear hr
       go_wp2_with fail
       refine HP.out.mono ?_
       rintro e w2 ⟨rfl, hb2⟩
       have HB2 := Hd hb2
       clear hb2
       go_wp2_with fail
       go_roundw
       case rel => exact ⟨k + 1, by omega, by go_num, HB2.out, HZ2⟩
       case measure => simp [RowKit.intOf]; omega
   · obtain rfl : k = l.length := by omega
     have HA := Hd (any_miss (by have := HZ.out; rwa [List.take_length] at this))
     go_wp2_with fail
     go_ret
     exact ⟨⟨-1, rfl, by rw [HA.out]; rfl⟩, HB.out⟩
theorem containsStr (l : List Nm) (a : Option Addr) (cap : Nat) (w : World) (lb : Array Value) (q : Nm → Bool) (h : SRow w a cap l) (hl : l.length ≤ 1000000000) (hq : ∀ (k : Nat) (x : Nm), l[k]? = some x → PredB 150 lb (strV x) (q x) w) :
   Calls Tryz.prog 148 #[.slice a l.length cap, .func (.func 150) #[] lb] w fun e w' => e = .returned (.bool (l.any q)) ∧ Below w.heap.size w w' := by
 have HI := Hd (indexStr l a cap w lb q h hl hq)
 clear hq h
 go_enter Tryz.func148, Tryz.ntmps148
 go_wp2_with fail
 refine HI.out.mono ?_
 rintro e w2 ⟨⟨i, rfl, hi⟩, hb2⟩
 have H1 := Hd hi
 have HB2 := Hd hb2
 clear hi hb2
 go_wp2_with fail
 go_ret
 exact ⟨ret_bool H1.out, HB2.out⟩
def RBox (W : World) (g1 g2 b : Nat) (n : Nm) : Prop := g1 < W.heap.size ∧ g2 < W.heap.size ∧ W.cell? ⟨g1, 0, none⟩ = some (.map (some b)) ∧ W.cell? ⟨g2, 0, none⟩ = some (.string ⟨⟨n⟩⟩)
theorem RBox.below {W W' : World} {g1 g2 b : Nat} {n : Nm} (h : RBox W g1 g2 b n) (hb : Below W.heap.size W W') : RBox W' g1 g2 b n :=
 ⟨Nat.lt_of_lt_of_le h.1 hb.size, Nat.lt_of_lt_of_le h.2.1 hb.size, by rw [hb.cell (p := ⟨g1, 0, none⟩) h.1]; exact h.2.2.1, by rw [hb.cell (p := ⟨g2, 0, none⟩) h.2.1]; exact h.2.2.2⟩
theorem round1_calls (L : List CP) (U : List Nm) (b g1 g2 : Nat) (n x : Nm) (w : World) (hB : RBox w g1 g2 b n) (hW : WorldAt w b L) (hC : Closed (CL L) U) (hnU : x ∈ U) (hU : U.length ≤ 50) (hUl : ∀ x ∈ U, x.length ≤ 1048576) (hL : ∀ cp ∈ L, cp.1.faces.length ≤ 100000000) :
   PredB 150 #[.pointer (some ⟨g1, 0, none⟩), .pointer (some ⟨g2, 0, none⟩)] (strV x) ((every (CL L) x).contains n) w := by
 intro W hb
 have HB := Hd hb
 have HBX := Hd (hB.below hb)
 have HE := Hd (fun W' (hW' : WorldAt W' b L) => every_calls L U b x W' hW' hC hnU hU hUl hL)
 have HW := Hd (hW.below hb)
 have hle : (every (CL L) x).length ≤ 50 := by
   have := (every_sch hU hC hnU).len
   unfold every
   rw [List.length_mergeSort]
   omega
 clear hb hB hW hC hnU hUl hL
 obtain ⟨hg1, hg2, c0, c1⟩ := HBX.out
 generalize every (CL L) x = ev at *
 unfold strV
 show Calls Tryz.prog _ #[_, _, _] W _
 go_enter Tryz.func150, Tryz.ntmps150
 go_wp2_with fail
 go_region_with (first
   | (go_at_call 117; refine (HE.out _ (by exact HW.out)).mono ?_; rintro e w2 ⟨⟨v2, rfl, ho2⟩, hb2⟩; obtain ⟨_, _, d0, d1⟩ := (show RBox W.drew g1 g2 b n from HBX.out).below hb2; obtain ⟨A2, C2, rfl, hsr⟩ := srow_of_own ho2; have HSR := Hd hsr; have HB2 := Hd (bl_trans (Below.refl _ _).drew hb2); clear hb2 ho2 hsr)
   | (go_at_call 116; refine (contains_str ev _ ev.length _ n _ HSR.out rfl (by omega)).mono ?_; rintro e w3 ⟨rfl, rfl⟩))
 all_goals
   go_wp2_with fail
   go_ret
   exact ⟨ret_bool (by simp), HB.out.trans (HB2.out.mono HB.out.size)⟩
def jn4 (c : ClassR) : Int := if c.face = true ∧ c.sup ≠ objN then 7 else 0
noncomputable def jn3 (L : List ClassR) (c : ClassR) : Int := if firstNZ (facErr L c.faces) c.faces.length ≠ 0 then firstNZ (facErr L c.faces) c.faces.length else jn4 c
noncomputable def jn2 (L : List ClassR) (c : ClassR) : Int := if hasErr L c.sup false ≠ 0 then hasErr L c.sup false else jn3 L c
noncomputable def jn1 (L : List ClassR) (c : ClassR) : Int := if firstNZ (isErr L c.faces) c.faces.length ≠ 0 then firstNZ (isErr L c.faces) c.faces.length else jn2 L c
theorem join_1 {L : List ClassR} {c : ClassR} (h1 : c.sup ≠ []) (h2 : (look L c.sup).isSome = true) : joinErr L c = jn1 L c := by
 unfold joinErr jn1 jn2 jn3 jn4
 rw [if_neg h1, if_neg (by cases hl : look L c.sup with | none => rw [hl] at h2; cases h2 | some d => simp)]
theorem jn1_2 {L : List ClassR} {c : ClassR} (h : ∀ j, j < c.faces.length → isErr L c.faces j = 0) : jn1 L c = jn2 L c := by unfold jn1; rw [if_neg (by rw [(firstNZ_zero _ _).2 h]; simp)]
theorem jn1_at {L : List ClassR} {c : ClassR} {k : Nat} (h0 : ∀ j, j < k → isErr L c.faces j = 0) (hk : isErr L c.faces k ≠ 0) (hl : k < c.faces.length) : jn1 L c = isErr L c.faces k := by
 have := firstNZ_at h0 hk _ hl
 unfold jn1
 rw [this, if_pos hk]
theorem jn3_4 {L : List ClassR} {c : ClassR} (h : ∀ j, j < c.faces.length → facErr L c.faces j = 0) : jn3 L c = jn4 c := by unfold jn3; rw [if_neg (by rw [(firstNZ_zero _ _).2 h]; simp)]
theorem jn3_at {L : List ClassR} {c : ClassR} {k : Nat} (h0 : ∀ j, j < k → facErr L c.faces j = 0) (hk : facErr L c.faces k ≠ 0) (hl : k < c.faces.length) : jn3 L c = facErr L c.faces k := by
 have := firstNZ_at h0 hk _ hl
 unfold jn3
 rw [this, if_pos hk]
theorem isErr_at {L : List ClassR} {l : List Nm} {k : Nat} {f : Nm} (h : l[k]? = some f) : isErr L l k = if (look L f).isSome then 0 else 3 := by unfold isErr; rw [h]; rfl
theorem facErr_at {L : List ClassR} {l : List Nm} {k : Nat} {f : Nm} (h : l[k]? = some f) : facErr L l k = hasErr L f true := by unfold facErr; rw [h]; rfl
theorem joined_calls (L : List CP) (b : Nat) (c : ClassR) (p : CAddr) (w : World) (hW : WorldAt w b L) (hS : SRow w p.fa p.fc c.faces) (hsl : c.sup.length ≤ 1048576) (hfl : ∀ f ∈ c.faces, f.length ≤ 1048576) (hfn : c.faces.length ≤ 100000000) :
   Calls Tryz.prog 83 #[.map (some b), classV c p] w fun e w' => e = .returned (errOf (joinErr (CL L) c)) ∧ Below w.heap.size w w' := by
 have hml : (1048576 : Nat) ≤ maxLen := by unfold maxLen; omega
 generalize hE : errOf (joinErr (CL L) c) = E
 have HE := Hd hE
 have HX := Hd (cbox_new w c p)
 have HW := Hd hW
 have HS := Hd hS
 have HFL := Hd hfl
 clear hE hW hS hfl
 unfold classV
 generalize hpfa : p.fa = fa at *
 generalize hpga : p.ga = ga at *
 generalize hpma : p.ma = ma at *
 have HFA := Hd hpfa
 have HGA := Hd hpga
 have HMA := Hd hpma
 clear hpfa hpga hpma
 have HM0 := Hd (show Mid w c p (w.alloc (.cells #[.string ⟨⟨c.nm⟩⟩, .string ⟨⟨c.sup⟩⟩, .slice fa c.faces.length p.fc, .bool c.face, .slice ga c.fields.length p.gc, .slice ma c.meths.length p.mc] 50)) from ⟨(Below.refl _ _).alloc (Nat.le_refl _) _, HX.out⟩)
 by_cases hs : c.sup = []
 · have HEE := Hd (show E = errV 1 by rw [← HE.out]; unfold joinErr; rw [if_pos hs]; rfl)
   rw [hs] at HX
   go_enter Tryz.func83, Tryz.ntmps83
   obtain ⟨hg, c0, c1, c2, c3, c4, c5⟩ := HX.out
   rw [hs] at c1
   clear c2 c3 c4 c5
   go_wp2_with fail
   go_ret
   exact ⟨by rw [HEE.out]; rfl, (Below.refl _ _).alloc (Nat.le_refl _) _⟩
 · obtain ⟨x, r, hx⟩ : ∃ x r, c.sup = x :: r := by
     cases h : c.sup with
     | nil => exact absurd h hs
     | cons x r => exact ⟨x, r, rfl⟩
   cases hf : cpFind L c.sup with
   | none =>
     have HEE := Hd (show E = errV 3 by rw [← HE.out]; unfold joinErr; rw [if_neg hs, isSome_none hf]; rfl)
     have hlk := wlook_none (HW.out.below (HM0.out.1)) (Nat.le_trans hsl hml) hf true
     simp only [if_true] at hlk
     unfold zeroC at hlk
     rw [hx] at HX hlk
     clear hf hs HM0
     go_enter Tryz.func83, Tryz.ntmps83
     obtain ⟨hg, c0, c1, c2, c3, c4, c5⟩ := HX.out
     rw [hx] at c1
     clear c2 c3 c4 c5
     go_wp2_with fail
     go_ret
     exact ⟨by rw [HEE.out]; rfl, ((Below.refl _ _).alloc (Nat.le_refl _) _).alloc (by simp) _⟩
   | some cp =>
     have HE1 := Hd (show errOf (jn1 (CL L) c) = E by rw [← HE.out, join_1 hs (by rw [isSome_some hf]; rfl)])
     have hlk := wlook_some (HW.out.below (HM0.out.1)) (Nat.le_trans hsl hml) hf true
     simp only [if_true] at hlk
     unfold classV at hlk
     rw [hx] at HX hlk HM0
     have HXX := Hd hx
     clear hf hs HE
     go_enter Tryz.func83, Tryz.ntmps83
     obtain ⟨hg, c0, c1, c2, c3, c4, c5⟩ := HX.out
     rw [hx] at c1
     clear c2 c3 c4 c5
     go_wp2_with fail
     clear c0 c1 hg hx
     go_loopw [32] (fun i wr => ∃ k : Nat, k ≤ c.faces.length ∧ i = .int .i64 k ∧ Mid w c p wr ∧ Hid (∀ j, j < k → isErr (CL L) c.faces j = 0)) (fun i _ => c.faces.length - (RowKit.intOf i).toNat)
     case atStart => exact ⟨0, by omega, rfl, HM0.out.below ((Below.refl _ _).alloc (Nat.le_refl _) _), Hd (by omega)⟩
     case round =>
       obtain ⟨k, hk, rfl, hm, HZ⟩ := hrel
       have HM := Hd hm
       have hsz := hm.1.size
       clear hm HM0 hlk
       obtain ⟨hg, c0, c1, c2, c3, c4, c5⟩ := HM.out.cells HFA.out HGA.out HMA.out
       rw [HXX.out] at c1
       by_cases hlk : k < c.faces.length
       · obtain ⟨f, hf⟩ : ∃ f, c.faces[k]? = some f := ⟨_, List.getElem?_eq_getElem hlk⟩
         have hcw : SRow wr fa p.fc c.faces := HS.out.below HM.out.1
         obtain ⟨b1, off, rfl, hlt, d0⟩ := strs_cell hcw hf
         have hfn2 := HFL.out f (List.mem_of_getElem? hf)
         have HIE := Hd (isErr_at (L := CL L) hf)
         have HWW := Hd (HW.out.below HM.out.1)
         clear hcw hf c0 c1 c2 c3 c4 c5
         cases hff : cpFind L f with
         | none =>
           have hz : isErr (CL L) c.faces k = 3 := by rw [HIE.out, isSome_none hff]; rfl
           have HEE := Hd (show E = errV 3 by rw [← HE1.out, jn1_at HZ.out (by rw [hz]; omega) hlk, hz]; rfl)
           have hlk2 := wlook_none HWW.out (Nat.le_trans hfn2 hml) hff true
           simp only [if_true] at hlk2
           unfold zeroC at hlk2
           clear hff hz
           go_wp2_with fail
           go_ret
           exact ⟨by rw [HEE.out]; rfl, HM.out.1.alloc hsz _⟩
         | some cq =>
           have HZ2 := Hd (upto_succ HZ.out (by rw [HIE.out, isSome_some hff]; rfl))
           have hlk2 := wlook_some HWW.out (Nat.le_trans hfn2 hml) hff true
           simp only [if_true] at hlk2
           unfold classV at hlk2
           clear hff
           go_wp2_with fail
           go_roundw
           case rel => exact ⟨k + 1, by omega, by go_num, HM.out.below ((Below.refl _ _).alloc (Nat.le_refl _) _), HZ2⟩
           case measure => simp [RowKit.intOf]; omega
       · obtain rfl : k = c.faces.length := by omega
         have HE2 := Hd (show errOf (jn2 (CL L) c) = E by rw [← HE1.out, jn1_2 HZ.out])
         have HHS := Hd (has_calls L b (x :: r) false wr (HW.out.below HM.out.1) (by rw [← HXX.out]; omega))
         have HHE := Hd (show hasErr (CL L) c.sup false = hasErr (CL L) (x :: r) false by rw [HXX.out])
         clear HZ HE1 hlk
         go_wp2_with fail
         refine HHS.out.mono ?_
         rintro e w3 ⟨rfl, hb3⟩
         have HM3 := Hd (HM.out.below hb3)
         clear hb3 HM HHS hg c0 c1 c2 c3 c4 c5
         by_cases hz : hasErr (CL L) (x :: r) false = 0
         case neg =>
           have HEE := Hd (show E = errV (hasErr (CL L) (x :: r) false) by rw [← HE2.out]; unfold jn2; rw [HHE.out, if_pos hz]; exact errOf_ne hz)
           rw [errOf_ne hz]
           generalize hasErr (CL L) (x :: r) false = n at *
           clear hz
           go_wp2_with fail
           go_ret
           exact ⟨by rw [HEE.out]; rfl, HM3.out.1⟩
         case pos =>
           have HE3 := Hd (show errOf (jn3 (CL L) c) = E by rw [← HE2.out]; unfold jn2; rw [HHE.out, if_neg (by simp [hz])])
           rw [hz, errOf_zero]
           clear hz HE2 HHE
           obtain ⟨hg, c0, c1, c2, c3, c4, c5⟩ := HM3.out.cells HFA.out HGA.out HMA.out
           rw [HXX.out] at c1
           go_wp2_with fail
           clear hg c0 c1 c2 c3 c4 c5
           go_loopw [56] (fun i wr => ∃ k : Nat, k ≤ c.faces.length ∧ i = .int .i64 k ∧ Mid w c p wr ∧ Hid (∀ j, j < k → facErr (CL L) c.faces j = 0)) (fun i _ => c.faces.length - (RowKit.intOf i).toNat)
           case atStart => exact ⟨0, by omega, rfl, HM3.out, Hd (by omega)⟩
           case round =>
             obtain ⟨k, hk, rfl, hm, HZ⟩ := hrel
             have HM := Hd hm
             clear hm HM3
             obtain ⟨hg, c0, c1, c2, c3, c4, c5⟩ := HM.out.cells HFA.out HGA.out HMA.out
             rw [HXX.out] at c1
             by_cases hlk : k < c.faces.length
             · obtain ⟨f, hf⟩ : ∃ f, c.faces[k]? = some f := ⟨_, List.getElem?_eq_getElem hlk⟩
               have hcw : SRow wr fa p.fc c.faces := HS.out.below HM.out.1
               obtain ⟨b1, off, rfl, hlt, d0⟩ := strs_cell hcw hf
               have hfn2 := HFL.out f (List.mem_of_getElem? hf)
               have HIE := Hd (facErr_at (L := CL L) hf)
               have HHS := Hd (has_calls L b f true wr (HW.out.below HM.out.1) (Nat.le_trans hfn2 hml))
               clear hcw hf c0 c1 c2 c3 c4 c5
               by_cases hz : hasErr (CL L) f true = 0
               case neg =>
                 have HEE := Hd (show E = errV (hasErr (CL L) f true) by rw [← HE3.out, jn3_at HZ.out (by rw [HIE.out]; exact hz) hlk, HIE.out]; exact errOf_ne hz)
                 rw [errOf_ne hz] at HHS
                 generalize hasErr (CL L) f true = n at *
                 clear hz
                 go_wp2_with fail
                 refine HHS.out.mono ?_
                 rintro e w4 ⟨rfl, hb4⟩
                 have HB4 := Hd (bl_trans HM.out.1 hb4)
                 clear hb4
                 go_wp2_with fail
                 go_ret
                 exact ⟨by rw [HEE.out]; rfl, HB4.out⟩
               case pos =>
                 have HZ2 := Hd (upto_succ HZ.out (by rw [HIE.out]; exact hz))
                 rw [hz, errOf_zero] at HHS
                 clear hz
                 go_wp2_with fail
                 refine HHS.out.mono ?_
                 rintro e w4 ⟨rfl, hb4⟩
                 have HM4 := Hd (HM.out.below hb4)
                 clear hb4
                 go_wp2_with fail
                 go_roundw
                 case rel => exact ⟨k + 1, by omega, by go_num, HM4.out, HZ2⟩
                 case measure => simp [RowKit.intOf]; omega
             · obtain rfl : k = c.faces.length := by omega
               have HE4 := Hd (show errOf (jn4 c) = E by rw [← HE3.out, jn3_4 HZ.out])
               clear HZ HE3 hlk
               cases hfc : c.face with
               | false =>
                 have HEE := Hd (show E = .nilIface by rw [← HE4.out]; unfold jn4; rw [hfc]; rfl)
                 rw [hfc] at c3
                 clear hfc
                 go_wp2_with fail
                 go_ret
                 exact ⟨by rw [HEE.out]; rfl, HM.out.1⟩
               | true =>
                 rw [hfc] at c3
                 by_cases ho : (x :: r) = objN
                 · have HEE := Hd (show E = .nilIface by rw [← HE4.out]; unfold jn4; rw [if_neg (by rintro ⟨_, h⟩; exact h (HXX.out.trans ho))]; rfl)
                   rw [ho] at c1
                   unfold objN at c1
                   clear hfc ho
                   go_wp2_with fail
                   go_ret
                   exact ⟨by rw [HEE.out]; rfl, HM.out.1⟩
                 · have HEE := Hd (show E = errV 7 by rw [← HE4.out]; unfold jn4; rw [if_pos ⟨hfc, by rw [HXX.out]; exact ho⟩]; rfl)
                   have hob : ((x :: r) == [79, 98, 106, 101, 99, 116]) = false := by simpa [objN] using ho
                   generalize x :: r = xr at *
                   clear hfc ho
                   go_wp2_with fail
                   go_ret
                   exact ⟨by rw [HEE.out]; rfl, HM.out.1⟩
theorem round_calls (L : List CP) (U : List Nm) (b : Nat) (n : Nm) (w : World) (hW : WorldAt w b L) (hC : Closed (CL L) U) (hnU : n ∈ U) (hU : U.length ≤ 50) (hUl : ∀ x ∈ U, x.length ≤ 1048576) (hL : ∀ cp ∈ L, cp.1.faces.length ≤ 100000000) :
   Calls Tryz.prog 84 #[.map (some b), .string ⟨⟨n⟩⟩] w fun e w' => e = .returned (.bool (roundB (CL L) n)) ∧ Below w.heap.size w w' := by
 have hml : (1048576 : Nat) ≤ maxLen := by unfold maxLen; omega
 generalize hR : roundB (CL L) n = R
 have HR := Hd hR
 have HA := Hd (fun W hW' => above_calls L b n W hW' (Nat.le_trans (hUl n hnU) hml) hL)
 have HBX := Hd (show RBox ((w.alloc (.cells #[.map (some b)] 88)).alloc (.cells #[.string ⟨⟨n⟩⟩] 9)) w.heap.size (w.heap.size + 1) b n from by
   refine ⟨by simp; omega, by simp, ?_, ?_⟩
   · rw [World.cell?_alloc_lt _ _ ⟨w.heap.size, 0, none⟩ (by simp), World.cell?_alloc_new]; rfl
   · have := World.cell?_alloc_new (w.alloc (.cells #[.map (some b)] 88)) #[.string ⟨⟨n⟩⟩] 9 0
     simp)
 have HW := Hd hW
 have HCC := Hd (fun (al : List Nm) (hal : al = above (CL L) n) (W : World) (a : Option Addr) (cap : Nat) (hb : RBox W w.heap.size (w.heap.size + 1) b n) (hw : WorldAt W b L) (hs : SRow W a cap al) (hl : al.length ≤ 1000000000) =>
   containsStr al a cap W #[.pointer (some ⟨w.heap.size, 0, none⟩), .pointer (some ⟨w.heap.size + 1, 0, none⟩)] (fun x => (every (CL L) x).contains n) hs hl (fun k x hx => round1_calls L U b _ _ n x W hb hw hC (hC n hnU x (by rw [← hal]; exact List.mem_of_getElem? hx)) hU hUl hL))
 have hal : (above (CL L) n).length ≤ 200000000 := by
   unfold above
   cases hf : look (CL L) n with
   | none => simp
   | some c =>
     obtain ⟨_, hm⟩ := find_name hf
     obtain ⟨cp, hcp, rfl⟩ := List.mem_map.1 hm
     have := hL cp hcp
     simp only [Option.elim, aboveC]
     split
     · omega
     · simp; omega
 clear hR hW hC hnU hUl hL
 go_enter Tryz.func84, Tryz.ntmps84
 obtain ⟨hg1, hg2, c0, c1⟩ := HBX.out
 go_wp2_with fail
 refine (HA.out _ (HW.out.below (((Below.refl _ _).alloc (Nat.le_refl _) _).alloc (by simp) _))).mono ?_
 rintro e w2 ⟨⟨aa, ac, rfl, hr2, _⟩, hb2⟩
 have HB2 := Hd (show Below w.heap.size w w2 from (((Below.refl _ _).alloc (Nat.le_refl _) _).alloc (by simp) _).trans (hb2.mono (by simp; omega)))
 have HCT := Hd (HCC.out _ rfl w2 aa ac (HBX.out.below hb2) (HW.out.below HB2.out) hr2 (by omega))
 have HRR := Hd (show R = (above (CL L) n).any (fun x => (every (CL L) x).contains n) by rw [← HR.out]; rfl)
 clear hb2 hr2 HCC HA HR hg1 hg2 c0 c1
 generalize (above (CL L) n).any (fun x => (every (CL L) x).contains n) = R2 at *
 go_wp2_with fail
 refine HCT.out.mono ?_
 rintro e w3 ⟨rfl, hb3⟩
 have HB3 := Hd (bl_trans HB2.out hb3)
 clear hb3
 go_wp2_with fail
 go_ret
 exact ⟨by rw [HRR.out]; rfl, HB3.out⟩
def wcp (l : List ClassR) (ps : List CAddr) : List CP := first2 ++ l.zip ps
def wcpUp (l : List ClassR) (ps : List CAddr) (k : Nat) : List CP := first2 ++ (l.zip ps).take k
theorem zip_fst {l : List ClassR} {ps : List CAddr} (h : ps.length = l.length) : (l.zip ps).map (·.1) = l := List.map_fst_zip (by omega)
theorem cl_wcp {l : List ClassR} {ps : List CAddr} (h : ps.length = l.length) : CL (wcp l ps) = wl l := by
 unfold wcp
 rw [cl_first]
 show wl ((l.zip ps).map (·.1)) = _
 rw [zip_fst h]
theorem cl_wcpUp {l : List ClassR} {ps : List CAddr} (h : ps.length = l.length) (k : Nat) : CL (wcpUp l ps k) = wl (l.take k) := by
 unfold wcpUp
 rw [cl_first]
 show wl (((l.zip ps).take k).map (·.1)) = _
 rw [List.map_take, zip_fst h]
theorem wcpUp_all {l : List ClassR} {ps : List CAddr} (h : ps.length = l.length) : wcpUp l ps l.length = wcp l ps := by
 unfold wcpUp wcp
 rw [List.take_of_length_le (by rw [List.length_zip]; omega)]
theorem wcpUp_succ {l : List ClassR} {ps : List CAddr} {k : Nat} {c : ClassR} {p : CAddr} (hc : l[k]? = some c) (hp : ps[k]? = some p) : wcpUp l ps (k + 1) = wcpUp l ps k ++ [(c, p)] := by
 have hz : (l.zip ps)[k]? = some (c, p) := by rw [List.getElem?_zip_eq_some]; exact ⟨hc, hp⟩
 obtain ⟨hk, e⟩ := List.getElem?_eq_some_iff.1 hz
 unfold wcpUp
 rw [List.take_succ_eq_append_getElem hk, e, List.append_assoc]
theorem wcpUp_len {l : List ClassR} {ps : List CAddr} (h : ps.length = l.length) {k : Nat} (hk : k ≤ l.length) : (wcpUp l ps k).length = k + 2 := by
 unfold wcpUp
 rw [List.length_append, List.length_take, List.length_zip]
 simp [first2]
 omega
theorem cls_all {w W : World} {a : Option Addr} {cap : Nat} {l : List ClassR} {ps : List CAddr} (h : ClassesAt w a cap l ps) (hb : Below w.heap.size w W) : ∀ cp ∈ wcp l ps, ClassAt W cp.1 cp.2 := by
 intro cp hcp
 unfold wcp at hcp
 rcases List.mem_append.1 hcp with h1 | h1
 · simp only [first2, List.mem_cons, List.mem_nil_iff, or_false] at h1
   rcases h1 with rfl | rfl <;> exact ⟨⟨Nat.le_refl _, Or.inl rfl⟩, ⟨Nat.le_refl _, Or.inl rfl⟩, ⟨rfl, ⟨Nat.le_refl _, Or.inl rfl⟩, fun k m p hm => by simp [objC, fltC] at hm⟩⟩
 · obtain ⟨j, hj, rfl⟩ := List.getElem_of_mem h1
   have hz := List.getElem?_eq_getElem hj
   have hz' : (l.zip ps)[j]? = some ((l.zip ps)[j].1, (l.zip ps)[j].2) := hz
   rw [List.getElem?_zip_eq_some] at hz'
   exact (h.2.2 j _ _ hz'.1 hz'.2).below hb
theorem wcpUp_sub {l : List ClassR} {ps : List CAddr} {k : Nat} : ∀ cp ∈ wcpUp l ps k, cp ∈ wcp l ps := by
 intro cp h
 unfold wcpUp at h
 unfold wcp
 rcases List.mem_append.1 h with h1 | h1
 · exact List.mem_append_left _ h1
 · exact List.mem_append_right _ (List.mem_of_mem_take h1)
theorem cp_in {l : List ClassR} {ps : List CAddr} {cp : CP} (h : cp ∈ wcp l ps) : cp.1 = objC ∨ cp.1 = fltC ∨ cp.1 ∈ l := by
 unfold wcp at h
 rcases List.mem_append.1 h with h1 | h1
 · simp only [first2, List.mem_cons, List.mem_nil_iff, or_false] at h1
   rcases h1 with rfl | rfl
   · exact Or.inl rfl
   · exact Or.inr (Or.inl rfl)
 · exact Or.inr (Or.inr (List.of_mem_zip h1).1)
def ClsOk (l : List ClassR) : Prop := ∀ c ∈ l, ClassB c ∧ ClassI c
theorem cp_faces {l : List ClassR} {ps : List CAddr} (h : ClsOk l) : ∀ cp ∈ wcp l ps, cp.1.faces.length ≤ 100000000 := by
 intro cp hcp
 rcases cp_in hcp with e | e | e
 · rw [e]; simp [objC]
 · rw [e]; simp [fltC]
 · exact (h _ e).1.faces
theorem names_le {l : List ClassR} (h : ClsOk l) : ∀ x ∈ names l, x.length ≤ 1048576 := by
 intro x hx
 unfold names wl at hx
 simp only [List.map_cons, List.mem_cons, List.mem_map] at hx
 rcases hx with rfl | rfl | ⟨c, hc, rfl⟩
 · simp [objC, objN]
 · simp [fltC, fltN]
 · exact (h c hc).2.nm
noncomputable def rd3 (l : List ClassR) : Int := firstNZ (rdErr l) l.length
noncomputable def rd2 (l : List ClassR) : Int := if firstNZ (jnErr l) l.length ≠ 0 then firstNZ (jnErr l) l.length else rd3 l
noncomputable def rd1 (l : List ClassR) : Int := if firstNZ (inErr l) l.length ≠ 0 then firstNZ (inErr l) l.length else rd2 l
theorem read_1 {l : List ClassR} (h : ¬ 10 < l.length) : readErr l = rd1 l := by unfold readErr rd1 rd2 rd3; rw [if_neg h]
theorem rd1_2 {l : List ClassR} (h : ∀ j, j < l.length → inErr l j = 0) : rd1 l = rd2 l := by unfold rd1; rw [if_neg (by rw [(firstNZ_zero _ _).2 h]; simp)]
theorem rd2_3 {l : List ClassR} (h : ∀ j, j < l.length → jnErr l j = 0) : rd2 l = rd3 l := by unfold rd2; rw [if_neg (by rw [(firstNZ_zero _ _).2 h]; simp)]
theorem rd1_at {l : List ClassR} {k : Nat} (h0 : ∀ j, j < k → inErr l j = 0) (hk : inErr l k ≠ 0) (hl : k < l.length) : rd1 l = inErr l k := by
 have := firstNZ_at h0 hk _ hl
 unfold rd1; rw [this, if_pos hk]
theorem rd2_at {l : List ClassR} {k : Nat} (h0 : ∀ j, j < k → jnErr l j = 0) (hk : jnErr l k ≠ 0) (hl : k < l.length) : rd2 l = jnErr l k := by
 have := firstNZ_at h0 hk _ hl
 unfold rd2; rw [this, if_pos hk]
theorem rd3_at {l : List ClassR} {k : Nat} (h0 : ∀ j, j < k → rdErr l j = 0) (hk : rdErr l k ≠ 0) (hl : k < l.length) : rd3 l = rdErr l k := firstNZ_at h0 hk _ hl
theorem rd3_zero {l : List ClassR} (h : ∀ j, j < l.length → rdErr l j = 0) : rd3 l = 0 := (firstNZ_zero _ _).2 h
def ReadRes (l : List ClassR) (ps : List CAddr) (w : World) (e : Ending) (w' : World) : Prop :=
 Below w.heap.size w w' ∧ ((readErr l ≠ 0 ∧ e = .returned (.tuple #[.map none, errV (readErr l)])) ∨
   (Good l ∧ ∃ b, e = .returned (.tuple #[.map (some b), .nilIface]) ∧ w.heap.size ≤ b ∧ WorldAt w' b (wcp l ps)))
theorem read_calls (l : List ClassR) (ps : List CAddr) (a : Option Addr) (cap : Nat) (w : World) (hC : ClassesAt w a cap l ps) (hF : FormsAt w) (hB : ClsOk l) :
   Calls Tryz.prog 41 #[.slice a l.length cap] w (ReadRes l ps w) := by
 by_cases h10 : 10 < l.length
 · have he : readErr l = 4 := by unfold readErr; rw [if_pos h10]
   have HE := Hd he
   clear he
   go_enter Tryz.func41, Tryz.ntmps41
   go_wp2_with fail
   go_ret2
   exact ⟨Below.refl _ _, Or.inl ⟨by rw [HE.out]; omega, by rw [HE.out]; rfl⟩⟩
 have hps := hC.1
 have HPS := Hd hps
 have HC := Hd hC
 have HF := Hd hF
 have HB := Hd hB
 have HR1 := Hd (read_1 h10)
 clear hC hF hB hps
 go_enter Tryz.func41, Tryz.ntmps41
 go_wp2_with fail
 refine (first_calls w).mono ?_
 rintro e w1 ⟨b, rfl, hw1, hwb, hb1⟩
 have HW1 := Hd hw1
 have HB1 := Hd hb1
 clear hw1 hb1
 go_wp2_with fail
 go_loopw [22] (fun i wr => ∃ k : Nat, k ≤ l.length ∧ i = .int .i64 k ∧ Below w.heap.size w wr ∧ Hid (WorldAt wr b (wcpUp l ps k)) ∧ Hid (∀ j, j < k → inErr l j = 0)) (fun i _ => l.length - (RowKit.intOf i).toNat)
 case atStart => exact ⟨0, by omega, rfl, HB1.out, HW1, Hd (by omega)⟩
 case round =>
   obtain ⟨k, hk, rfl, hb, HW, HZ⟩ := hrel
   have HBW := Hd hb
   have hsz := hb.size
   clear HW1 HB1
   by_cases hlk : k < l.length
   · obtain ⟨c, hx⟩ : ∃ c, l[k]? = some c := ⟨_, List.getElem?_eq_getElem hlk⟩
     obtain ⟨b1, off, p, rfl, hlt, hp, hca, d0, d1, d2, d3, d4, d5⟩ := (HC.out.below hb).cells hx
     have hcl := HB.out c (List.mem_of_getElem? hx)
     have HIN := Hd (inErr_at hx)
     have HSU := Hd (wcpUp_succ hx hp)
     have hnl := hcl.2.nm
     have HCK := Hd (fun W (hb : Below wr.heap.size wr W) => check_calls c p W (hca.below hb) (HF.out.below (bl_trans HBW.out hb)) hcl.1)
     have HD := Hd (cbox_new wr c p)
     unfold classV at HCK
     clear hx hp hca hcl hb
     by_cases hce : classErr c = 0
     case neg =>
       have hz : inErr l k = classErr c := by rw [HIN.out, if_pos hce]
       have HEE := Hd (show readErr l = classErr c by rw [HR1.out, rd1_at HZ.out (by rw [hz]; exact hce) hlk, hz])
       have HNE := Hd hce
       rw [errOf_ne hce] at HCK
       generalize classErr c = n at *
       clear hz hce
       go_wp2_with fail
       refine (HCK.out _ ((Below.refl _ _).alloc (Nat.le_refl _) _)).mono ?_
       rintro e w2 ⟨rfl, hb2⟩
       have HB2 := Hd (bl_trans HBW.out (new_below hb2))
       clear hb2
       go_wp2_with fail
       go_ret2
       exact ⟨HB2.out, Or.inl ⟨by rw [HEE.out]; exact HNE.out, by rw [HEE.out]; rfl⟩⟩
     case pos =>
       have HIN2 := Hd (show inErr l k = if (look (wl (l.take k)) c.nm).isSome then 5 else 0 by rw [HIN.out, if_neg (by simp [hce])])
       rw [hce, errOf_zero] at HCK
       clear hce HIN
       go_wp2_with fail
       refine (HCK.out _ ((Below.refl _ _).alloc (Nat.le_refl _) _)).mono ?_
       rintro e w2 ⟨rfl, hb2⟩
       have HB2 := Hd (bl_trans HBW.out (new_below hb2))
       have HW2 := Hd (HW.out.below (new_below hb2))
       have HD2 := Hd (HD.out.below hb2)
       obtain ⟨hg, c0, c1, c2, c3, c4, c5⟩ := HD2.out
       have hml : c.nm.length ≤ maxLen := by unfold maxLen; omega
       clear hb2 HCK HD d0 d1 d2 d3 d4 d5
       cases hf : cpFind (wcpUp l ps k) c.nm with
       | some cq =>
         have hz : inErr l k = 5 := by rw [HIN2.out, ← cl_wcpUp HPS.out k, isSome_some hf]; rfl
         have HEE := Hd (show readErr l = 5 by rw [HR1.out, rd1_at HZ.out (by rw [hz]; omega) hlk, hz])
         have hlk2 := wlook_some HW2.out hml hf true
         simp only [if_true] at hlk2
         unfold classV at hlk2
         clear hf hz
         go_wp2_with fail
         go_ret2
         exact ⟨HB2.out.alloc (by have := HB2.out.size; omega) _, Or.inl ⟨by rw [HEE.out]; omega, by rw [HEE.out]; rfl⟩⟩
       | none =>
         have hz : inErr l k = 0 := by rw [HIN2.out, ← cl_wcpUp HPS.out k, isSome_none hf]; rfl
         have HZ2 := Hd (upto_succ HZ.out hz)
         have hlk2 := wlook_none HW2.out hml hf true
         simp only [if_true] at hlk2
         have hw2z := HB2.out.size
         obtain ⟨w5, hst, hS5, hg5⟩ := (HW2.out.below ((Below.refl _ _).alloc (Nat.le_refl _) (.cells #[.string ⟨#[]⟩, .string ⟨#[]⟩, .slice none 0 0, .bool false, .slice none 0 0, .slice none 0 0] 50))).1.store (P := Tryz.prog) (k := 9) (t := 88) (e := 50) Tryz.underlying9 Tryz.underlying88 hml (by unfold fOf; rw [hf]; rfl) (classV c p)
         have hB5 : Below w.heap.size w w5 := (HB2.out.alloc hw2z _).grown hg5 (by simp; omega) (fun k hk => by cases hk; exact hwb)
         have HB5 := Hd hB5
         have HW5 : Hid (WorldAt w5 b (wcpUp l ps (k + 1))) := by
           refine ⟨hS5.cong ?_ (fun z => ?_), fun cp hcp => cls_all HC.out hB5 cp (wcpUp_sub cp hcp)⟩
           · rw [wcpUp_len HPS.out (by omega), wcpUp_len HPS.out (by omega)]; omega
           · rw [HSU.out]
             exact cpFind_snoc (wcpUp l ps k) (c, p) z hf
         unfold zeroC at hlk2
         unfold classV at hst
         clear hf hz hS5 hg5 hB5
         go_wp2_with fail
         go_roundw
         case rel => exact ⟨k + 1, by omega, by go_num, HB5.out, HW5, HZ2⟩
         case measure => simp [RowKit.intOf]; omega
   · obtain rfl : k = l.length := by omega
     have HR2 := Hd (show readErr l = rd2 l by rw [HR1.out, rd1_2 HZ.out])
     have HZI := HZ
     have HWL := Hd (show WorldAt wr b (wcp l ps) by rw [← wcpUp_all HPS.out]; exact HW.out)
     clear hb HZ HW HR1 hlk
     go_wp2_with fail
     go_loopw [47] (fun i wq => ∃ k : Nat, k ≤ l.length ∧ i = .int .i64 k ∧ Below w.heap.size w wq ∧ Hid (WorldAt wq b (wcp l ps)) ∧ Hid (∀ j, j < k → jnErr l j = 0)) (fun i _ => l.length - (RowKit.intOf i).toNat)
     case atStart => exact ⟨0, by omega, rfl, HBW.out, HWL, Hd (by omega)⟩
     case round =>
       obtain ⟨k, hk, rfl, hb, HW, HZ⟩ := hrel
       clear HBW HWL
       have HBW := Hd hb
       by_cases hlk : k < l.length
       · obtain ⟨c, hx⟩ : ∃ c, l[k]? = some c := ⟨_, List.getElem?_eq_getElem hlk⟩
         obtain ⟨b1, off, p, rfl, hlt, hp, hca, d0, d1, d2, d3, d4, d5⟩ := (HC.out.below hb).cells hx
         have hcl := HB.out c (List.mem_of_getElem? hx)
         have HJN := Hd (jnErr_at hx)
         have HJC := Hd (fun W (hb : Below wr.heap.size wr W) => joined_calls (wcp l ps) b c p W (HW.out.below hb) (hca.1.below hb) hcl.2.sup hcl.2.faces hcl.1.faces)
         rw [cl_wcp HPS.out] at HJC
         unfold classV at HJC
         clear hx hp hca hcl hb
         by_cases hje : joinErr (wl l) c = 0
         case neg =>
           have HEE := Hd (show readErr l = joinErr (wl l) c by rw [HR2.out, rd2_at HZ.out (by rw [HJN.out]; exact hje) hlk, HJN.out])
           have HNE := Hd hje
           rw [errOf_ne hje] at HJC
           generalize joinErr (wl l) c = n at *
           clear hje
           go_wp2_with fail
           refine (HJC.out _ ((Below.refl _ _).alloc (Nat.le_refl _) _)).mono ?_
           rintro e w2 ⟨rfl, hb2⟩
           have HB2 := Hd (bl_trans HBW.out (new_below hb2))
           clear hb2
           go_wp2_with fail
           go_ret2
           exact ⟨HB2.out, Or.inl ⟨by rw [HEE.out]; exact HNE.out, by rw [HEE.out]; rfl⟩⟩
         case pos =>
           have HZ2 := Hd (upto_succ HZ.out (by rw [HJN.out]; exact hje))
           rw [hje, errOf_zero] at HJC
           clear hje
           go_wp2_with fail
           refine (HJC.out _ ((Below.refl _ _).alloc (Nat.le_refl _) _)).mono ?_
           rintro e w2 ⟨rfl, hb2⟩
           have HB2 := Hd (bl_trans HBW.out (new_below hb2))
           have HW2 := Hd (HW.out.below (new_below hb2))
           clear hb2
           go_wp2_with fail
           go_roundw
           case rel => exact ⟨k + 1, by omega, by go_num, HB2.out, HW2, HZ2⟩
           case measure => simp [RowKit.intOf]; omega
       · obtain rfl : k = l.length := by omega
         have HR3 := Hd (show readErr l = rd3 l by rw [HR2.out, rd2_3 HZ.out])
         have hjj : ∀ c ∈ l, joinErr (wl l) c = 0 := fun c hc => by
           obtain ⟨j, hj, hx⟩ := at_mem hc
           rw [← jnErr_at hx]; exact HZ.out j hj
         have HJJ := Hd hjj
         have HW3 := HW
         clear hb HZ HW HR2 hlk hjj
         go_wp2_with fail
         go_loopw [60] (fun i wq => ∃ k : Nat, k ≤ l.length ∧ i = .int .i64 k ∧ Below w.heap.size w wq ∧ Hid (WorldAt wq b (wcp l ps)) ∧ Hid (∀ j, j < k → rdErr l j = 0)) (fun i _ => l.length - (RowKit.intOf i).toNat)
         case atStart => exact ⟨0, by omega, rfl, HBW.out, HW3, Hd (by omega)⟩
         case round =>
           obtain ⟨k, hk, rfl, hb, HW, HZ⟩ := hrel
           clear HBW HW3
           have HBW := Hd hb
           by_cases hlk : k < l.length
           · obtain ⟨c, hx⟩ : ∃ c, l[k]? = some c := ⟨_, List.getElem?_eq_getElem hlk⟩
             obtain ⟨b1, off, p, rfl, hlt, hp, hca, d0, d1, d2, d3, d4, d5⟩ := (HC.out.below hb).cells hx
             have HRD := Hd (rdErr_at hx)
             have hcn : c.nm ∈ names l := by unfold names wl; simp only [List.map_cons, List.mem_cons]; right; right; exact List.mem_map.2 ⟨c, List.mem_of_getElem? hx, rfl⟩
             have HRC := Hd (fun W (hb : Below wr.heap.size wr W) => round_calls (wcp l ps) (c.nm :: names l) b c.nm W (HW.out.below hb) (by rw [cl_wcp HPS.out]; exact closed_names HJJ.out c.nm) (by simp) (by simp [names_len]; omega) (fun x hx => by
               rcases List.mem_cons.1 hx with e | e
               · rw [e]; exact names_le HB.out _ hcn
               · exact names_le HB.out _ e) (cp_faces HB.out))
             rw [cl_wcp HPS.out] at HRC
             clear hx hp hca hb hcn
             cases hre : roundB (wl l) c.nm with
             | true =>
               have hz : rdErr l k = 6 := by rw [HRD.out, hre]; rfl
               have HEE := Hd (show readErr l = 6 by rw [HR3.out, rd3_at HZ.out (by rw [hz]; omega) hlk, hz])
               rw [hre] at HRC
               clear hre hz
               go_wp2_with fail
               refine (HRC.out _ ((Below.refl _ _).alloc (Nat.le_refl _) _)).mono ?_
               rintro e w2 ⟨rfl, hb2⟩
               have HB2 := Hd (bl_trans HBW.out (new_below hb2))
               clear hb2
               go_wp2_with fail
               go_ret2
               exact ⟨HB2.out, Or.inl ⟨by rw [HEE.out]; omega, by rw [HEE.out]; rfl⟩⟩
             | false =>
               have HZ2 := Hd (upto_succ HZ.out (by rw [HRD.out, hre]; rfl))
               rw [hre] at HRC
               clear hre
               go_wp2_with fail
               refine (HRC.out _ ((Below.refl _ _).alloc (Nat.le_refl _) _)).mono ?_
               rintro e w2 ⟨rfl, hb2⟩
               have HB2 := Hd (bl_trans HBW.out (new_below hb2))
               have HW2 := Hd (HW.out.below (new_below hb2))
               clear hb2
               go_wp2_with fail
               go_roundw
               case rel => exact ⟨k + 1, by omega, by go_num, HB2.out, HW2, HZ2⟩
               case measure => simp [RowKit.intOf]; omega
           · obtain rfl : k = l.length := by omega
             have HG := Hd ((readErr_zero l).1 (by rw [HR3.out, rd3_zero HZ.out]))
             clear hb HZ hlk
             go_wp2_with fail
             go_ret2
             exact ⟨HBW.out, Or.inr ⟨HG.out, b, rfl, hwb, HW.out⟩⟩
end Go.Proofs.YtddbnboicmaooaaGreatDoor
