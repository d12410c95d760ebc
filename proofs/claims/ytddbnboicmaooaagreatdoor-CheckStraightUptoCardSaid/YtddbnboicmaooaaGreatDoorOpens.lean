import Derived.Test.YtddbnboicmaooaaGreatDoorFrame
import Derived.Deep.Slices
import Derived.Test.YtddbnboicmaooaaGreatDoorCls
namespace Go.Proofs.YtddbnboicmaooaaGreatDoor
set_option maxRecDepth 100000
set_option maxHeartbeats 16000000
set_option linter.unusedVariables false
set_option linter.unusedSimpArgs false
open Go.RowKit Go.ChangeShapes Go.WideShapes Go.Deep
section
variable {H : Type} {enc : TypeId × Value → H} {P : Program} {W : World}
def ListAt (W : World) (size : Nat) (a : Option Addr) (cap : Nat) {α : Type} (R : α → List Value → DataW H → Prop) (L : List α) (d : DataW H) : Prop :=
 L.length ≤ cap ∧ L.length < Rows.uptoBulk d + 1 ∧ (L = [] ∨ ∃ b off, a = some ⟨b, off, none⟩ ∧ b < W.heap.size ∧ ∀ k x, L[k]? = some x → ∃ cs d', R x cs d' ∧ Rows.uptoBulk d' ≤ Rows.uptoBulk d ∧ ∀ j u, cs[j]? = some u → W.cell? ⟨b, off + k * size + j, none⟩ = some u)
theorem addr_add (b off j : Nat) : (⟨b, off, none⟩ : Addr).add j = ⟨b, off + j, none⟩ := by unfold Addr.add; split <;> simp_all
theorem choose_list {α : Type} {p : Nat → α → Prop} : ∀ (n : Nat), (∀ i, i < n → ∃ x, p i x) → ∃ L : List α, L.length = n ∧ ∀ i x, L[i]? = some x → p i x
 | 0, _ => ⟨[], rfl, fun i x h => by simp at h⟩
 | n + 1, h => by
   obtain ⟨L, hl, hp⟩ := choose_list n (fun i hi => h i (by omega))
   obtain ⟨y, hy⟩ := h n (by omega)
   refine ⟨L ++ [y], by simp [hl], fun i x hx => ?_⟩
   rw [List.getElem?_append] at hx
   split at hx
   · exact hp i x hx
   · rename_i hge
     have hi : i = n := by
       have := (List.getElem?_eq_some_iff.1 hx).1
       simp at this
       omega
     subst hi
     simp [hl] at hx
     subst hx
     exact hy
theorem open_list {t e : TypeId} {size : Nat} (ht : P.underlying t = some (.slice e)) (hC : P.cellsOf e = size) (hs : 0 < size) {α : Type} (R : α → List Value → DataW H → Prop)
   (hel : ∀ fuel cs d p, DataW.trod enc P W 0 (fun _ => true) true fuel e cs = some (d, p) → cs.length = size → ∃ x, R x cs d) {fuel : Nat} {cs0 : List Value} {d : DataW H} {p : List MemPlace}
   (h : DataW.trod enc P W 0 (fun _ => true) true fuel t cs0 = some (d, p)) : ∃ a cap L, cs0 = [.slice a L.length cap] ∧ L.length ≤ cap ∧ cap ≤ maxLen ∧ ListAt W size a cap R L d := by
 rcases open_slice ht h with ⟨rfl, hx⟩ | ⟨a, len, cap, m, n, D, Pl, rfl, _, hlc, hcm, hm, hx, hi⟩
 · simp only [Prod.mk.injEq] at hx
   exact ⟨none, 0, [], rfl, by simp, by unfold maxLen; omega, by simp, by simp, Or.inl rfl⟩
 · simp only [if_true] at hm
   subst hm
   simp only [Prod.mk.injEq] at hx
   obtain ⟨rfl, _⟩ := hx
   have hex : ∀ i, i < len → ∃ x : α, ∃ cs, R x cs (D i) ∧ W.cells? 0 (a.add (i * size)) size = some cs := by
     intro i hil
     obtain ⟨cs, h1, h2⟩ := hi i (by omega)
     rw [hC] at h1
     obtain ⟨x, hx⟩ := hel _ _ _ _ h2 (World.cells?_some h1).2.1
     exact ⟨x, cs, hx, h1⟩
   obtain ⟨L, hL, hp⟩ := choose_list len hex
   refine ⟨some a, m, L, by rw [hL], by omega, hcm, by omega, ?_, ?_⟩
   · have := bulk_slice ((List.range len).map D) ((List.range (m - len)).map fun j => D (len + j))
     simp only [List.length_map, List.length_range] at this
     omega
   · by_cases h0 : len = 0
     · exact Or.inl (List.eq_nil_of_length_eq_zero (by omega))
     right
     obtain ⟨x0, hx0⟩ : ∃ x, L[0]? = some x := ⟨_, List.getElem?_eq_getElem (by omega)⟩
     obtain ⟨cs, _, hc0⟩ := hp 0 x0 hx0
     obtain ⟨_, hl0, hat⟩ := World.cells?_some hc0
     obtain ⟨u, hu⟩ : ∃ u, cs[0]? = some u := ⟨_, List.getElem?_eq_getElem (by omega)⟩
     have hcell := hat 0 hs
     rw [hu] at hcell
     obtain ⟨b, off, spot⟩ := a
     have hspot : spot = none := by simpa [Addr.add] using World.cell?_spot hcell
     subst hspot
     refine ⟨b, off, rfl, ?_, fun k x hk => ?_⟩
     · have := World.block_lt_of_cell? W _ hcell
       simpa [Addr.add] using this
     · obtain ⟨cs, hR, hc⟩ := hp k x hk
       have hkl : k < len := by have := (List.getElem?_eq_some_iff.1 hk).1; omega
       obtain ⟨_, hlk, hatk⟩ := World.cells?_some hc
       refine ⟨cs, D k, hR, ?_, fun j u hj => ?_⟩
       · have h1 : D k ∈ (List.range len).map D := List.mem_map.2 ⟨k, List.mem_range.2 hkl, rfl⟩
         have h2 := bulk_part h1
         simp only [Rows.uptoBulk]
         omega
       · have hjl : j < size := by have := (List.getElem?_eq_some_iff.1 hj).1; omega
         have h1 := hatk j hjl
         rw [hj] at h1
         rw [addr_add, addr_add] at h1
         exact h1
theorem field_one {fs : Array Field} {fuel : Nat} {cs : List Value} {ys : List (DataW H × List MemPlace)} (hlen : ys.length = fs.size) (hf : ∀ (i : Nat) (f : Field), fs[i]? = some f → DataW.trod enc P W 0 (fun _ => true) true fuel f.type ((cs.drop f.offset).take (P.cellsOf f.type)) = ys[i]?)
   (i : Nat) (f : Field) (hfi : fs[i]? = some f) {t : TypeId} (hft : f.type = t) (h1 : P.cellsOf t = 1) (c : Value) (hc : cs[f.offset]? = some c) : ∃ y, ys[i]? = some y ∧ y.1 ∈ ys.map (·.1) ∧ DataW.trod enc P W 0 (fun _ => true) true fuel t [c] = some y := by
 have h := hf i f hfi
 rw [hft] at h
 rw [h1] at h
 obtain ⟨hi, _⟩ := Array.getElem?_eq_some_iff.1 hfi
 obtain ⟨y, hy⟩ : ∃ y, ys[i]? = some y := ⟨_, List.getElem?_eq_getElem (by omega)⟩
 obtain ⟨ho, hce⟩ := List.getElem?_eq_some_iff.1 hc
 have e1 : (cs.drop f.offset).take 1 = [c] := by
   rw [List.drop_eq_getElem_cons ho, hce]; rfl
 rw [e1, hy] at h
 exact ⟨y, hy, List.mem_map.2 ⟨y, List.mem_of_getElem? hy, rfl⟩, h⟩
theorem bulk_agg {l : List (DataW H)} {d : DataW H} (h : d ∈ l) : Rows.uptoBulk d ≤ Rows.uptoBulk (.agg l) := by
 have := bulk_part h
 simp only [Rows.uptoBulk]
 omega
end
section
variable {H : Type} {enc : TypeId × Value → H} {W : World}
def InsIs (x : InsR) (cs : List Value) (d : DataW H) : Prop :=
 cs = insCells x ∧ x.ty.length < Rows.uptoBulk d ∧ x.cl.length < Rows.uptoBulk d ∧ x.nm.length < Rows.uptoBulk d ∧ (-9223372036854775808 ≤ x.a ∧ x.a ≤ 9223372036854775807) ∧ (-9223372036854775808 ≤ x.b ∧ x.b ≤ 9223372036854775807)
theorem string_is {t : TypeId} (ht : Tryz.prog.underlying t = some .string) {fuel : Nat} {c : Value} {y : DataW H × List MemPlace} (h : DataW.trod enc Tryz.prog W 0 (fun _ => true) true fuel t [c] = some y) : ∃ l : List UInt8, c = .string ⟨⟨l⟩⟩ ∧ l.length ≤ maxLen ∧ Rows.uptoBulk y.1 = l.length + 1 := by
 obtain ⟨s, h1, rfl, h3⟩ := DataW.trod_string ht h
 obtain ⟨⟨l⟩⟩ := s
 refine ⟨l, by simpa using h1, h3, rfl⟩
theorem int_is {t : TypeId} (ht : Tryz.prog.underlying t = some (.int .i64)) {fuel : Nat} {c : Value} {y : DataW H × List MemPlace} (h : DataW.trod enc Tryz.prog W 0 (fun _ => true) true fuel t [c] = some y) : ∃ n : Int, c = .int .i64 n ∧ (Lit.int .i64 n).wf = true := by
 obtain ⟨n, h1, rfl, h3⟩ := DataW.trod_int ht h
 exact ⟨n, by simpa using h1, h3⟩
theorem i64_bounds {n : Int} (h : (Lit.int .i64 n).wf = true) : -9223372036854775808 ≤ n ∧ n ≤ 9223372036854775807 := by
 simpa [Lit.wf, IntKind.min, IntKind.max, IntKind.signed, IntKind.bits] using h
theorem bool_is {t : TypeId} (ht : Tryz.prog.underlying t = some .bool) {fuel : Nat} {c : Value} {y : DataW H × List MemPlace} (h : DataW.trod enc Tryz.prog W 0 (fun _ => true) true fuel t [c] = some y) : ∃ b : Bool, c = .bool b := by
 obtain ⟨n, h1, rfl⟩ := DataW.trod_bool ht h
 exact ⟨n, by simpa using h1⟩
theorem cells_str : Tryz.prog.cellsOf 9 = 1 := by kernel_rfl
theorem cells_int : Tryz.prog.cellsOf 3 = 1 := by kernel_rfl
theorem cells_bool : Tryz.prog.cellsOf 4 = 1 := by kernel_rfl
theorem cells_Ins : Tryz.prog.cellsOf 40 = 6 := by kernel_rfl
theorem list6 {α : Type} : ∀ {l : List α}, l.length = 6 → ∃ a b c d e f, l = [a, b, c, d, e, f]
 | [a, b, c, d, e, f], _ => ⟨a, b, c, d, e, f, rfl⟩
theorem open_ins {fuel : Nat} {cs : List Value} {d : DataW H} {p : List MemPlace} (h : DataW.trod enc Tryz.prog W 0 (fun _ => true) true fuel 40 cs = some (d, p)) (hl : cs.length = 6) : ∃ x, InsIs x cs d := by
 obtain ⟨ys, n, _, hx, _, hyl, hf⟩ := DataW.trod_struct Tryz.underlying40 h
 simp only [Prod.mk.injEq] at hx
 obtain ⟨rfl, _⟩ := hx
 obtain ⟨c0, c1, c2, c3, c4, c5, rfl⟩ := list6 hl
 obtain ⟨y0, _, m0, h0⟩ := field_one hyl hf 0 _ rfl rfl cells_int c0 rfl
 obtain ⟨y1, _, m1, h1⟩ := field_one hyl hf 1 _ rfl rfl cells_int c1 rfl
 obtain ⟨y2, _, m2, h2⟩ := field_one hyl hf 2 _ rfl rfl cells_int c2 rfl
 obtain ⟨y3, _, m3, h3⟩ := field_one hyl hf 3 _ rfl rfl cells_str c3 rfl
 obtain ⟨y4, _, m4, h4⟩ := field_one hyl hf 4 _ rfl rfl cells_str c4 rfl
 obtain ⟨y5, _, m5, h5⟩ := field_one hyl hf 5 _ rfl rfl cells_str c5 rfl
 obtain ⟨op, rfl, _⟩ := int_is Tryz.underlying3 h0
 obtain ⟨a, rfl, wa⟩ := int_is Tryz.underlying3 h1
 obtain ⟨b, rfl, wb⟩ := int_is Tryz.underlying3 h2
 obtain ⟨ty, rfl, _, b3⟩ := string_is Tryz.underlying9 h3
 obtain ⟨cl, rfl, _, b4⟩ := string_is Tryz.underlying9 h4
 obtain ⟨nm, rfl, _, b5⟩ := string_is Tryz.underlying9 h5
 have e3 := bulk_agg m3
 have e4 := bulk_agg m4
 have e5 := bulk_agg m5
 exact ⟨⟨op, a, b, ty, cl, nm⟩, rfl, by simp only; omega, by simp only; omega, by simp only; omega, i64_bounds wa, i64_bounds wb⟩
theorem open_code {fuel : Nat} {cs : List Value} {d : DataW H} {p : List MemPlace} (h : DataW.trod enc Tryz.prog W 0 (fun _ => true) true fuel 41 cs = some (d, p)) :
   ∃ a cap l, cs = [.slice a (l : List InsR).length cap] ∧ CodeAt W a cap l ∧ l.length ≤ Rows.uptoBulk d ∧ ∀ x ∈ l, x.ty.length ≤ Rows.uptoBulk d ∧ x.cl.length ≤ Rows.uptoBulk d ∧ x.nm.length ≤ Rows.uptoBulk d ∧ (-9223372036854775808 ≤ x.a ∧ x.a ≤ 9223372036854775807) ∧ (-9223372036854775808 ≤ x.b ∧ x.b ≤ 9223372036854775807) := by
 obtain ⟨a, cap, L, rfl, hlc, _, _, hbl, hr⟩ := open_list Tryz.underlying41 cells_Ins (by decide) (InsIs (H := H)) (fun fuel cs d p h hl => open_ins h hl) h
 refine ⟨a, cap, L, rfl, ⟨by rw [List.length_map]; exact hlc, ?_⟩, by omega, ?_⟩
 · rcases hr with rfl | ⟨b, off, rfl, hb, hc⟩
   · exact Or.inl rfl
   · refine Or.inr ⟨b, off, rfl, hb, fun k cs hk j u hu => ?_⟩
     rw [List.getElem?_map] at hk
     cases hx : L[k]? with
     | none => rw [hx] at hk; cases hk
     | some x =>
       rw [hx] at hk
       simp only [Option.map_some, Option.some.injEq] at hk
       subst hk
       obtain ⟨cs, d', ⟨rfl, _⟩, _, hcell⟩ := hc k x hx
       exact hcell j u hu
 · intro x hx
   rcases hr with rfl | ⟨b, off, rfl, hb, hc⟩
   · cases hx
   · obtain ⟨k, hk, rfl⟩ := List.getElem_of_mem hx
     obtain ⟨cs, d', ⟨_, h1, h2, h3, h5, h6⟩, h4, _⟩ := hc k _ (List.getElem?_eq_getElem hk)
     exact ⟨by omega, by omega, by omega, h5, h6⟩
end
structure MethB (m : MethR) : Prop where
 ty : m.ty.length ≤ 8388608
 code : m.code.length ≤ 100000000
 hs : m.hs.length ≤ 100000000
 tys : ∀ x ∈ m.code, x.ty.length ≤ 8388608
structure ClassB (c : ClassR) : Prop where
 faces : c.faces.length ≤ 100000000
 fields : c.fields.length ≤ 100000000
 meths : c.meths.length ≤ 100000000
 tys : ∀ f ∈ c.fields, f.ty.length ≤ 8388608
 ms : ∀ m ∈ c.meths, MethB m
def I64 (n : Int) : Prop := -9223372036854775808 ≤ n ∧ n ≤ 9223372036854775807
def InsI (x : InsR) : Prop := I64 x.a ∧ I64 x.b
def HandI (h : HandR) : Prop := I64 h.lo ∧ I64 h.hi ∧ I64 h.at_ ∧ h.cl.length ≤ 1048576
structure MethI (m : MethR) : Prop where
 loc : I64 m.loc
 code : ∀ x ∈ m.code, InsI x
 hs : ∀ h ∈ m.hs, HandI h
 nm : m.nm.length ≤ 1048576
 ty : m.ty.length ≤ 1048576
structure ClassI (c : ClassR) : Prop where
 nm : c.nm.length ≤ 1048576
 sup : c.sup.length ≤ 1048576
 faces : ∀ f ∈ c.faces, f.length ≤ 1048576
 fields : ∀ f ∈ c.fields, f.nm.length ≤ 1048576 ∧ f.ty.length ≤ 1048576
 meths : ∀ m ∈ c.meths, MethI m
section
variable {H : Type} {enc : TypeId × Value → H} {W : World}
theorem cells_Field : Tryz.prog.cellsOf 210 = 2 := by kernel_rfl
theorem cells_Handler : Tryz.prog.cellsOf 206 = 4 := by kernel_rfl
theorem cells_Method : Tryz.prog.cellsOf 45 = 8 := by kernel_rfl
theorem cells_Class : Tryz.prog.cellsOf 50 = 6 := by kernel_rfl
theorem cells_codes : Tryz.prog.cellsOf 41 = 1 := by kernel_rfl
theorem cells_hands : Tryz.prog.cellsOf 43 = 1 := by kernel_rfl
theorem cells_strs : Tryz.prog.cellsOf 35 = 1 := by kernel_rfl
theorem cells_fields : Tryz.prog.cellsOf 48 = 1 := by kernel_rfl
theorem cells_meths : Tryz.prog.cellsOf 47 = 1 := by kernel_rfl
theorem list2 {α : Type} : ∀ {l : List α}, l.length = 2 → ∃ a b, l = [a, b]
 | [a, b], _ => ⟨a, b, rfl⟩
theorem list4 {α : Type} : ∀ {l : List α}, l.length = 4 → ∃ a b c d, l = [a, b, c, d]
 | [a, b, c, d], _ => ⟨a, b, c, d, rfl⟩
theorem list8 {α : Type} : ∀ {l : List α}, l.length = 8 → ∃ a b c d e f g h, l = [a, b, c, d, e, f, g, h]
 | [a, b, c, d, e, f, g, h], _ => ⟨a, b, c, d, e, f, g, h, rfl⟩
def FieldIs (x : FieldR) (cs : List Value) (d : DataW H) : Prop := cs = fieldCells x ∧ x.nm.length < Rows.uptoBulk d ∧ x.ty.length < Rows.uptoBulk d
def HandIs (x : HandR) (cs : List Value) (d : DataW H) : Prop := cs = handCells x ∧ x.cl.length < Rows.uptoBulk d ∧ I64 x.lo ∧ I64 x.hi ∧ I64 x.at_
def StrIs (x : List UInt8) (cs : List Value) (d : DataW H) : Prop := cs = [strV x] ∧ x.length < Rows.uptoBulk d
theorem open_field {fuel : Nat} {cs : List Value} {d : DataW H} {p : List MemPlace} (h : DataW.trod enc Tryz.prog W 0 (fun _ => true) true fuel 210 cs = some (d, p)) (hl : cs.length = 2) : ∃ x, FieldIs x cs d := by
 obtain ⟨ys, n, _, hx, _, hyl, hf⟩ := DataW.trod_struct Tryz.underlying210 h
 simp only [Prod.mk.injEq] at hx
 obtain ⟨rfl, _⟩ := hx
 obtain ⟨c0, c1, rfl⟩ := list2 hl
 obtain ⟨y0, _, m0, h0⟩ := field_one hyl hf 0 _ rfl rfl cells_str c0 rfl
 obtain ⟨y1, _, m1, h1⟩ := field_one hyl hf 1 _ rfl rfl cells_str c1 rfl
 obtain ⟨nm, rfl, _, b0⟩ := string_is Tryz.underlying9 h0
 obtain ⟨ty, rfl, _, b1⟩ := string_is Tryz.underlying9 h1
 have e0 := bulk_agg m0
 have e1 := bulk_agg m1
 exact ⟨⟨nm, ty⟩, rfl, by simp only; omega, by simp only; omega⟩
theorem open_hand {fuel : Nat} {cs : List Value} {d : DataW H} {p : List MemPlace} (h : DataW.trod enc Tryz.prog W 0 (fun _ => true) true fuel 206 cs = some (d, p)) (hl : cs.length = 4) : ∃ x, HandIs x cs d := by
 obtain ⟨ys, n, _, hx, _, hyl, hf⟩ := DataW.trod_struct Tryz.underlying206 h
 simp only [Prod.mk.injEq] at hx
 obtain ⟨rfl, _⟩ := hx
 obtain ⟨c0, c1, c2, c3, rfl⟩ := list4 hl
 obtain ⟨y0, _, m0, h0⟩ := field_one hyl hf 0 _ rfl rfl cells_int c0 rfl
 obtain ⟨y1, _, m1, h1⟩ := field_one hyl hf 1 _ rfl rfl cells_int c1 rfl
 obtain ⟨y2, _, m2, h2⟩ := field_one hyl hf 2 _ rfl rfl cells_int c2 rfl
 obtain ⟨y3, _, m3, h3⟩ := field_one hyl hf 3 _ rfl rfl cells_str c3 rfl
 obtain ⟨a, rfl, wa⟩ := int_is Tryz.underlying3 h0
 obtain ⟨b, rfl, wb⟩ := int_is Tryz.underlying3 h1
 obtain ⟨c, rfl, wc⟩ := int_is Tryz.underlying3 h2
 obtain ⟨cl, rfl, _, b3⟩ := string_is Tryz.underlying9 h3
 have e3 := bulk_agg m3
 exact ⟨⟨a, b, c, cl⟩, rfl, by simp only; omega, i64_bounds wa, i64_bounds wb, i64_bounds wc⟩
theorem open_str1 {fuel : Nat} {cs : List Value} {d : DataW H} {p : List MemPlace} (h : DataW.trod enc Tryz.prog W 0 (fun _ => true) true fuel 9 cs = some (d, p)) (hl : cs.length = 1) : ∃ x, StrIs x cs d := by
 match cs, hl with
 | [c], _ =>
   obtain ⟨l, rfl, _, b⟩ := string_is Tryz.underlying9 h
   exact ⟨l, rfl, by simp only at b; omega⟩
theorem rows_of_list {α : Type} {size : Nat} {a : Option Addr} {cap : Nat} {R : α → List Value → DataW H → Prop} {L : List α} {d : DataW H} {f : α → List Value} (hf : ∀ x cs d', R x cs d' → cs = f x) (hlc : L.length ≤ cap) (h : ListAt W size a cap R L d) :
   RowsAt W size a cap (L.map f) ∧ L.length ≤ Rows.uptoBulk d ∧ ∀ x ∈ L, ∃ cs d', R x cs d' ∧ Rows.uptoBulk d' ≤ Rows.uptoBulk d := by
 obtain ⟨_, hbl, hr⟩ := h
 refine ⟨⟨by rw [List.length_map]; exact hlc, ?_⟩, by omega, ?_⟩
 · rcases hr with rfl | ⟨b, off, rfl, hb, hc⟩
   · exact Or.inl rfl
   · refine Or.inr ⟨b, off, rfl, hb, fun k cs hk j u hu => ?_⟩
     rw [List.getElem?_map] at hk
     cases hx : L[k]? with
     | none => rw [hx] at hk; cases hk
     | some x =>
       rw [hx] at hk
       simp only [Option.map_some, Option.some.injEq] at hk
       subst hk
       obtain ⟨cs, d', hR, _, hcell⟩ := hc k x hx
       have := hf _ _ _ hR
       subst this
       exact hcell j u hu
 · intro x hx
   rcases hr with rfl | ⟨b, off, rfl, hb, hc⟩
   · cases hx
   · obtain ⟨k, hk, rfl⟩ := List.getElem_of_mem hx
     obtain ⟨cs, d', hR, h4, _⟩ := hc k _ (List.getElem?_eq_getElem hk)
     exact ⟨cs, d', hR, h4⟩
theorem open_fields {fuel : Nat} {cs : List Value} {d : DataW H} {p : List MemPlace} (h : DataW.trod enc Tryz.prog W 0 (fun _ => true) true fuel 48 cs = some (d, p)) :
   ∃ a cap l, cs = [.slice a (l : List FieldR).length cap] ∧ FieldsAt W a cap l ∧ l.length ≤ Rows.uptoBulk d ∧ ∀ x ∈ l, x.nm.length ≤ Rows.uptoBulk d ∧ x.ty.length ≤ Rows.uptoBulk d := by
 obtain ⟨a, cap, L, rfl, hlc, _, hr⟩ := open_list Tryz.underlying48 cells_Field (by decide) (FieldIs (H := H)) (fun fuel cs d p h hl => open_field h hl) h
 obtain ⟨h1, h2, h3⟩ := rows_of_list (f := fieldCells) (fun _ _ _ hR => hR.1) hlc hr
 exact ⟨a, cap, L, rfl, h1, h2, fun x hx => by obtain ⟨cs, d', ⟨_, h5, h6⟩, h7⟩ := h3 x hx; omega⟩
theorem open_hands {fuel : Nat} {cs : List Value} {d : DataW H} {p : List MemPlace} (h : DataW.trod enc Tryz.prog W 0 (fun _ => true) true fuel 43 cs = some (d, p)) :
   ∃ a cap l, cs = [.slice a (l : List HandR).length cap] ∧ HandsAt W a cap l ∧ l.length ≤ Rows.uptoBulk d ∧ ∀ x ∈ l, x.cl.length ≤ Rows.uptoBulk d ∧ I64 x.lo ∧ I64 x.hi ∧ I64 x.at_ := by
 obtain ⟨a, cap, L, rfl, hlc, _, hr⟩ := open_list Tryz.underlying43 cells_Handler (by decide) (HandIs (H := H)) (fun fuel cs d p h hl => open_hand h hl) h
 obtain ⟨h1, h2, h3⟩ := rows_of_list (f := handCells) (fun _ _ _ hR => hR.1) hlc hr
 exact ⟨a, cap, L, rfl, h1, h2, fun x hx => by obtain ⟨cs, d', ⟨_, h5, h6, h8, h9⟩, h7⟩ := h3 x hx; exact ⟨by omega, h6, h8, h9⟩⟩
theorem open_strs {fuel : Nat} {cs : List Value} {d : DataW H} {p : List MemPlace} (h : DataW.trod enc Tryz.prog W 0 (fun _ => true) true fuel 35 cs = some (d, p)) :
   ∃ a cap l, cs = [.slice a (l : List (List UInt8)).length cap] ∧ SRow W a cap l ∧ l.length ≤ Rows.uptoBulk d ∧ ∀ x ∈ l, x.length ≤ Rows.uptoBulk d := by
 obtain ⟨a, cap, L, rfl, hlc, _, hr⟩ := open_list Tryz.underlying35 cells_str (by decide) (StrIs (H := H)) (fun fuel cs d p h hl => open_str1 h hl) h
 obtain ⟨h1, h2, h3⟩ := rows_of_list (f := fun x => [strV x]) (fun _ _ _ hR => hR.1) hlc hr
 refine ⟨a, cap, L, rfl, ⟨hlc, ?_⟩, h2, fun x hx => by obtain ⟨cs, d', ⟨_, h5⟩, h7⟩ := h3 x hx; omega⟩
 rcases h1.2 with h0 | ⟨b, off, rfl, hb, hc⟩
 · exact Or.inl (by simpa using h0)
 · refine Or.inr ⟨b, off, rfl, hb, fun j x hx => ?_⟩
   have := hc j [strV x] (by rw [List.getElem?_map, hx]; rfl) 0 (strV x) rfl
   simpa using this
def MethIs (W : World) (mq : MethR × MAddr) (cs : List Value) (d : DataW H) : Prop := cs = methCells mq.1 mq.2 ∧ MethAt W mq.1 mq.2 ∧ (Rows.uptoBulk d ≤ 1048576 → MethB mq.1 ∧ MethI mq.1)
theorem open_meth {fuel : Nat} {cs : List Value} {d : DataW H} {p : List MemPlace} (h : DataW.trod enc Tryz.prog W 0 (fun _ => true) true fuel 45 cs = some (d, p)) (hl : cs.length = 8) : ∃ x, MethIs W x cs d := by
 obtain ⟨ys, n, _, hx, _, hyl, hf⟩ := DataW.trod_struct Tryz.underlying45 h
 simp only [Prod.mk.injEq] at hx
 obtain ⟨rfl, _⟩ := hx
 obtain ⟨c0, c1, c2, c3, c4, c5, c6, c7, rfl⟩ := list8 hl
 obtain ⟨y0, _, m0, h0⟩ := field_one hyl hf 0 _ rfl rfl cells_str c0 rfl
 obtain ⟨y1, _, m1, h1⟩ := field_one hyl hf 1 _ rfl rfl cells_str c1 rfl
 obtain ⟨y2, _, m2, h2⟩ := field_one hyl hf 2 _ rfl rfl cells_bool c2 rfl
 obtain ⟨y3, _, m3, h3⟩ := field_one hyl hf 3 _ rfl rfl cells_bool c3 rfl
 obtain ⟨y4, _, m4, h4⟩ := field_one hyl hf 4 _ rfl rfl cells_bool c4 rfl
 obtain ⟨y5, _, m5, h5⟩ := field_one hyl hf 5 _ rfl rfl cells_int c5 rfl
 obtain ⟨y6, _, m6, h6⟩ := field_one hyl hf 6 _ rfl rfl cells_codes c6 rfl
 obtain ⟨y7, _, m7, h7⟩ := field_one hyl hf 7 _ rfl rfl cells_hands c7 rfl
 obtain ⟨nm, rfl, _, b0⟩ := string_is Tryz.underlying9 h0
 obtain ⟨ty, rfl, _, b1⟩ := string_is Tryz.underlying9 h1
 obtain ⟨st, rfl⟩ := bool_is Tryz.underlying4 h2
 obtain ⟨ab, rfl⟩ := bool_is Tryz.underlying4 h3
 obtain ⟨pr, rfl⟩ := bool_is Tryz.underlying4 h4
 obtain ⟨lo, rfl, wl⟩ := int_is Tryz.underlying3 h5
 obtain ⟨ca, cc, code, e6, hC, hcl, hct⟩ := open_code h6
 obtain ⟨ha, hc, hs, e7, hH, hhl, hht⟩ := open_hands h7
 simp only [List.cons.injEq, and_true] at e6 e7
 subst e6 e7
 have k0 := bulk_agg m0
 have k1 := bulk_agg m1
 have k6 := bulk_agg m6
 have k7 := bulk_agg m7
 refine ⟨(⟨nm, ty, st, ab, pr, lo, code, hs⟩, ⟨ca, cc, ha, hc⟩), rfl, ⟨hC, hH⟩, fun hb => ⟨⟨by simp only; omega, by simp only; omega, by simp only; omega, fun x hx => ?_⟩, ⟨i64_bounds wl, fun x hx => ?_, fun x hx => ?_, by simp only; omega, by simp only; omega⟩⟩⟩
 · have := (hct x hx).1; omega
 · exact ⟨(hct x hx).2.2.2.1, (hct x hx).2.2.2.2⟩
 · obtain ⟨q1, q2, q3, q4⟩ := hht x hx
   exact ⟨q2, q3, q4, by omega⟩
theorem open_meths {fuel : Nat} {cs : List Value} {d : DataW H} {p : List MemPlace} (h : DataW.trod enc Tryz.prog W 0 (fun _ => true) true fuel 47 cs = some (d, p)) :
   ∃ a cap l ps, cs = [.slice a (l : List MethR).length cap] ∧ MethsAt W a cap l ps ∧ l.length ≤ Rows.uptoBulk d ∧ (Rows.uptoBulk d ≤ 1048576 → ∀ x ∈ l, MethB x ∧ MethI x) := by
 obtain ⟨a, cap, L, rfl, hlc, _, hr⟩ := open_list Tryz.underlying47 cells_Method (by decide) (MethIs (H := H) W) (fun fuel cs d p h hl => open_meth h hl) h
 obtain ⟨h1, h2, h3⟩ := rows_of_list (f := fun mq => methCells mq.1 mq.2) (fun _ _ _ hR => hR.1) hlc hr
 refine ⟨a, cap, L.map (·.1), L.map (·.2), by rw [List.length_map], ⟨by simp, ?_, ?_⟩, by rw [List.length_map]; exact h2, fun hb x hx => ?_⟩
 · have e : List.zipWith methCells (L.map (·.1)) (L.map (·.2)) = L.map (fun mq => methCells mq.1 mq.2) := by
     clear h1 h2 h3 hr hlc h
     induction L with
     | nil => rfl
     | cons x r ih => simp only [List.map_cons, List.zipWith_cons_cons, ih]
   rw [e]; exact h1
 · intro k m q hm hq
   rw [List.getElem?_map] at hm hq
   cases hL : L[k]? with
   | none => rw [hL] at hm; cases hm
   | some mq =>
     rw [hL] at hm hq
     simp only [Option.map_some, Option.some.injEq] at hm hq
     subst hm hq
     obtain ⟨cs, d', ⟨_, hM, _⟩, _⟩ := h3 mq (List.mem_of_getElem? hL)
     exact hM
 · obtain ⟨mq, hmq, rfl⟩ := List.mem_map.1 hx
   obtain ⟨cs, d', ⟨_, _, hB⟩, hd⟩ := h3 mq hmq
   exact hB (by omega)
def ClassIs (W : World) (cq : ClassR × CAddr) (cs : List Value) (d : DataW H) : Prop := cs = classCells cq.1 cq.2 ∧ ClassAt W cq.1 cq.2 ∧ (Rows.uptoBulk d ≤ 1048576 → ClassB cq.1 ∧ ClassI cq.1)
theorem open_class {fuel : Nat} {cs : List Value} {d : DataW H} {p : List MemPlace} (h : DataW.trod enc Tryz.prog W 0 (fun _ => true) true fuel 50 cs = some (d, p)) (hl : cs.length = 6) : ∃ x, ClassIs W x cs d := by
 obtain ⟨ys, n, _, hx, _, hyl, hf⟩ := DataW.trod_struct Tryz.underlying50 h
 simp only [Prod.mk.injEq] at hx
 obtain ⟨rfl, _⟩ := hx
 obtain ⟨c0, c1, c2, c3, c4, c5, rfl⟩ := list6 hl
 obtain ⟨y0, _, m0, h0⟩ := field_one hyl hf 0 _ rfl rfl cells_str c0 rfl
 obtain ⟨y1, _, m1, h1⟩ := field_one hyl hf 1 _ rfl rfl cells_str c1 rfl
 obtain ⟨y2, _, m2, h2⟩ := field_one hyl hf 2 _ rfl rfl cells_strs c2 rfl
 obtain ⟨y3, _, m3, h3⟩ := field_one hyl hf 3 _ rfl rfl cells_bool c3 rfl
 obtain ⟨y4, _, m4, h4⟩ := field_one hyl hf 4 _ rfl rfl cells_fields c4 rfl
 obtain ⟨y5, _, m5, h5⟩ := field_one hyl hf 5 _ rfl rfl cells_meths c5 rfl
 obtain ⟨nm, rfl, _, b0⟩ := string_is Tryz.underlying9 h0
 obtain ⟨sup, rfl, _, b1⟩ := string_is Tryz.underlying9 h1
 obtain ⟨fa, fc, faces, e2, hF, hfl, hft⟩ := open_strs h2
 obtain ⟨fb, rfl⟩ := bool_is Tryz.underlying4 h3
 obtain ⟨ga, gc, fields, e4, hG, hgl, hgt⟩ := open_fields h4
 obtain ⟨ma, mc, meths, ps, e5, hM, hml, hmt⟩ := open_meths h5
 simp only [List.cons.injEq, and_true] at e2 e4 e5
 subst e2 e4 e5
 have k0 := bulk_agg m0
 have k1 := bulk_agg m1
 have k2 := bulk_agg m2
 have k4 := bulk_agg m4
 have k5 := bulk_agg m5
 refine ⟨(⟨nm, sup, faces, fb, fields, meths⟩, ⟨fa, fc, ga, gc, ma, mc, ps⟩), rfl, ⟨hF, hG, hM⟩, fun hb => ⟨⟨by simp only; omega, by simp only; omega, by simp only; omega, fun x hx => ?_, fun x hx => ?_⟩, ⟨by simp only; omega, by simp only; omega, fun x hx => ?_, fun x hx => ?_, fun x hx => ?_⟩⟩⟩
 · have := (hgt x hx).2; omega
 · exact (hmt (by omega) x hx).1
 · have := hft x hx; omega
 · have := hgt x hx; exact ⟨by omega, by omega⟩
 · exact (hmt (by omega) x hx).2
end
end Go.Proofs.YtddbnboicmaooaaGreatDoor
