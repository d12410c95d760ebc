import Derived.Test.YtbnkckjdgpiggaaGreatDoorFrame
import Derived.Deep.Slices
import Derived.Test.YtbnkckjdgpiggaaGreatDoorCls
namespace Go.Proofs.YtbnkckjdgpiggaaGreatDoor
set_option linter.unusedVariables false
set_option linter.unusedSimpArgs false
open Go.RowKit Go.ChangeShapes Go.WideShapes Go.Deep
section
variable {H : Type} {enc : TypeId × Value -> H} {P : Program} {W : World}
def z3y (W : World) (size : Nat) (a : Option Addr) (cap : Nat) {α : Type} (R : α -> List Value -> DataW H -> Prop) (L : List α) (d : DataW H) : Prop :=
 L.length <= cap /\ L.length < Rows.uptoBulk d + 1 /\ (L = [] \/ ∃ b off, a = some ⟨b, off, none⟩ /\ b < W.heap.size /\ ∀ k x, L[k]? = some x -> ∃ cs d', R x cs d' /\ Rows.uptoBulk d' <= Rows.uptoBulk d /\ ∀ j u, cs[j]? = some u -> W.cell? ⟨b, off + k * size + j, none⟩ = some u)
theorem zk2 (b off j : Nat) : (⟨b, off, none⟩ : Addr).add j = ⟨b, off + j, none⟩ := by unfold Addr.add; split <;> simp_all
theorem zia {α : Type} {p : Nat -> α -> Prop} : ∀ (n : Nat), (∀ i, i < n -> ∃ x, p i x) -> ∃ L : List α, L.length = n /\ ∀ i x, L[i]? = some x -> p i x
 | 0, _ => ⟨[], rfl, fun i x h => by simp at h⟩
 | n + 1, h => by
   obtain ⟨L, hl, hp⟩ := zia n (fun i hi => h i (by omega))
   obtain ⟨y, hy⟩ := h n (by omega)
   refine ⟨L ++ [y], by simp [hl], fun i x hx => ?_⟩
   rw [List.getElem?_append] at hx
   split at hx
   . exact hp i x hx
   . rename_i hge
     have hi : i = n := by
       have := (List.getElem?_eq_some_iff.1 hx).1
       simp at this
       omega
     subst hi
     simp [hl] at hx
     subst hx
     exact hy
theorem z66 {t e : TypeId} {size : Nat} (ht : P.underlying t = some (.slice e)) (hC : P.cellsOf e = size) (hs : 0 < size) {α : Type} (R : α -> List Value -> DataW H -> Prop)
   (hel : ∀ fuel cs d p, DataW.trod enc P W 0 (fun _ => true) true fuel e cs = some (d, p) -> cs.length = size -> ∃ x, R x cs d) {fuel : Nat} {cs0 : List Value} {d : DataW H} {p : List MemPlace}
   (h : DataW.trod enc P W 0 (fun _ => true) true fuel t cs0 = some (d, p)) : ∃ a cap L, cs0 = [.slice a L.length cap] /\ L.length <= cap /\ cap <= maxLen /\ z3y W size a cap R L d := by
 rcases open_slice ht h with ⟨rfl, hx⟩ | ⟨a, len, cap, m, n, D, Pl, rfl, _, hlc, hcm, hm, hx, hi⟩
 . simp only [Prod.mk.injEq] at hx
   exact ⟨none, 0, [], rfl, by simp, by unfold maxLen; omega, by simp, by simp, Or.inl rfl⟩
 . simp only [if_true] at hm
   subst hm
   simp only [Prod.mk.injEq] at hx
   obtain ⟨rfl, _⟩ := hx
   have hex : ∀ i, i < len -> ∃ x : α, ∃ cs, R x cs (D i) /\ W.cells? 0 (a.add (i * size)) size = some cs := by
     intro i hil
     obtain ⟨cs, h1, h2⟩ := hi i (by omega)
     rw [hC] at h1
     obtain ⟨x, hx⟩ := hel _ _ _ _ h2 (World.cells?_some h1).2.1
     exact ⟨x, cs, hx, h1⟩
   obtain ⟨L, hL, hp⟩ := zia len hex
   refine ⟨some a, m, L, by rw [hL], by omega, hcm, by omega, ?_, ?_⟩
   . have := bulk_slice ((List.range len).map D) ((List.range (m - len)).map fun j => D (len + j))
     simp only [List.length_map, List.length_range] at this
     omega
   . by_cases h0 : len = 0
     . exact Or.inl (List.eq_nil_of_length_eq_zero (by omega))
     right
     obtain ⟨x0, hx0⟩ : ∃ x, L[0]? = some x := ⟨_, List.getElem?_eq_getElem (by omega)⟩
     obtain ⟨cs, _, hc0⟩ := hp 0 x0 hx0
     obtain ⟨_, hl0, hat⟩ := World.cells?_some hc0
     obtain ⟨u, hu⟩ : ∃ u, cs[0]? = some u := ⟨_, List.getElem?_eq_getElem (by omega)⟩
     have hcell := hat 0 hs
     rw [hu] at hcell
     obtain ⟨b, off, spot⟩ := a
     have hspot : spot = none := by simpa [Addr.add] using World.cell?_spot hcell
     subst hspot
     refine ⟨b, off, rfl, ?_, fun k x hk => ?_⟩
     . have := World.block_lt_of_cell? W _ hcell
       simpa [Addr.add] using this
     . obtain ⟨cs, hR, hc⟩ := hp k x hk
       have hkl : k < len := by have := (List.getElem?_eq_some_iff.1 hk).1; omega
       obtain ⟨_, hlk, hatk⟩ := World.cells?_some hc
       refine ⟨cs, D k, hR, ?_, fun j u hj => ?_⟩
       . have h1 : D k ∈ (List.range len).map D := List.mem_map.2 ⟨k, List.mem_range.2 hkl, rfl⟩
         have h2 := bulk_part h1
         simp only [Rows.uptoBulk]
         omega
       . have hjl : j < size := by have := (List.getElem?_eq_some_iff.1 hj).1; omega
         have h1 := hatk j hjl
         rw [hj] at h1
         rw [zk2, zk2] at h1
         exact h1
theorem zgt {fs : Array Field} {fuel : Nat} {cs : List Value} {ys : List (DataW H × List MemPlace)} (hlen : ys.length = fs.size) (hf : ∀ (i : Nat) (f : Field), fs[i]? = some f -> DataW.trod enc P W 0 (fun _ => true) true fuel f.type ((cs.drop f.offset).take (P.cellsOf f.type)) = ys[i]?)
   (i : Nat) (f : Field) (hfi : fs[i]? = some f) {t : TypeId} (hft : f.type = t) (h1 : P.cellsOf t = 1) (c : Value) (hc : cs[f.offset]? = some c) : ∃ y, ys[i]? = some y /\ y.1 ∈ ys.map (·.1) /\ DataW.trod enc P W 0 (fun _ => true) true fuel t [c] = some y := by
 have h := hf i f hfi
 rw [hft] at h
 rw [h1] at h
 obtain ⟨hi, _⟩ := Array.getElem?_eq_some_iff.1 hfi
 obtain ⟨y, hy⟩ : ∃ y, ys[i]? = some y := ⟨_, List.getElem?_eq_getElem (by omega)⟩
 obtain ⟨ho, hce⟩ := List.getElem?_eq_some_iff.1 hc
 have e1 : (cs.drop f.offset).take 1 = [c] := by
   rw [List.drop_eq_getElem_cons ho, hce]; rfl
 rw [e1, hy] at h
 exact ⟨y, hy, List.mem_map.2 ⟨y, List.mem_of_getElem? hy, rfl⟩, h⟩
theorem zo9 {l : List (DataW H)} {d : DataW H} (h : d ∈ l) : Rows.uptoBulk d <= Rows.uptoBulk (.agg l) := by
 have := bulk_part h
 simp only [Rows.uptoBulk]
 omega
end
section
variable {H : Type} {enc : TypeId × Value -> H} {W : World}
def InsIs (x : zal) (cs : List Value) (d : DataW H) : Prop :=
 cs = z6 x /\ x.ty.length < Rows.uptoBulk d /\ x.cl.length < Rows.uptoBulk d /\ x.nm.length < Rows.uptoBulk d /\ (-9223372036854775808 <= x.a /\ x.a <= 9223372036854775807) /\ (-9223372036854775808 <= x.b /\ x.b <= 9223372036854775807)
end
structure z4j (m : zo) : Prop where
 ty : m.ty.length <= 8388608
 code : m.code.length <= 100000000
 hs : m.hs.length <= 100000000
 tys : ∀ x ∈ m.code, x.ty.length <= 8388608 /\ OpK x
structure zze (c : zd) : Prop where
 faces : c.faces.length <= 100000000
 fields : c.fields.length <= 100000000
 meths : c.meths.length <= 100000000
 tys : ∀ f ∈ c.fields, f.ty.length <= 8388608
 ms : ∀ m ∈ c.meths, z4j m
def I64 (n : Int) : Prop := -9223372036854775808 <= n /\ n <= 9223372036854775807
def z88 (x : zal) : Prop := I64 x.a /\ I64 x.b
def z9m (h : zdd) : Prop := I64 h.lo /\ I64 h.hi /\ I64 h.at_ /\ h.cl.length <= 1048576
structure z7r (m : zo) : Prop where
 loc : I64 m.loc
 code : ∀ x ∈ m.code, z88 x
 hs : ∀ h ∈ m.hs, z9m h
 nm : m.nm.length <= 1048576
 ty : m.ty.length <= 1048576
structure z33 (c : zd) : Prop where
 nm : c.nm.length <= 1048576
 sup : c.sup.length <= 1048576
 faces : ∀ f ∈ c.faces, f.length <= 1048576
 fields : ∀ f ∈ c.fields, f.nm.length <= 1048576 /\ f.ty.length <= 1048576
 meths : ∀ m ∈ c.meths, z7r m
section
variable {H : Type} {enc : TypeId × Value -> H} {W : World}
def z9i (x : za1) (cs : List Value) (d : DataW H) : Prop := cs = zhd x /\ x.nm.length < Rows.uptoBulk d /\ x.ty.length < Rows.uptoBulk d
def HandIs (x : zdd) (cs : List Value) (d : DataW H) : Prop := cs = zi2 x /\ x.cl.length < Rows.uptoBulk d /\ I64 x.lo /\ I64 x.hi /\ I64 x.at_
def StrIs (x : List UInt8) (cs : List Value) (d : DataW H) : Prop := cs = [zz x] /\ x.length < Rows.uptoBulk d
def MethIs (W : World) (mq : zo × zaf) (cs : List Value) (d : DataW H) : Prop := cs = zfj mq.1 mq.2 /\ zer W mq.1 mq.2 /\ (Rows.uptoBulk d <= 1048576 -> z4j mq.1 /\ z7r mq.1)
def z8p (W : World) (cq : zd × zbf) (cs : List Value) (d : DataW H) : Prop := cs = zb7 cq.1 cq.2 /\ zf3 W cq.1 cq.2 /\ (Rows.uptoBulk d <= 1048576 -> zze cq.1 /\ z33 cq.1)
end
end Go.Proofs.YtbnkckjdgpiggaaGreatDoor
