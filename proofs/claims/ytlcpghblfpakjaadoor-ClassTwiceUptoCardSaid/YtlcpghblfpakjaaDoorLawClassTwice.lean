/-
  ClassTwice: the walk of the law.
-/
import Derived.Test.YtlcpghblfpakjaaDoorClass5
import Derived.Test.YtlcpghblfpakjaaDoorPTwice
import Derived.Test.YtlcpghblfpakjaaDoorOpenClass
import Derived.Test.YtlcpghblfpakjaaDoorStep
import Derived.Deep.RegionHeld3
import Derived.Deep.DeepCutAuto
namespace Go.Proofs.YtlcpghblfpakjaaDoor
set_option linter.unusedVariables false
set_option linter.unusedSimpArgs false
open Go.RowKit Go.Shelf Go.Lib

theorem rowField : RowT Tryd.prog 23 32 2 32 := RowT.mk' (z := .agg #[.string ByteArray.empty, .string ByteArray.empty]) Tryd.underlying23 (by kernel_rfl) rfl (by decide)
theorem rowMeth : RowT Tryd.prog 24 38 8 96 := RowT.mk' (z := .agg #[.string ByteArray.empty, .string ByteArray.empty, .bool false, .bool false, .bool false, .int .i64 0, .slice none 0 0, .slice none 0 0]) Tryd.underlying24 (by kernel_rfl) rfl (by decide)

theorem src_of_rows {w : World} {a : Option Addr} {cap size : Nat} {L : List (List Value)} (h : RowsAt w size a cap L) (hs : 0 < size) (hL : ∀ c ∈ L, c.length = size) (h1 : ∀ c ∈ L, ∀ u ∈ c, u.oneCell' = true) : Src0 w size (.slice a L.length cap) L.length L.flatten := by
  have hlen : L.flatten.length = L.length * size := by
    clear h h1
    induction L with
    | nil => simp
    | cons x r ih => simp only [List.flatten_cons, List.length_append, ih (fun c hc => hL c (by simp [hc])), List.length_cons, hL x (by simp), Nat.succ_mul]; omega
  have hone : ∀ u ∈ L.flatten, u.oneCell' = true := by
    intro u hu
    obtain ⟨c, hc, hu⟩ := List.mem_flatten.1 hu
    exact h1 c hc u hu
  obtain ⟨hle, h2 | ⟨b, off, rfl, _, hc⟩⟩ := h
  · subst h2
    cases a with
    | none => exact Or.inl ⟨cap, rfl, rfl, rfl⟩
    | some ad => exact Or.inr ⟨hlen, hone, Or.inr ⟨ad, cap, rfl, fun j u hj => by simp at hj⟩⟩
  · refine Or.inr ⟨hlen, hone, Or.inr ⟨_, cap, rfl, fun j u hj => ?_⟩⟩
    obtain ⟨cs, h3, h4⟩ := flat_at _ size j u hs hL hj
    have h5 := hc (j / size) cs h3 (j % size) u h4
    have e : (⟨b, off, none⟩ : Addr).add j = ⟨b, off + j / size * size + j % size, none⟩ := by
      have e1 : (⟨b, off, none⟩ : Addr).add j = ⟨b, off + j, none⟩ := by unfold Addr.add; split <;> simp_all
      rw [e1]
      congr 1
      have := Nat.div_add_mod j size
      rw [Nat.mul_comm] at this
      omega
    rw [e]; exact h5

/-- a new slice of one element, as a source -/
theorem one_src (W : World) (cs : List Value) (t : TypeId) (size g : Nat) (hg : g = W.heap.size) (hl : cs.length = size) (h1 : ∀ u ∈ cs, u.oneCell' = true) : SrcRow (W.alloc (.cells cs.toArray t)) size (.slice (some ⟨g, 0, none⟩) 1 1) 1 cs := by
  subst hg
  exact ⟨by omega, h1, Or.inr ⟨_, 1, rfl, fun j u hj => new_cells W cs t j u hj⟩⟩
theorem one_grown {W w3 : World} {cs : List Value} {size g b n c : Nat} (h : SrcRow W size (.slice (some ⟨g, 0, none⟩) 1 1) 1 cs) (hg : W.grownBy w3 (Value.slice (some ⟨b, 0, none⟩) n c).ownBlock) (hlt : g < W.heap.size) (hne : g ≠ b) : SrcRow w3 size (.slice (some ⟨g, 0, none⟩) 1 1) 1 cs :=
  h.moved (fun k hk => hg.block k (by simp [Value.ownBlock] at hk; omega) (by simp [Value.ownBlock] at hk ⊢; omega))
theorem one_drew {W : World} {cs : List Value} {size g : Nat} (h : SrcRow W size (.slice (some ⟨g, 0, none⟩) 1 1) 1 cs) : SrcRow W.drew size (.slice (some ⟨g, 0, none⟩) 1 1) 1 cs := h
theorem one_alloc {W : World} {cs : List Value} {size g : Nat} (h : SrcRow W size (.slice (some ⟨g, 0, none⟩) 1 1) 1 cs) (hlt : g < W.heap.size) (o : Obj) : SrcRow (W.alloc o) size (.slice (some ⟨g, 0, none⟩) 1 1) 1 cs :=
  h.moved (fun k hk => by simp [Value.ownBlock] at hk; subst hk; exact Below.heap_alloc W o g hlt)
theorem own_two (W : World) (o : Obj) (t : TypeId) (size : Nat) : ((W.alloc o).alloc (.cells #[] t)).ownsRow W.heap.size t size (.slice (some ⟨W.heap.size + 1, 0, none⟩) 0 0) 0 [] := by
  have h := World.ownsRow_made (base := W.heap.size) (e := t) (size := size) (W.alloc o) #[] 0 (by simp) (by unfold maxLen; omega) (by simp)
  have e : (W.alloc o).heap.size = W.heap.size + 1 := by simp
  rw [e] at h
  exact h

theorem turn_at (n : Int) (L : Nat) (h0 : 0 < L) (hL : L ≤ 1000000000) : ∃ k : Nat, k < L ∧ (IntKind.u64.wrap n).tmod (IntKind.u64.wrap (L : Int)) = (k : Int) := by
  have h1 : IntKind.u64.wrap (L : Int) = L := by rw [IntKind.wrap_u64]; omega
  have h2 : 0 ≤ IntKind.u64.wrap n := by rw [IntKind.wrap_u64]; omega
  rw [h1]
  refine ⟨((IntKind.u64.wrap n).tmod L).toNat, ?_, ?_⟩
  · have := Int.tmod_lt_of_pos (IntKind.u64.wrap n) (show (0 : Int) < L by omega)
    have h3 := Int.tmod_nonneg (L : Int) h2
    omega
  · have h3 := Int.tmod_nonneg (L : Int) h2
    omega

/-- the copy's block -/
def DBlk (W : World) (g : Nat) (cs : Array Value) : Prop := W.heap[g]? = some (.cells cs 26 (0, 0))
theorem DBlk.below {W W' : World} {g : Nat} {cs : Array Value} (h : DBlk W g cs) (hb : Below W.heap.size W W') : DBlk W' g cs := (hb.block g (Array.getElem?_eq_some_iff.1 h).1).trans h
theorem DBlk.lt {W : World} {g : Nat} {cs : Array Value} (h : DBlk W g cs) : g < W.heap.size := (Array.getElem?_eq_some_iff.1 h).1
theorem DBlk.cell {W : World} {g j : Nat} {cs : Array Value} (h : DBlk W g cs) : W.cell? ⟨g, j, none⟩ = cs[j]? := by unfold DBlk at h; simp [World.cell?, h]
theorem DBlk.frozen {W : World} {g j : Nat} {cs : Array Value} (h : DBlk W g cs) : W.frozen? ⟨g, j, none⟩ = false := by unfold DBlk at h; simp [World.frozen?, h]
theorem block_set1 {w : World} {K j : Nat} {cs : Array Value} {t : TypeId} {fr : Nat × Nat} (h : w.heap[K]? = some (.cells cs t fr)) (hj : j < cs.size) (v : Value) : (w.setCell ⟨K, j, none⟩ v).heap[K]? = some (.cells (cs.setIfInBounds j v) t fr) := by
  show (w.heap.modify K _)[K]? = _
  rw [Array.getElem?_modify, if_pos rfl, h]
  rfl

set_option maxRecDepth 100000 in
/-- a lock that nobody has -/
theorem DBlk.set {W : World} {g j : Nat} {cs : Array Value} (h : DBlk W g cs) (hj : j < cs.size) (v : Value) : DBlk (W.setCell ⟨g, j, none⟩ v) g (cs.setIfInBounds j v) := block_set1 h hj v
theorem dblk_new (W : World) (cs : Array Value) : DBlk (W.alloc (.cells cs 26)) W.heap.size cs := (MapKept.heap_alloc W _).1


theorem own_set1 {w : World} {B : Nat} {e : TypeId} {size : Nat} {v : Value} {n : Nat} {xs : List Value} (h : w.ownsRow B e size v n xs) {g j : Nat} (hne : ∀ k, v.ownBlock = some k → k ≠ g) (u : Value) : (w.setCell ⟨g, j, none⟩ u).ownsRow B e size v n xs := by
  have hg : w.grownBy (w.setCell ⟨g, j, none⟩ u) (some g) := ⟨rfl, rfl, rfl, by simp [World.setCell], fun i _ hi => Below.heap_setCell w ⟨g, j, none⟩ u i (fun e => hi (by rw [e]))⟩
  refine h.kept hg ?_
  cases hv : v.ownBlock with
  | none => exact Or.inl rfl
  | some k => right; intro e; exact hne k hv (Option.some.inj e)

/-- the new places, so far -/

theorem rows_after {w5 : World} {B n g j size : Nat} {e : TypeId} {A : Option Addr} {C : Nat} {L : List (List Value)} {cs : List Value} {u : Value} (ho : w5.ownsRow B e size (.slice A (n + 1) C) (n + 1) (L.flatten ++ cs)) (hn : L.length = n) (hL : ∀ c ∈ L, c.length = size) (hcs : cs.length = size) (hg : g < B) : RowsAt (w5.setCell ⟨g, j, none⟩ u) size A C (L ++ [cs]) := by
  have h1 := own_set1 ho (g := g) (j := j) (fun k hk => by have := (ho.lt k hk).1; omega) u
  have h2 : (w5.setCell ⟨g, j, none⟩ u).ownsRow B e size (.slice A (n + 1) C) (L ++ [cs]).length (L ++ [cs]).flatten := by simpa [hn] using h1
  obtain ⟨a, cap, hv, hr⟩ := rows_of_own h2 (by intro c hc; rcases List.mem_append.1 hc with h | h; exact hL c h; rw [List.mem_singleton.1 h]; exact hcs)
  simp only [Value.slice.injEq] at hv
  obtain ⟨rfl, _, rfl⟩ := hv
  exact hr

theorem srow_rows {w : World} {a : Option Addr} {cap : Nat} {l : List (List UInt8)} (h : RowsAt w 1 a cap (l.map fun x => [strV x])) : SRow w a cap l := by
  obtain ⟨h0, h1⟩ := h
  refine ⟨by simpa using h0, ?_⟩
  rcases h1 with h1 | ⟨b, off, rfl, hb, hc⟩
  · exact Or.inl (by simpa using h1)
  · refine Or.inr ⟨b, off, rfl, hb, fun j x hx => ?_⟩
    have := hc j [strV x] (by rw [List.getElem?_map, hx]; rfl) 0 (strV x) rfl
    simpa using this
theorem rows_srow {w : World} {a : Option Addr} {cap : Nat} {l : List (List UInt8)} (h : SRow w a cap l) : RowsAt w 1 a cap (l.map fun x => [strV x]) := by
  obtain ⟨h0, h1⟩ := h
  refine ⟨by simpa using h0, ?_⟩
  rcases h1 with rfl | ⟨b, off, rfl, hb, hc⟩
  · exact Or.inl rfl
  · refine Or.inr ⟨b, off, rfl, hb, fun k cs hk j u hu => ?_⟩
    rw [List.getElem?_map] at hk
    cases hx : l[k]? with
    | none => rw [hx] at hk; cases hk
    | some x =>
      rw [hx] at hk
      simp only [Option.map_some, Option.some.injEq] at hk
      subst hk
      match j, hu with
      | 0, hu =>
        simp at hu
        subst hu
        have := hc k x hx
        simpa using this
      | j + 1, hu => simp at hu

theorem check_field {c : ClassR} {p : CAddr} {f : FieldR} {A : Option Addr} {C : Nat} {W : World} {fa ma : Option Addr} (hfa : p.fa = fa) (hma : p.ma = ma) (he : classErr c = 0) (hf : f ∈ c.fields) (hl : c.fields.length < 8) (hC : ClassAt W c p) (hA : FieldsAt W A C (c.fields ++ [f])) (hF : FormsAt W) (hB : ClassB c) :
    Calls Tryd.prog 9 #[.agg #[.string ⟨⟨c.nm⟩⟩, .string ⟨⟨c.sup⟩⟩, .slice fa c.faces.length p.fc, .bool c.face, .slice A (c.fields.length + 1) C, .slice ma c.meths.length p.mc]] W fun e w' => e = .returned (errV 5) ∧ Below W.heap.size W w' := by
  have h := check_calls { c with fields := c.fields ++ [f] } { p with ga := A, gc := C } W ⟨hC.1, hA, hC.2.2⟩ hF ⟨hB.faces, by simp; have := hB.fields; omega, hB.meths, fun x hx => by
    rcases List.mem_append.1 hx with h | h
    · exact hB.tys x h
    · rw [List.mem_singleton.1 h]; exact hB.tys f hf, hB.ms⟩
  rw [twice_field he hf hl] at h
  unfold classV at h
  simp only [List.length_append, List.length_singleton, hfa, hma] at h
  exact h
theorem check_meth {c : ClassR} {p : CAddr} {m : MethR} {q : MAddr} {A : Option Addr} {C : Nat} {W : World} {fa ga : Option Addr} (hfa : p.fa = fa) (hga : p.ga = ga) (he : classErr c = 0) (hm : m ∈ c.meths) (hl : c.meths.length < 8) (hC : ClassAt W c p) (hA : MethsAt W A C (c.meths ++ [m]) (p.ps ++ [q])) (hF : FormsAt W) (hB : ClassB c) :
    Calls Tryd.prog 9 #[.agg #[.string ⟨⟨c.nm⟩⟩, .string ⟨⟨c.sup⟩⟩, .slice fa c.faces.length p.fc, .bool c.face, .slice ga c.fields.length p.gc, .slice A (c.meths.length + 1) C]] W fun e w' => e = .returned (errV 5) ∧ Below W.heap.size W w' := by
  have h := check_calls { c with meths := c.meths ++ [m] } { p with ma := A, mc := C, ps := p.ps ++ [q] } W ⟨hC.1, hC.2.1, hA⟩ hF ⟨hB.faces, hB.fields, by simp; have := hB.meths; omega, hB.tys, fun x hx => by
    rcases List.mem_append.1 hx with h | h
    · exact hB.ms x h
    · rw [List.mem_singleton.1 h]; exact hB.ms m hm⟩
  rw [twice_meth he hm hl] at h
  unfold classV at h
  simp only [List.length_append, List.length_singleton, hfa, hga] at h
  exact h
theorem check_face {c : ClassR} {p : CAddr} {f : List UInt8} {A : Option Addr} {C : Nat} {W : World} {ga ma : Option Addr} (hga : p.ga = ga) (hma : p.ma = ma) (he : classErr c = 0) (hf : f ∈ c.faces) (hC : ClassAt W c p) (hA : SRow W A C (c.faces ++ [f])) (hF : FormsAt W) (hB : ClassB c) :
    Calls Tryd.prog 9 #[.agg #[.string ⟨⟨c.nm⟩⟩, .string ⟨⟨c.sup⟩⟩, .slice A (c.faces.length + 1) C, .bool c.face, .slice ga c.fields.length p.gc, .slice ma c.meths.length p.mc]] W fun e w' => e = .returned (errV 5) ∧ Below W.heap.size W w' := by
  have h8 := (classErr_ok he).2.2.1.1
  have h := check_calls { c with faces := c.faces ++ [f] } { p with fa := A, fc := C } W ⟨hA, hC.2.1, hC.2.2⟩ hF ⟨by simp; omega, hB.fields, hB.meths, hB.tys, hB.ms⟩
  rw [twice_face he hf] at h
  unfold classV at h
  simp only [List.length_append, List.length_singleton, hga, hma] at h
  exact h

theorem zip_size : ∀ (l : List MethR) (ps : List MAddr), ∀ x ∈ List.zipWith methCells l ps, x.length = 8
  | [], _, x, h => by simp at h
  | _ :: _, [], x, h => by simp at h
  | m :: l, p :: ps, x, h => by
    simp only [List.zipWith_cons_cons, List.mem_cons] at h
    rcases h with rfl | h
    · rfl
    · exact zip_size l ps x h
theorem zip_one : ∀ (l : List MethR) (ps : List MAddr), ∀ x ∈ List.zipWith methCells l ps, ∀ u ∈ x, u.oneCell' = true
  | [], _, x, h => by simp at h
  | _ :: _, [], x, h => by simp at h
  | m :: l, p :: ps, x, h => by
    simp only [List.zipWith_cons_cons, List.mem_cons] at h
    rcases h with rfl | h
    · intro u hu
      simp only [methCells, List.mem_cons, List.mem_nil_iff, or_false] at hu
      rcases hu with rfl | rfl | rfl | rfl | rfl | rfl | rfl | rfl <;> rfl
    · exact zip_one l ps x h
theorem meths_after {W : World} {a A : Option Addr} {cap C k : Nat} {l : List MethR} {ps : List MAddr} {m : MethR} {q : MAddr} (h : MethsAt W a cap l ps) (hm : l[k]? = some m) (hq : ps[k]? = some q) (hr : RowsAt W 8 A C (List.zipWith methCells l ps ++ [methCells m q])) : MethsAt W A C (l ++ [m]) (ps ++ [q]) := by
  obtain ⟨h1, h2, h3⟩ := h
  refine ⟨by simp [h1], ?_, ?_⟩
  · rw [List.zipWith_append h1.symm]; exact hr
  · intro j m' q' hm' hq'
    rw [List.getElem?_append] at hm' hq'
    by_cases hj : j < l.length
    · rw [if_pos hj] at hm'
      rw [if_pos (by omega)] at hq'
      exact h3 j m' q' hm' hq'
    · rw [if_neg hj] at hm'
      rw [if_neg (by omega)] at hq'
      have e : j - l.length = 0 := by
        have := (List.getElem?_eq_some_iff.1 hm').1
        simp at this; omega
      rw [e] at hm'
      rw [show j - ps.length = 0 by omega] at hq'
      simp at hm' hq'
      subst hm' hq'
      exact h3 k m q hm hq

set_option maxRecDepth 100000 in
set_option maxHeartbeats 4000000 in
theorem classTwice_go (c : ClassR) (p : CAddr) (i : Int) (w : World) (hC : ClassAt w c p) (hF : FormsAt w) (hb : ClassB c) :
    Calls Tryd.prog 3 #[classV c p, .int .i64 i] w fun e w' => e = .returned (.bool true) ∧ Below w.heap.size w w' := by
  have HX := Lib.hid (cbox_new w c p)
  have HC := Lib.hid hC
  have HF := Lib.hid hF
  have HB := Lib.hid hb
  clear hC hF hb
  unfold classV
  generalize hpfa : p.fa = fa at *
  generalize hpga : p.ga = ga at *
  generalize hpma : p.ma = ma at *
  have HFA := Lib.hid hpfa
  have HGA := Lib.hid hpga
  have HMA := Lib.hid hpma
  have HCK := Lib.hid (fun w h1 h2 => check_calls c p w h1 h2 HB.out)
  unfold classV at HCK
  rw [hpfa, hpga, hpma] at HCK
  clear hpfa hpga hpma
  go_enter Tryd.func3, Tryd.ntmps3
  go_wp2_with fail
  refine (named_true _).mono ?_
  rintro e w1 ⟨rfl, hb1⟩
  have HM1 := Lib.hid (show Mid w c p w1 from ⟨new_below hb1, HX.out.below hb1⟩)
  clear hb1 HX
  obtain ⟨hg, c0, c1, c2, c3, c4, c5⟩ := HM1.out.cells HFA.out HGA.out HMA.out
  go_wp2_with fail
  refine (HCK.out _ (HC.out.below HM1.out.1) (HF.out.below HM1.out.1)).mono ?_
  rintro e w2 ⟨rfl, hb2⟩
  have HM2 := Lib.hid (HM1.out.below hb2)
  clear hb2 HM1 hg c0 c1 c2 c3 c4 c5 HCK
  by_cases he : classErr c = 0
  case neg =>
    rw [errOf_ne he]
    generalize classErr c = n at *
    clear he
    go_wp2_with fail
    go_ret
    exact ⟨rfl, HM2.out.1⟩
  case pos =>
  have HE := Lib.hid he
  have hsz8 := (classErr_ok he).2.2.1
  obtain ⟨hz1, hz2, hz3⟩ := hsz8
  rw [he, errOf_zero]
  clear he
  obtain ⟨hg, c0, c1, c2, c3, c4, c5⟩ := HM2.out.cells HFA.out HGA.out HMA.out
  go_upto_region 6 with fail
  go_cut [25] (fun s25 wx => s25 = .bool (decide (0 < c.fields.length ∧ c.fields.length < 8)) ∧ w2 = wx)
  case first =>
    have hways : (0 < c.fields.length ∧ c.fields.length < 8) ∨ c.fields.length = 0 ∨ (0 < c.fields.length ∧ 8 ≤ c.fields.length) := by omega
    rcases hways with ⟨h0, h8⟩ | h0 | ⟨h0, h8⟩
    · go_wp2_with fail
      go_meet
      exact ⟨congrArg Value.bool (by first | (rw [Bool.eq_iff_iff]; simp only [decide_eq_true_eq]; omega) | (rw [Bool.eq_iff_iff]; simp; omega) | (simp; omega)), rfl⟩
    · go_wp2_with fail
      go_meet
      exact ⟨congrArg Value.bool (by first | (rw [Bool.eq_iff_iff]; simp only [decide_eq_true_eq]; omega) | (rw [Bool.eq_iff_iff]; simp; omega) | (simp; omega)), rfl⟩
    · go_wp2_with fail
      go_meet
      exact ⟨congrArg Value.bool (by first | (rw [Bool.eq_iff_iff]; simp only [decide_eq_true_eq]; omega) | (rw [Bool.eq_iff_iff]; simp; omega) | (simp; omega)), rfl⟩
  case rest =>
  obtain ⟨rfl, rfl⟩ := hcut
  clear hg c0 c1 c2 c3 c4 c5
  go_upto_if 25 with fail
  go_cut [] (fun wx => Mid w c p wx)
  case first =>
    by_cases hq : 0 < c.fields.length ∧ c.fields.length < 8
    · have hdec : decide (0 < c.fields.length ∧ c.fields.length < 8) = true := decide_eq_true hq
      obtain ⟨h0, h8⟩ := hq

      obtain ⟨k, hk, hki⟩ := turn_at i c.fields.length h0 (by omega)
      obtain ⟨f, hf⟩ : ∃ f, c.fields[k]? = some f := ⟨_, List.getElem?_eq_getElem hk⟩
      obtain ⟨hg, c0, c1, c2, c3, c4, c5⟩ := HM2.out.cells HFA.out HGA.out HMA.out
      go_wp2_with fail
      have hcw : FieldsAt w2 ga p.gc c.fields := by rw [← HGA.out]; exact HC.out.2.1.below HM2.out.1
      have HCW := Lib.hid hcw
      obtain ⟨b, off, rfl, hlt, d0, d1⟩ := hcw.cells hf
      have hD0 := dblk_new w2 #[.string ⟨⟨c.nm⟩⟩, .string ⟨⟨c.sup⟩⟩, .slice fa c.faces.length p.fc, .bool c.face, .slice (some ⟨b, off, none⟩) c.fields.length p.gc, .slice ma c.meths.length p.mc]
      have hb0 := (Below.refl w2.heap.size w2).alloc (Nat.le_refl _) (.cells #[.string ⟨⟨c.nm⟩⟩, .string ⟨⟨c.sup⟩⟩, .slice fa c.faces.length p.fc, .bool c.face, .slice (some ⟨b, off, none⟩) c.fields.length p.gc, .slice ma c.meths.length p.mc] 26)
      clear hg c0 c1 c2 c3 c4 c5
      generalize w2.alloc (.cells #[.string ⟨⟨c.nm⟩⟩, .string ⟨⟨c.sup⟩⟩, .slice fa c.faces.length p.fc, .bool c.face, .slice (some ⟨b, off, none⟩) c.fields.length p.gc, .slice ma c.meths.length p.mc] 26) = W0 at *
      have HB0 := Lib.hid hb0
      have HD0 := Lib.hid hD0
      have hGl := hD0.lt
      have hsl0 := hb0.size
      have hlt0 : b < W0.heap.size := Nat.lt_of_lt_of_le hlt hsl0
      have hlen : (c.fields.map fieldCells).length = c.fields.length := by simp
      have hLs : ∀ x ∈ c.fields.map fieldCells, x.length = 2 := by intro x hx; obtain ⟨y, _, rfl⟩ := List.mem_map.1 hx; rfl
      have HLS := Lib.hid hLs
      have hsrc : ∀ W, Below W0.heap.size W0 W → Src0 W 2 (.slice (some ⟨b, off, none⟩) c.fields.length p.gc) c.fields.length (c.fields.map fieldCells).flatten := fun W hW => by
        have := src_of_rows ((HCW.out.below HB0.out).below hW) (by omega) hLs (by intro x hx u hu; obtain ⟨y, _, rfl⟩ := List.mem_map.1 hx; simp only [fieldCells, List.mem_cons, List.mem_nil_iff, or_false] at hu; rcases hu with rfl | rfl <;> rfl)
        rwa [hlen] at this
      have HSRC := Lib.hid hsrc
      have HLEN := Lib.hid hlen
      have HF1 := Lib.hid hf
      have HONE := Lib.hid (show ∀ u ∈ (fieldCells f : List Value), u.oneCell' = true from (by intro u hu; simp only [fieldCells, List.mem_cons, List.mem_nil_iff, or_false] at hu; rcases hu with rfl | rfl <;> rfl))
      have hu1 : IntKind.u64.wrap (c.fields.length : Int) = (c.fields.length : Int) := by rw [IntKind.wrap_u64]; omega
      have hki2 : (IntKind.u64.wrap i).tmod (c.fields.length : Int) = (k : Int) := by rw [hu1] at hki; exact hki
      have hki3 : IntKind.u64.wrap (k : Int) = (k : Int) := by rw [IntKind.wrap_u64]; omega
      have hne : ¬ c.fields = [] := by intro h; rw [h] at h0; simp at h0
      have hk0 : (0 : Int) ≤ (k : Int) := Int.natCast_nonneg _
      have hk1 : (k : Int) < (c.fields.length : Int) := by omega
      have hS : ∀ W', Below w2.heap.size w2 W' → W'.cell? ⟨w.heap.size, 4, none⟩ = some (.slice (some ⟨b, off, none⟩) c.fields.length p.gc) ∧ W'.cell? ⟨b, off + k * 2, none⟩ = some (.string ⟨⟨f.nm⟩⟩) ∧ W'.cell? ⟨b, off + k * 2 + 1, none⟩ = some (.string ⟨⟨f.ty⟩⟩) := fun W' hW => by
        obtain ⟨_, q0, q1, q2, q3, q4, q5⟩ := (HM2.out.below hW).cells HFA.out HGA.out HMA.out
        have hz : ∀ o, W'.cell? ⟨b, o, none⟩ = w2.cell? ⟨b, o, none⟩ := fun o => by rw [hW.cell (p := ⟨b, o, none⟩) hlt]
        exact ⟨q4, by rw [hz]; exact d0, by rw [hz]; exact d1⟩
      have HS := Lib.hid hS
      have hc4 := (hS W0 hb0).1
      have hd0 := (hS W0 hb0).2
      obtain ⟨e0, e1⟩ := hd0
      clear hS hD0 hb0 hsrc hlen hf hLs d0 d1 hcw
      go_region_held3 (fun W' => W'.cell? ⟨w.heap.size, 4, none⟩ = some (.slice (some ⟨b, off, none⟩) c.fields.length p.gc) ∧ W'.cell? ⟨b, off + k * 2, none⟩ = some (.string ⟨⟨f.nm⟩⟩) ∧ W'.cell? ⟨b, off + k * 2 + 1, none⟩ = some (.string ⟨⟨f.ty⟩⟩))
        (first | (exact HS.out _ (by repeat (first | exact HB0.out | exact hbb4 | exact hbb5 | refine Below.drew ?_ | refine Below.alloc ?_ (by first | omega | (simp; done) | (simp; omega)) _ | refine Below.setCell ?_ (by simp) _))))
        ((first
        | (
           refine step_app rowField rfl (.tmp 27) (.tmp 29) rfl W0.heap.size _ 0 [] rfl ?_ _ c.fields.length (c.fields.map fieldCells).flatten rfl ?_ ?_ ?_ ?_ ?_
           · first | exact World.ownsRow_made W0 #[] 0 (Nat.le_refl _) (by unfold maxLen; omega) rfl | exact ((World.ownsRow_made W0 #[] 0 (Nat.le_refl _) (by unfold maxLen; omega) rfl).alloc _).drew | exact (World.ownsRow_made _ #[] 0 (by simp) (by unfold maxLen; omega) rfl).drew | exact (World.ownsRow_made W0 #[] 0 (Nat.le_refl _) (by unfold maxLen; omega) rfl).alloc _ | exact World.ownsRow_made _ #[] 0 (by simp) (by unfold maxLen; omega) rfl | exact own_two W0 _ _ _ | exact (own_two W0 _ _ _).drew
           · exact HSRC.out _ (by repeat (first | exact Below.refl _ _ | refine Below.drew ?_ | refine Below.alloc ?_ (by simp) _))
           · omega
           · omega
           · first | (simp; done) | (simp; omega)
           intro v4 w4 ho4 hg4 hv4
           have hb4 : Below W0.heap.size W0 w4 := Below.grown (by repeat (first | exact Below.refl _ _ | refine Below.drew ?_ | refine Below.alloc ?_ (by simp) _)) hg4 (by first | (simp; done) | (simp; omega)) hv4
           have hbb4 : Below w2.heap.size w2 w4 := HB0.out.trans (hb4.mono hsl0)
           have hs4 := hb4.size
           change World.grownBy _ _ (Value.slice (some ⟨_, 0, none⟩) 0 0).ownBlock at hg4
           rw [Nat.zero_add, List.nil_append] at ho4
           have HO4 := Lib.hid ho4
           clear ho4)
        | (
           refine step_app rowField rfl (.tmp 30) (.tmp 42) rfl W0.heap.size _ c.fields.length (c.fields.map fieldCells).flatten rfl ?_ _ 1 (fieldCells f) rfl (Or.inr ?_) ?_ ?_ ?_ ?_
           · first | exact HO4.out.alloc _ | exact HO4.out | exact (HO4.out.alloc _).drew
           · first | exact one_src _ (fieldCells f) _ 2 _ (by rfl) rfl HONE.out | exact one_drew (one_src _ (fieldCells f) _ 2 _ (by rfl) rfl HONE.out) | exact one_src _ (fieldCells f) _ 2 _ (by simp) rfl HONE.out | exact one_grown (one_drew (one_src _ (fieldCells f) _ 2 _ (by simp) rfl HONE.out)) hg4 (by simp <;> omega) (by simp <;> omega) | exact one_grown (one_drew (one_alloc (one_src _ (fieldCells f) _ 2 _ (by simp) rfl HONE.out) (by simp) _)) hg4 (by simp <;> omega) (by simp <;> omega)
           · omega
           · omega
           · first | exact hb4.size | (simp; have := hb4.size; omega)
           intro v5 w5 ho5 hg5 hv5
           have hb5 : Below W0.heap.size W0 w5 := Below.grown (by first | exact hb4.alloc hb4.size _ | exact hb4 | exact (hb4.alloc hb4.size _).drew) hg5 (by first | exact hb4.size | (simp; have := hb4.size; omega)) hv5
           have hbb5 : Below w2.heap.size w2 w5 := HB0.out.trans (hb5.mono hsl0)
           have hs5 := hb5.size
           obtain ⟨A5, C5, rfl, _⟩ := slice_of_own ho5
           have HO5 := Lib.hid ho5
           have HD5 := Lib.hid (HD0.out.below hb5)
           have hd5 := HD5.out.lt
           have k4 := HD5.out.cell (j := 4)
           have kf := HD5.out.frozen (j := 4)
           clear hb5 ho5)))
      all_goals
        have hbb6 : Below w2.heap.size w2 (w5.setCell ⟨w2.heap.size, 4, none⟩ (.slice A5 (c.fields.length + 1) C5)) := hbb5.setCell (Nat.le_refl _) _
        have HR6 := Lib.hid (rows_after (g := w2.heap.size) (j := 4) (u := .slice A5 (c.fields.length + 1) C5) HO5.out HLEN.out HLS.out (by rfl) hGl)
        have HD6 := HD5.out.set (j := 4) (by simp) (.slice A5 (c.fields.length + 1) C5)
        have HM6 := Lib.hid (HM2.out.below hbb6)
        have HC6 := Lib.hid (HC.out.below HM6.out.1)
        have HF6 := Lib.hid (HF.out.below HM6.out.1)
        have k0 := HD6.cell (j := 0)
        have k1 := HD6.cell (j := 1)
        have k2 := HD6.cell (j := 2)
        have k3 := HD6.cell (j := 3)
        have k5 := HD6.cell (j := 4)
        have k6 := HD6.cell (j := 5)
        have hl6 := HD6.lt
        clear k4 kf hbb4 hbb5 hbb6 hg4 hg5 HO4 HO5 HD5 HD6 e0 e1 hc4
        generalize w5.setCell ⟨w2.heap.size, 4, none⟩ (.slice A5 (c.fields.length + 1) C5) = w6 at *
        simp only [List.size_toArray, List.length_cons, List.length_nil, Array.setIfInBounds, List.setIfInBounds_toArray, List.set_cons_zero, List.set_cons_succ, List.getElem?_toArray, List.getElem?_cons_zero, List.getElem?_cons_succ] at k0 k1 k2 k3 k5 k6
        have HCK := Lib.hid (check_field (f := f) (A := A5) (C := C5) HFA.out HMA.out HE.out (List.mem_of_getElem? HF1.out) h8 HC6.out (by have := HR6.out; unfold FieldsAt; rw [List.map_append]; exact this) HF6.out HB.out)
        clear HC6 HF6 HR6
        go_wp2_with fail
        refine HCK.out.mono ?_
        rintro e w7 ⟨rfl, hb7⟩
        have HM7 := Lib.hid (HM6.out.below hb7)
        clear hb7
        go_wp2_with fail
        go_meet
        exact HM7.out
    · have hdec : decide (0 < c.fields.length ∧ c.fields.length < 8) = false := decide_eq_false hq
      go_wp2_with fail
      go_meet
      exact HM2.out
  case rest =>
  clear HM2
  have HM2 := Lib.hid hcut
  clear hcut
  obtain ⟨hg, c0, c1, c2, c3, c4, c5⟩ := HM2.out.cells HFA.out HGA.out HMA.out
  go_upto_region 11 with fail
  go_cut [58] (fun s58 wx => s58 = .bool (decide (0 < c.meths.length ∧ c.meths.length < 8)) ∧ wc = wx)
  case first =>
    have hways : (0 < c.meths.length ∧ c.meths.length < 8) ∨ c.meths.length = 0 ∨ (0 < c.meths.length ∧ 8 ≤ c.meths.length) := by omega
    rcases hways with ⟨h0, h8⟩ | h0 | ⟨h0, h8⟩
    all_goals
      go_wp2_with fail
      go_meet
      exact ⟨congrArg Value.bool (by first | (rw [Bool.eq_iff_iff]; simp only [decide_eq_true_eq]; omega) | (rw [Bool.eq_iff_iff]; simp; omega) | (simp; omega)), rfl⟩
  case rest =>
  obtain ⟨rfl, rfl⟩ := hcut
  clear hg c0 c1 c2 c3 c4 c5
  go_upto_if 58 with fail
  go_cut [] (fun wx => Mid w c p wx)
  case first =>
    by_cases hq : 0 < c.meths.length ∧ c.meths.length < 8
    · have hdec : decide (0 < c.meths.length ∧ c.meths.length < 8) = true := decide_eq_true hq
      obtain ⟨h0, h8⟩ := hq

      obtain ⟨k, hk, hki⟩ := turn_at i c.meths.length h0 (by omega)
      obtain ⟨f, hf⟩ : ∃ f, c.meths[k]? = some f := ⟨_, List.getElem?_eq_getElem hk⟩
      obtain ⟨hg, c0, c1, c2, c3, c4, c5⟩ := HM2.out.cells HFA.out HGA.out HMA.out
      go_wp2_with fail
      have hcw : MethsAt wc ma p.mc c.meths p.ps := by rw [← HMA.out]; exact HC.out.2.2.below HM2.out.1
      have HCW := Lib.hid hcw
      obtain ⟨b, off, q, rfl, hlt, hq, _, d0, d1, d2, d3, d4, d5, d6, d7⟩ := hcw.cells hf
      have hD0 := dblk_new wc #[.string ⟨⟨c.nm⟩⟩, .string ⟨⟨c.sup⟩⟩, .slice fa c.faces.length p.fc, .bool c.face, .slice ga c.fields.length p.gc, .slice (some ⟨b, off, none⟩) c.meths.length p.mc]
      have hb0 := (Below.refl wc.heap.size wc).alloc (Nat.le_refl _) (.cells #[.string ⟨⟨c.nm⟩⟩, .string ⟨⟨c.sup⟩⟩, .slice fa c.faces.length p.fc, .bool c.face, .slice ga c.fields.length p.gc, .slice (some ⟨b, off, none⟩) c.meths.length p.mc] 26)
      clear hg c0 c1 c2 c3 c4 c5
      have HQ := Lib.hid hq
      generalize wc.alloc (.cells #[.string ⟨⟨c.nm⟩⟩, .string ⟨⟨c.sup⟩⟩, .slice fa c.faces.length p.fc, .bool c.face, .slice ga c.fields.length p.gc, .slice (some ⟨b, off, none⟩) c.meths.length p.mc] 26) = W0 at *
      have HB0 := Lib.hid hb0
      have HD0 := Lib.hid hD0
      have hGl := hD0.lt
      have hsl0 := hb0.size
      have hlt0 : b < W0.heap.size := Nat.lt_of_lt_of_le hlt hsl0
      have hlen : (List.zipWith methCells c.meths p.ps).length = c.meths.length := by rw [List.length_zipWith, hcw.1]; omega
      have hLs : ∀ x ∈ List.zipWith methCells c.meths p.ps, x.length = 8 := by exact zip_size _ _
      have HLS := Lib.hid hLs
      have hsrc : ∀ W, Below W0.heap.size W0 W → Src0 W 8 (.slice (some ⟨b, off, none⟩) c.meths.length p.mc) c.meths.length (List.zipWith methCells c.meths p.ps).flatten := fun W hW => by
        have := src_of_rows (((HCW.out.below HB0.out).below hW).2.1) (by omega) hLs (zip_one _ _)
        rwa [hlen] at this
      have HSRC := Lib.hid hsrc
      have HLEN := Lib.hid hlen
      have HF1 := Lib.hid hf
      have HONE := Lib.hid (show ∀ u ∈ (methCells f q : List Value), u.oneCell' = true from (by intro u hu; simp only [methCells, List.mem_cons, List.mem_nil_iff, or_false] at hu; rcases hu with rfl | rfl | rfl | rfl | rfl | rfl | rfl | rfl <;> rfl))
      have hu1 : IntKind.u64.wrap (c.meths.length : Int) = (c.meths.length : Int) := by rw [IntKind.wrap_u64]; omega
      have hki2 : (IntKind.u64.wrap i).tmod (c.meths.length : Int) = (k : Int) := by rw [hu1] at hki; exact hki
      have hki3 : IntKind.u64.wrap (k : Int) = (k : Int) := by rw [IntKind.wrap_u64]; omega
      have hne : ¬ c.meths = [] := by intro h; rw [h] at h0; simp at h0
      have hk0 : (0 : Int) ≤ (k : Int) := Int.natCast_nonneg _
      have hk1 : (k : Int) < (c.meths.length : Int) := by omega
      have hS : ∀ W', Below wc.heap.size wc W' → W'.cell? ⟨w.heap.size, 5, none⟩ = some (.slice (some ⟨b, off, none⟩) c.meths.length p.mc) ∧ W'.cell? ⟨b, off + k * 8, none⟩ = some (.string ⟨⟨f.nm⟩⟩) ∧ W'.cell? ⟨b, off + k * 8 + 1, none⟩ = some (.string ⟨⟨f.ty⟩⟩) ∧ W'.cell? ⟨b, off + k * 8 + 2, none⟩ = some (.bool f.stat) ∧ W'.cell? ⟨b, off + k * 8 + 3, none⟩ = some (.bool f.abst) ∧ W'.cell? ⟨b, off + k * 8 + 4, none⟩ = some (.bool f.priv) ∧ W'.cell? ⟨b, off + k * 8 + 5, none⟩ = some (.int .i64 f.loc) ∧ W'.cell? ⟨b, off + k * 8 + 6, none⟩ = some (.slice q.ca f.code.length q.cc) ∧ W'.cell? ⟨b, off + k * 8 + 7, none⟩ = some (.slice q.ha f.hs.length q.hc) := fun W' hW => by
        obtain ⟨_, q0, q1, q2, q3, q4, q5⟩ := (HM2.out.below hW).cells HFA.out HGA.out HMA.out
        have hz : ∀ o, W'.cell? ⟨b, o, none⟩ = wc.cell? ⟨b, o, none⟩ := fun o => by rw [hW.cell (p := ⟨b, o, none⟩) hlt]
        exact ⟨q5, by rw [hz]; exact d0, by rw [hz]; exact d1, by rw [hz]; exact d2, by rw [hz]; exact d3, by rw [hz]; exact d4, by rw [hz]; exact d5, by rw [hz]; exact d6, by rw [hz]; exact d7⟩
      have HS := Lib.hid hS
      have hc4 := (hS W0 hb0).1
      have hd0 := (hS W0 hb0).2
      obtain ⟨e0, e1, e2, e3, e4, e5, e6, e7⟩ := hd0
      clear hS hD0 hb0 hsrc hlen hf hLs d0 d1 d2 d3 d4 d5 d6 d7 hcw
      go_region_held3 (fun W' => W'.cell? ⟨w.heap.size, 5, none⟩ = some (.slice (some ⟨b, off, none⟩) c.meths.length p.mc) ∧ W'.cell? ⟨b, off + k * 8, none⟩ = some (.string ⟨⟨f.nm⟩⟩) ∧ W'.cell? ⟨b, off + k * 8 + 1, none⟩ = some (.string ⟨⟨f.ty⟩⟩) ∧ W'.cell? ⟨b, off + k * 8 + 2, none⟩ = some (.bool f.stat) ∧ W'.cell? ⟨b, off + k * 8 + 3, none⟩ = some (.bool f.abst) ∧ W'.cell? ⟨b, off + k * 8 + 4, none⟩ = some (.bool f.priv) ∧ W'.cell? ⟨b, off + k * 8 + 5, none⟩ = some (.int .i64 f.loc) ∧ W'.cell? ⟨b, off + k * 8 + 6, none⟩ = some (.slice q.ca f.code.length q.cc) ∧ W'.cell? ⟨b, off + k * 8 + 7, none⟩ = some (.slice q.ha f.hs.length q.hc))
        (first | (exact HS.out _ (by repeat (first | exact HB0.out | exact hbb4 | exact hbb5 | refine Below.drew ?_ | refine Below.alloc ?_ (by first | omega | (simp; done) | (simp; omega)) _ | refine Below.setCell ?_ (by simp) _))))
        ((first
        | (
           refine step_app rowMeth rfl (.tmp 60) (.tmp 62) rfl W0.heap.size _ 0 [] rfl ?_ _ c.meths.length (List.zipWith methCells c.meths p.ps).flatten rfl ?_ ?_ ?_ ?_ ?_
           · first | exact World.ownsRow_made W0 #[] 0 (Nat.le_refl _) (by unfold maxLen; omega) rfl | exact ((World.ownsRow_made W0 #[] 0 (Nat.le_refl _) (by unfold maxLen; omega) rfl).alloc _).drew | exact (World.ownsRow_made _ #[] 0 (by simp) (by unfold maxLen; omega) rfl).drew | exact (World.ownsRow_made W0 #[] 0 (Nat.le_refl _) (by unfold maxLen; omega) rfl).alloc _ | exact World.ownsRow_made _ #[] 0 (by simp) (by unfold maxLen; omega) rfl | exact own_two W0 _ _ _ | exact (own_two W0 _ _ _).drew
           · exact HSRC.out _ (by repeat (first | exact Below.refl _ _ | refine Below.drew ?_ | refine Below.alloc ?_ (by simp) _))
           · omega
           · omega
           · first | (simp; done) | (simp; omega)
           intro v4 w4 ho4 hg4 hv4
           have hb4 : Below W0.heap.size W0 w4 := Below.grown (by repeat (first | exact Below.refl _ _ | refine Below.drew ?_ | refine Below.alloc ?_ (by simp) _)) hg4 (by first | (simp; done) | (simp; omega)) hv4
           have hbb4 : Below wc.heap.size wc w4 := HB0.out.trans (hb4.mono hsl0)
           have hs4 := hb4.size
           change World.grownBy _ _ (Value.slice (some ⟨_, 0, none⟩) 0 0).ownBlock at hg4
           rw [Nat.zero_add, List.nil_append] at ho4
           have HO4 := Lib.hid ho4
           clear ho4)
        | (
           refine step_app rowMeth rfl (.tmp 63) (.tmp 75) rfl W0.heap.size _ c.meths.length (List.zipWith methCells c.meths p.ps).flatten rfl ?_ _ 1 (methCells f q) rfl (Or.inr ?_) ?_ ?_ ?_ ?_
           · first | exact HO4.out.alloc _ | exact HO4.out | exact (HO4.out.alloc _).drew
           · first | exact one_src _ (methCells f q) _ 8 _ (by rfl) rfl HONE.out | exact one_drew (one_src _ (methCells f q) _ 8 _ (by rfl) rfl HONE.out) | exact one_src _ (methCells f q) _ 8 _ (by simp) rfl HONE.out | exact one_grown (one_drew (one_src _ (methCells f q) _ 8 _ (by simp) rfl HONE.out)) hg4 (by simp <;> omega) (by simp <;> omega) | exact one_grown (one_drew (one_alloc (one_src _ (methCells f q) _ 8 _ (by simp) rfl HONE.out) (by simp) _)) hg4 (by simp <;> omega) (by simp <;> omega)
           · omega
           · omega
           · first | exact hb4.size | (simp; have := hb4.size; omega)
           intro v5 w5 ho5 hg5 hv5
           have hb5 : Below W0.heap.size W0 w5 := Below.grown (by first | exact hb4.alloc hb4.size _ | exact hb4 | exact (hb4.alloc hb4.size _).drew) hg5 (by first | exact hb4.size | (simp; have := hb4.size; omega)) hv5
           have hbb5 : Below wc.heap.size wc w5 := HB0.out.trans (hb5.mono hsl0)
           have hs5 := hb5.size
           obtain ⟨A5, C5, rfl, _⟩ := slice_of_own ho5
           have HO5 := Lib.hid ho5
           have HD5 := Lib.hid (HD0.out.below hb5)
           have hd5 := HD5.out.lt
           have k4 := HD5.out.cell (j := 5)
           have kf := HD5.out.frozen (j := 5)
           clear hb5 ho5)))
      all_goals
        have hbb6 : Below wc.heap.size wc (w5.setCell ⟨wc.heap.size, 5, none⟩ (.slice A5 (c.meths.length + 1) C5)) := hbb5.setCell (Nat.le_refl _) _
        have HR6 := Lib.hid (rows_after (g := wc.heap.size) (j := 5) (u := .slice A5 (c.meths.length + 1) C5) HO5.out HLEN.out HLS.out (by rfl) hGl)
        have HD6 := HD5.out.set (j := 5) (by simp) (.slice A5 (c.meths.length + 1) C5)
        have HM6 := Lib.hid (HM2.out.below hbb6)
        have HC6 := Lib.hid (HC.out.below HM6.out.1)
        have HF6 := Lib.hid (HF.out.below HM6.out.1)
        have k0 := HD6.cell (j := 0)
        have k1 := HD6.cell (j := 1)
        have k2 := HD6.cell (j := 2)
        have k3 := HD6.cell (j := 3)
        have k5 := HD6.cell (j := 4)
        have k6 := HD6.cell (j := 5)
        have hl6 := HD6.lt
        clear k4 kf hbb4 hbb5 hbb6 hg4 hg5 HO4 HO5 HD5 HD6 e0 e1 e2 e3 e4 e5 e6 e7 hc4
        generalize w5.setCell ⟨wc.heap.size, 5, none⟩ (.slice A5 (c.meths.length + 1) C5) = w6 at *
        simp only [List.size_toArray, List.length_cons, List.length_nil, Array.setIfInBounds, List.setIfInBounds_toArray, List.set_cons_zero, List.set_cons_succ, List.getElem?_toArray, List.getElem?_cons_zero, List.getElem?_cons_succ] at k0 k1 k2 k3 k5 k6
        have HCK := Lib.hid (check_meth (m := f) (q := q) (A := A5) (C := C5) HFA.out HGA.out HE.out (List.mem_of_getElem? HF1.out) h8 HC6.out (meths_after HC6.out.2.2 HF1.out HQ.out HR6.out) HF6.out HB.out)
        clear HC6 HF6 HR6
        go_wp2_with fail
        refine HCK.out.mono ?_
        rintro e w7 ⟨rfl, hb7⟩
        have HM7 := Lib.hid (HM6.out.below hb7)
        clear hb7
        go_wp2_with fail
        go_meet
        exact HM7.out
    · have hdec : decide (0 < c.meths.length ∧ c.meths.length < 8) = false := decide_eq_false hq
      go_wp2_with fail
      go_meet
      exact HM2.out
  case rest =>
  clear HM2
  have HM2 := Lib.hid hcut
  clear hcut
  by_cases h0 : 0 < c.faces.length
  · skip

    obtain ⟨k, hk, hki⟩ := turn_at i c.faces.length h0 (by omega)
    obtain ⟨f, hf⟩ : ∃ f, c.faces[k]? = some f := ⟨_, List.getElem?_eq_getElem hk⟩
    obtain ⟨hg, c0, c1, c2, c3, c4, c5⟩ := HM2.out.cells HFA.out HGA.out HMA.out
    go_wp2_with fail
    have hcw : SRow wc fa p.fc c.faces := by rw [← HFA.out]; exact HC.out.1.below HM2.out.1
    have HCW := Lib.hid hcw
    obtain ⟨b, off, rfl, hlt, d0⟩ := strs_cell hcw hf
    have hD0 := dblk_new wc #[.string ⟨⟨c.nm⟩⟩, .string ⟨⟨c.sup⟩⟩, .slice (some ⟨b, off, none⟩) c.faces.length p.fc, .bool c.face, .slice ga c.fields.length p.gc, .slice ma c.meths.length p.mc]
    have hb0 := (Below.refl wc.heap.size wc).alloc (Nat.le_refl _) (.cells #[.string ⟨⟨c.nm⟩⟩, .string ⟨⟨c.sup⟩⟩, .slice (some ⟨b, off, none⟩) c.faces.length p.fc, .bool c.face, .slice ga c.fields.length p.gc, .slice ma c.meths.length p.mc] 26)
    clear hg c0 c1 c2 c3 c4 c5
    generalize wc.alloc (.cells #[.string ⟨⟨c.nm⟩⟩, .string ⟨⟨c.sup⟩⟩, .slice (some ⟨b, off, none⟩) c.faces.length p.fc, .bool c.face, .slice ga c.fields.length p.gc, .slice ma c.meths.length p.mc] 26) = W0 at *
    have HB0 := Lib.hid hb0
    have HD0 := Lib.hid hD0
    have hGl := hD0.lt
    have hsl0 := hb0.size
    have hlt0 : b < W0.heap.size := Nat.lt_of_lt_of_le hlt hsl0
    have hlen : (c.faces.map (fun x => [strV x])).length = c.faces.length := by simp
    have hLs : ∀ x ∈ c.faces.map (fun x => [strV x]), x.length = 1 := by intro x hx; obtain ⟨y, _, rfl⟩ := List.mem_map.1 hx; rfl
    have HLS := Lib.hid hLs
    have hsrc : ∀ W, Below W0.heap.size W0 W → Src0 W 1 (.slice (some ⟨b, off, none⟩) c.faces.length p.fc) c.faces.length (c.faces.map (fun x => [strV x])).flatten := fun W hW => by
      have := src_of_rows (rows_srow ((HCW.out.below HB0.out).below hW)) (by omega) hLs (by intro x hx u hu; obtain ⟨y, _, rfl⟩ := List.mem_map.1 hx; simp only [List.mem_singleton] at hu; rw [hu]; rfl)
      rwa [hlen] at this
    have HSRC := Lib.hid hsrc
    have HLEN := Lib.hid hlen
    have HF1 := Lib.hid hf
    have HONE := Lib.hid (show ∀ u ∈ ([strV f] : List Value), u.oneCell' = true from (by intro u hu; simp only [List.mem_singleton] at hu; rw [hu]; rfl))
    have hu1 : IntKind.u64.wrap (c.faces.length : Int) = (c.faces.length : Int) := by rw [IntKind.wrap_u64]; omega
    have hki2 : (IntKind.u64.wrap i).tmod (c.faces.length : Int) = (k : Int) := by rw [hu1] at hki; exact hki
    have hki3 : IntKind.u64.wrap (k : Int) = (k : Int) := by rw [IntKind.wrap_u64]; omega
    have hne : ¬ c.faces = [] := by intro h; rw [h] at h0; simp at h0
    have hk0 : (0 : Int) ≤ (k : Int) := Int.natCast_nonneg _
    have hk1 : (k : Int) < (c.faces.length : Int) := by omega
    have hS : ∀ W', Below wc.heap.size wc W' → W'.cell? ⟨w.heap.size, 2, none⟩ = some (.slice (some ⟨b, off, none⟩) c.faces.length p.fc) ∧ W'.cell? ⟨b, off + k, none⟩ = some (.string ⟨⟨f⟩⟩) := fun W' hW => by
      obtain ⟨_, q0, q1, q2, q3, q4, q5⟩ := (HM2.out.below hW).cells HFA.out HGA.out HMA.out
      have hz : ∀ o, W'.cell? ⟨b, o, none⟩ = wc.cell? ⟨b, o, none⟩ := fun o => by rw [hW.cell (p := ⟨b, o, none⟩) hlt]
      exact ⟨q2, by rw [hz]; exact d0⟩
    have HS := Lib.hid hS
    have hc4 := (hS W0 hb0).1
    have hd0 := (hS W0 hb0).2
    have e0 := hd0
    clear hS hD0 hb0 hsrc hlen hf hLs d0 hcw
    go_region_held3 (fun W' => W'.cell? ⟨w.heap.size, 2, none⟩ = some (.slice (some ⟨b, off, none⟩) c.faces.length p.fc) ∧ W'.cell? ⟨b, off + k, none⟩ = some (.string ⟨⟨f⟩⟩))
      (first | (exact HS.out _ (by repeat (first | exact HB0.out | exact hbb4 | exact hbb5 | refine Below.drew ?_ | refine Below.alloc ?_ (by first | omega | (simp; done) | (simp; omega)) _ | refine Below.setCell ?_ (by simp) _))))
      ((first
      | (
         refine step_app rowStr rfl (.tmp 87) (.tmp 89) rfl W0.heap.size _ 0 [] rfl ?_ _ c.faces.length (c.faces.map (fun x => [strV x])).flatten rfl ?_ ?_ ?_ ?_ ?_
         · first | exact World.ownsRow_made W0 #[] 0 (Nat.le_refl _) (by unfold maxLen; omega) rfl | exact ((World.ownsRow_made W0 #[] 0 (Nat.le_refl _) (by unfold maxLen; omega) rfl).alloc _).drew | exact (World.ownsRow_made _ #[] 0 (by simp) (by unfold maxLen; omega) rfl).drew | exact (World.ownsRow_made W0 #[] 0 (Nat.le_refl _) (by unfold maxLen; omega) rfl).alloc _ | exact World.ownsRow_made _ #[] 0 (by simp) (by unfold maxLen; omega) rfl | exact own_two W0 _ _ _ | exact (own_two W0 _ _ _).drew
         · exact HSRC.out _ (by repeat (first | exact Below.refl _ _ | refine Below.drew ?_ | refine Below.alloc ?_ (by simp) _))
         · omega
         · omega
         · first | (simp; done) | (simp; omega)
         intro v4 w4 ho4 hg4 hv4
         have hb4 : Below W0.heap.size W0 w4 := Below.grown (by repeat (first | exact Below.refl _ _ | refine Below.drew ?_ | refine Below.alloc ?_ (by simp) _)) hg4 (by first | (simp; done) | (simp; omega)) hv4
         have hbb4 : Below wc.heap.size wc w4 := HB0.out.trans (hb4.mono hsl0)
         have hs4 := hb4.size
         change World.grownBy _ _ (Value.slice (some ⟨_, 0, none⟩) 0 0).ownBlock at hg4
         rw [Nat.zero_add, List.nil_append] at ho4
         have HO4 := Lib.hid ho4
         clear ho4)
      | (
         refine step_app rowStr rfl (.tmp 90) (.tmp 102) rfl W0.heap.size _ c.faces.length (c.faces.map (fun x => [strV x])).flatten rfl ?_ _ 1 ([strV f]) rfl (Or.inr ?_) ?_ ?_ ?_ ?_
         · first | exact HO4.out.alloc _ | exact HO4.out | exact (HO4.out.alloc _).drew
         · first | exact one_src _ ([strV f]) _ 1 _ (by rfl) rfl HONE.out | exact one_drew (one_src _ ([strV f]) _ 1 _ (by rfl) rfl HONE.out) | exact one_src _ ([strV f]) _ 1 _ (by simp) rfl HONE.out | exact one_grown (one_drew (one_src _ ([strV f]) _ 1 _ (by simp) rfl HONE.out)) hg4 (by simp <;> omega) (by simp <;> omega) | exact one_grown (one_drew (one_alloc (one_src _ ([strV f]) _ 1 _ (by simp) rfl HONE.out) (by simp) _)) hg4 (by simp <;> omega) (by simp <;> omega)
         · omega
         · omega
         · first | exact hb4.size | (simp; have := hb4.size; omega)
         intro v5 w5 ho5 hg5 hv5
         have hb5 : Below W0.heap.size W0 w5 := Below.grown (by first | exact hb4.alloc hb4.size _ | exact hb4 | exact (hb4.alloc hb4.size _).drew) hg5 (by first | exact hb4.size | (simp; have := hb4.size; omega)) hv5
         have hbb5 : Below wc.heap.size wc w5 := HB0.out.trans (hb5.mono hsl0)
         have hs5 := hb5.size
         obtain ⟨A5, C5, rfl, _⟩ := slice_of_own ho5
         have HO5 := Lib.hid ho5
         have HD5 := Lib.hid (HD0.out.below hb5)
         have hd5 := HD5.out.lt
         have k4 := HD5.out.cell (j := 2)
         have kf := HD5.out.frozen (j := 2)
         clear hb5 ho5)))
    all_goals
      have hbb6 : Below wc.heap.size wc (w5.setCell ⟨wc.heap.size, 2, none⟩ (.slice A5 (c.faces.length + 1) C5)) := hbb5.setCell (Nat.le_refl _) _
      have HR6 := Lib.hid (rows_after (g := wc.heap.size) (j := 2) (u := .slice A5 (c.faces.length + 1) C5) HO5.out HLEN.out HLS.out (by rfl) hGl)
      have HD6 := HD5.out.set (j := 2) (by simp) (.slice A5 (c.faces.length + 1) C5)
      have HM6 := Lib.hid (HM2.out.below hbb6)
      have HC6 := Lib.hid (HC.out.below HM6.out.1)
      have HF6 := Lib.hid (HF.out.below HM6.out.1)
      have k0 := HD6.cell (j := 0)
      have k1 := HD6.cell (j := 1)
      have k2 := HD6.cell (j := 2)
      have k3 := HD6.cell (j := 3)
      have k5 := HD6.cell (j := 4)
      have k6 := HD6.cell (j := 5)
      have hl6 := HD6.lt
      clear k4 kf hbb4 hbb5 hbb6 hg4 hg5 HO4 HO5 HD5 HD6 e0 hc4
      generalize w5.setCell ⟨wc.heap.size, 2, none⟩ (.slice A5 (c.faces.length + 1) C5) = w6 at *
      simp only [List.size_toArray, List.length_cons, List.length_nil, Array.setIfInBounds, List.setIfInBounds_toArray, List.set_cons_zero, List.set_cons_succ, List.getElem?_toArray, List.getElem?_cons_zero, List.getElem?_cons_succ] at k0 k1 k2 k3 k5 k6
      have HCK := Lib.hid (check_face (f := f) (A := A5) (C := C5) HGA.out HMA.out HE.out (List.mem_of_getElem? HF1.out) HC6.out (srow_rows (by have := HR6.out; rw [List.map_append]; exact this)) HF6.out HB.out)
      clear HC6 HF6 HR6
      go_wp2_with fail
      refine HCK.out.mono ?_
      rintro e w7 ⟨rfl, hb7⟩
      have HM7 := Lib.hid (HM6.out.below hb7)
      clear hb7
      go_wp2_with fail
      go_ret
      exact ⟨rfl, HM7.out.1⟩
  · obtain ⟨hg, c0, c1, c2, c3, c4, c5⟩ := HM2.out.cells HFA.out HGA.out HMA.out
    go_wp2_with fail
    go_ret
    exact ⟨rfl, HM2.out.1⟩

set_option maxRecDepth 100000 in
theorem classTwice.walk {H : Type} {enc : TypeId × Value → H} {W : World} {base : Nat} {v0 : Value} {d0 : DataW H} {p0 : List MemPlace} (hv0 : Value.okWide Tryd.prog W .any base 26 v0) (h0 : DataW.Trod enc Tryd.prog W 0 (fun _ => true) true 26 v0 d0 p0)
    (i : Int) (_ : (Lit.int .i64 i).wf = true)
    (W' : World) (hW : W' = W) (hL : laidMetH Tryd.prog Rows.classTwiceUptoRow.laid W) {S : Prop} (_ : S) (hbulk : Rows.uptoBulkAll [d0, DataW.lit (.int .i64 i)] ≤ 1048576) :
    Calls Tryd.prog 3 #[v0, .int .i64 i] W' fun e w' => e = .returned (.bool true) ∧ Below W'.heap.size W' w' := by
  subst hW
  obtain ⟨c, q, rfl, hC, hB⟩ := open_classV hv0 h0
  simp only [Rows.uptoBulkAll] at hbulk
  exact classTwice_go c q i W' hC (forms_of_laid hL (by kernel_rfl)) (hB (by omega)).1
end Go.Proofs.YtlcpghblfpakjaaDoor
