/-
  CodeLonger: the walk of the law. (Under way.)
-/
import Derived.Test.YtlcpghblfpakjaaDoorEncode
import Derived.Test.YtlcpghblfpakjaaDoorTextIs
import Derived.Test.YtlcpghblfpakjaaDoorStep
import Derived.Laws.BytesArg
import Derived.BigQuiet
import Derived.Deep.QuietTactic
namespace Go.Proofs.YtlcpghblfpakjaaDoor
set_option linter.unusedVariables false
set_option linter.unusedSimpArgs false
open Go.RowKit Go.Shelf Go.Lib

theorem own_made2 (W : World) (o : Obj) (t : TypeId) : ((W.alloc o).alloc (.cells #[] t)).ownsRow W.heap.size t 6 (.slice (some ⟨W.heap.size + 1, 0, none⟩) 0 0) 0 [] := by
  have h := World.ownsRow_made (base := W.heap.size) (e := t) (size := 6) (W.alloc o) #[] 0 (by simp) (by unfold maxLen; omega) rfl
  have e : (W.alloc o).heap.size = W.heap.size + 1 := by simp
  rw [e] at h
  exact h

theorem src_new (W : World) (x : InsR) (g : Nat) (hg : g = W.heap.size) : SrcRow (W.alloc (.cells #[.int .i64 x.op, .int .i64 x.a, .int .i64 x.b, .string ⟨⟨x.ty⟩⟩, .string ⟨⟨x.cl⟩⟩, .string ⟨⟨x.nm⟩⟩] 51)) 6 (.slice (some ⟨g, 0, none⟩) 1 1) 1 (insCells x) := by
  subst hg
  exact ⟨rfl, insCells_one x, Or.inr ⟨_, 1, rfl, fun j u hj => new_cells W (insCells x) 51 j u hj⟩⟩
theorem src_grown {W w3 : World} {x : InsR} {g b n c : Nat} (h : SrcRow W 6 (.slice (some ⟨g, 0, none⟩) 1 1) 1 (insCells x)) (hg : W.grownBy w3 (Value.slice (some ⟨b, 0, none⟩) n c).ownBlock) (hlt : g < W.heap.size) (hne : g ≠ b) : SrcRow w3 6 (.slice (some ⟨g, 0, none⟩) 1 1) 1 (insCells x) :=
  h.moved (fun k hk => hg.block k (by simp [Value.ownBlock] at hk; omega) (by simp [Value.ownBlock] at hk ⊢; omega))
theorem src_drew {W : World} {x : InsR} {g : Nat} (h : SrcRow W 6 (.slice (some ⟨g, 0, none⟩) 1 1) 1 (insCells x)) : SrcRow W.drew 6 (.slice (some ⟨g, 0, none⟩) 1 1) 1 (insCells x) := h
theorem src_alloc {W : World} {x : InsR} {g : Nat} (h : SrcRow W 6 (.slice (some ⟨g, 0, none⟩) 1 1) 1 (insCells x)) (hlt : g < W.heap.size) (o : Obj) : SrcRow (W.alloc o) 6 (.slice (some ⟨g, 0, none⟩) 1 1) 1 (insCells x) :=
  h.moved (fun k hk => by simp [Value.ownBlock] at hk; subst hk; exact Below.heap_alloc W o g hlt)

/-- what Encode tells of whatever instructions -/
def EncRes (l : List InsR) (w' : World) (v ev : Value) : Prop :=
  (encErr l ≠ 0 ∧ v = .slice none 0 0 ∧ ev = errV (encErr l)) ∨
    (encErr l = 0 ∧ ev = .nilIface ∧ ∃ g C, v = .slice (some ⟨g, 0, none⟩) (encV l).length C ∧ (encV l).length ≤ C ∧ g < w'.heap.size ∧ ∀ i u, (encV l)[i]? = some u → w'.cell? ⟨g, i, none⟩ = some u)
theorem EncRes.below {l : List InsR} {w w' : World} {v ev : Value} (h : EncRes l w v ev) (hb : Below w.heap.size w w') : EncRes l w' v ev := by
  rcases h with h | ⟨h1, h2, g, C, h3, h4, h5, h6⟩
  · exact Or.inl h
  · exact Or.inr ⟨h1, h2, g, C, h3, h4, Nat.lt_of_lt_of_le h5 hb.size, fun i u hi => by rw [hb.cell (p := ⟨g, i, none⟩) h5]; exact h6 i u hi⟩

def EncEnd (l : List InsR) (w : World) (e : Ending) (w' : World) : Prop := ∃ v ev, e = .returned (.tuple #[v, ev]) ∧ Below w.heap.size w w' ∧ EncRes l w' v ev

theorem encode_all (l : List InsR) (a : Option Addr) (n cap : Nat) (w : World) (hn : n = l.length) (hC : CodeAt w a cap l) (hF : FormsAt w) (hp : PowAt w) (hT : ∀ x ∈ l, x.ty.length ≤ 8388608) (hI : ∀ x ∈ l, IntOk x.a ∧ IntOk x.b) :
    Calls Tryd.prog 16 #[.slice a n cap] w (EncEnd l w) := by
  subst hn
  by_cases h : 40 < l.length
  · refine (encode_full a l.length cap w h).mono ?_
    rintro e w' ⟨rfl, rfl⟩
    have he : encErr l = 4 := by unfold encErr; rw [if_pos h]
    exact ⟨_, _, rfl, Below.refl _ _, Or.inl ⟨by rw [he]; omega, rfl, by rw [he]⟩⟩
  · have he : encErr l = firstErr l := by unfold encErr; rw [if_neg h]
    refine (encode_any l a cap w hC hF hp hT hI (by omega)).mono ?_
    rintro e w' ⟨hb, ⟨h1, rfl⟩ | ⟨h1, v, rfl, ho⟩⟩
    · exact ⟨_, _, rfl, hb, Or.inl ⟨by rw [he]; exact h1, rfl, by rw [he]⟩⟩
    · refine ⟨_, _, rfl, hb, Or.inr ⟨by rw [he]; exact h1, rfl, ?_⟩⟩
      rcases ho.2 with ⟨_, h0⟩ | ⟨g, c, cur, rfl, _, hg, hle, _, _, _⟩
      · have hpos : 0 < (encV l).length := by unfold encV; simp
        omega
      · refine ⟨g, c, rfl, hle, (Array.getElem?_eq_some_iff.1 hg).1, fun i u hi => ?_⟩
        have := ho.cells (g := g) rfl i u hi
        have e : (⟨g, 0, none⟩ : Addr).add i = ⟨g, i, none⟩ := by unfold Addr.add; split <;> simp_all
        rwa [e] at this

theorem code_snoc {w : World} {B : Nat} {a : Option Addr} {cap : Nat} {l : List InsR} {x : InsR} (h : w.ownsRow B 51 6 (.slice a (l.length + 1) cap) (l.length + 1) ((l.map insCells).flatten ++ insCells x)) : CodeAt w a cap (l ++ [x]) := by
  rw [← flat_snoc, show l.length + 1 = (l ++ [x]).length by simp] at h
  obtain ⟨a', cap', hv, hc⟩ := code_of_own h
  simp only [Value.slice.injEq] at hv
  obtain ⟨rfl, _, rfl⟩ := hv
  exact hc

theorem firstErr_snoc : ∀ (l : List InsR) (x : InsR), firstErr (l ++ [x]) = if firstErr l = 0 then insErr x else firstErr l
  | [], x => by
    by_cases h : insErr x = 0 <;> simp [firstErr, h]
  | y :: r, x => by
    by_cases h : insErr y = 0
    · simp [firstErr, h, firstErr_snoc r x]
    · simp [firstErr, h]

theorem encErr_bad {l : List InsR} (x : InsR) (h : encErr l ≠ 0) : encErr (l ++ [x]) ≠ 0 := by
  unfold encErr at *
  by_cases h1 : 40 < l.length
  · rw [if_pos (by simp; omega)]; omega
  · rw [if_neg h1] at h
    by_cases h2 : 40 < (l ++ [x]).length
    · rw [if_pos h2]; omega
    · rw [if_neg h2, firstErr_snoc, if_neg h]; exact h
theorem encErr_full {l : List InsR} (x : InsR) (h : 40 ≤ l.length) : encErr (l ++ [x]) = 4 := by
  unfold encErr
  rw [if_pos (by simp; omega)]
theorem encErr_ok {l : List InsR} {x : InsR} (h : encErr l = 0) (hx : insErr x = 0) (hl : l.length < 40) : encErr (l ++ [x]) = 0 := by
  unfold encErr at *
  rw [if_neg (by omega)] at h
  rw [if_neg (by simp; omega), firstErr_snoc, if_pos h, hx]
theorem encErr_len {l : List InsR} (h : encErr l = 0) : l.length ≤ 40 ∧ ∀ y ∈ l, insErr y = 0 := by
  unfold encErr at h
  by_cases h1 : 40 < l.length
  · rw [if_pos h1] at h; omega
  · rw [if_neg h1] at h; exact ⟨by omega, (firstErr_zero l).1 h⟩

theorem conv_row1 (W : World) (b off n cap : Nat) (xs : List Int) (hlen : xs.length = n) (hcell : ∀ i, i < n → W.cell? ⟨b, off + i, none⟩ = some (.int .u8 (xs.getD i 0))) :
    (convert 56 9 (.slice (some ⟨b, off, none⟩) n cap)).run Tryd.prog W = .ok (.string (strOfNums xs)) W :=
  run_convert_bytes_arg (P := Tryd.prog) W 56 5 Tryd.underlying56 Tryd.underlying5 b off n cap xs hlen hcell 9 Tryd.underlying9

/-- 'x[1:]' of a slice of bytes that has one -/
theorem slice_tail (g n C : Nat) (h1 : 1 ≤ n) (h2 : n ≤ C) : ∃ b C', (b = 1 ∨ n = 1) ∧ ∀ W : World, (Instr.slice 56 (.slice (some ⟨g, 0, none⟩) n C) (some (.int .i64 1)) none none).run Tryd.prog W = .ok (.slice (some ⟨g, b, none⟩) (n - 1) C') W := by
  have ht' : Tryd.prog.underlying 56 = some (.slice (Tryd.prog.elem 56)) := by simp [Program.elem, Tryd.underlying56]
  by_cases hC : C = 1
  · refine ⟨0, 0, Or.inr (by omega), fun W => ?_⟩
    rw [run_slice_l W _ _ _ _ ht' .i64 1 (by omega) (by omega)]
    simp [Result.andThen, sliced, hC, go_sem]
  · refine ⟨1, C - 1, Or.inl rfl, fun W => ?_⟩
    rw [run_slice_l W _ _ _ _ ht' .i64 1 (by omega) (by omega)]
    simp [Result.andThen, sliced, hC, go_sem]
theorem slice_head (g n m C : Nat) (h1 : 1 ≤ m) (h2 : m ≤ C) : ∃ b C', (b = 1 ∨ m = 1) ∧ ∀ W : World, (Instr.slice 56 (.slice (some ⟨g, 0, none⟩) n C) (some (.int .i64 1)) (some (.int .i64 (m : Int))) none).run Tryd.prog W = .ok (.slice (some ⟨g, b, none⟩) (m - 1) C') W := by
  have ht' : Tryd.prog.underlying 56 = some (.slice (Tryd.prog.elem 56)) := by simp [Program.elem, Tryd.underlying56]
  by_cases hC : C = 1
  · refine ⟨0, 0, Or.inr (by omega), fun W => ?_⟩
    rw [run_slice_lh W _ _ _ _ ht' .i64 .i64 1 m (by omega) (by omega) (by omega)]
    simp [Result.andThen, sliced, hC, go_sem]
  · refine ⟨1, C - 1, Or.inl rfl, fun W => ?_⟩
    rw [run_slice_lh W _ _ _ _ ht' .i64 .i64 1 m (by omega) (by omega) (by omega)]
    simp [Result.andThen, sliced, hC, go_sem]

def oneN (x : InsR) : List Int := IntKind.u8.wrap ((textL x).length : Int) :: (textL x).map (fun b => (b.toNat : Int))
def bodyN (l : List InsR) : List Int := (l.map oneN).flatten
theorem bodyV_nums (l : List InsR) : bodyV l = (bodyN l).map (Value.int .u8) := by
  unfold bodyV bodyN
  rw [List.map_flatten, List.map_map]
  congr 1
  apply List.map_congr_left
  intro x _
  simp [oneV, oneN, strCells]
theorem body_len (l : List InsR) : (encV l).length = (bodyN l).length + 1 := by unfold encV; rw [bodyV_nums]; simp
theorem encV_snoc_len (l : List InsR) (x : InsR) : (encV (l ++ [x])).length = (bodyN l).length + 1 + 1 + (textL x).length := by
  rw [body_len]
  unfold bodyN
  simp [oneN]
  omega
theorem body_le {l : List InsR} (h : ∀ y ∈ l, insErr y = 0) (hI : ∀ x ∈ l, IntOk x.a ∧ IntOk x.b) : (bodyN l).length ≤ l.length * 501 := by
  induction l with
  | nil => simp [bodyN]
  | cons y r ih =>
    have h1 := text_len (insErr_ok (h y (by simp))) (hI y (by simp))
    have h2 := ih (fun z hz => h z (by simp [hz])) (fun z hz => hI z (by simp [hz]))
    have e : bodyN (y :: r) = oneN y ++ bodyN r := by simp [bodyN]
    rw [e, List.length_append]
    have e2 : (oneN y).length = (textL y).length + 1 := by simp [oneN]
    rw [e2, List.length_cons]
    omega
theorem enc_at (l : List InsR) (i : Nat) (hi : i < (bodyN l).length) : (encV l)[1 + i]? = some (.int .u8 ((bodyN l).getD i 0)) := by
  unfold encV
  rw [bodyV_nums, Nat.add_comm, List.getElem?_cons_succ, List.getElem?_map, List.getElem?_eq_getElem hi]
  simp [List.getD, List.getElem?_eq_getElem hi]
theorem enc_at_snoc (l : List InsR) (x : InsR) (i : Nat) (hi : i < (bodyN l).length) : (encV (l ++ [x]))[1 + i]? = some (.int .u8 ((bodyN l).getD i 0)) := by
  have e : bodyN (l ++ [x]) = bodyN l ++ oneN x := by simp [bodyN]
  rw [enc_at _ _ (by rw [e, List.length_append]; omega), e]
  simp [List.getD, List.getElem?_append_left hi]

set_option maxRecDepth 100000 in
set_option maxHeartbeats 4000000 in
theorem codeLonger_go (l : List InsR) (a : Option Addr) (cap : Nat) (x : InsR) (w : World) (hC : CodeAt w a cap l) (hF : FormsAt w) (hp : PowAt w) (hT : ∀ y ∈ l, y.ty.length ≤ 8388608) (hI : ∀ y ∈ l, IntOk y.a ∧ IntOk y.b) (hx : IntOk x.a ∧ IntOk x.b) (hlx : x.ty.length ≤ 8388608) (hll : l.length ≤ 1048576) :
    Calls Tryd.prog 6 #[.slice a l.length cap, insV x] w fun e w' => e = .returned (.bool true) ∧ Below w.heap.size w w' := by
  obtain ⟨sx, vx, htx, hvx⟩ : ∃ sx vx, TextIs x sx vx ∧ ((insErr x ≠ 0 ∧ vx = errV (insErr x)) ∨ (insErr x = 0 ∧ vx = .nilIface ∧ sx = textL x)) := by
    rcases text_is x hx hlx with ⟨h1, h⟩ | ⟨h1, h⟩
    · exact ⟨_, _, h, Or.inl ⟨h1, rfl⟩⟩
    · exact ⟨_, _, h, Or.inr ⟨h1, rfl, rfl⟩⟩
  have HTX := Lib.hid htx
  have HVX := Lib.hid hvx
  have HC := Lib.hid hC
  have HF := Lib.hid hF
  have HP := Lib.hid hp
  have HT2 := Lib.hid (show ∀ y ∈ l ++ [x], y.ty.length ≤ 8388608 by
    intro y hy; rcases List.mem_append.1 hy with h | h
    · exact hT y h
    · rw [List.mem_singleton.1 h]; exact hlx)
  have HI2 := Lib.hid (show ∀ y ∈ l ++ [x], IntOk y.a ∧ IntOk y.b by
    intro y hy; rcases List.mem_append.1 hy with h | h
    · exact hI y h
    · rw [List.mem_singleton.1 h]; exact hx)
  have HT := Lib.hid hT
  have HI := Lib.hid hI
  have HXX := Lib.hid hx
  clear htx hC hF hp hvx hT hI hx
  unfold TextIs insV at HTX
  unfold insV
  have hbx : BoxAt (w.alloc (.cells #[.int .i64 x.op, .int .i64 x.a, .int .i64 x.b, .string ⟨⟨x.ty⟩⟩, .string ⟨⟨x.cl⟩⟩, .string ⟨⟨x.nm⟩⟩] 51)) w.heap.size x := by
    refine ⟨by simp, ?_, ?_, ?_, ?_, ?_, ?_⟩ <;> rw [World.cell?_alloc_new] <;> rfl
  have HBX := Lib.hid hbx
  clear hbx
  go_enter Tryd.func6, Tryd.ntmps6
  go_wp2_with fail
  refine (named_true _).mono ?_
  rintro e w1 ⟨rfl, hb1⟩
  have HB1 := Lib.hid (new_below hb1)
  have HX1 := Lib.hid (HBX.out.below hb1)
  clear hb1
  go_wp2_with fail
  refine (encode_all l a l.length cap _ rfl (HC.out.below HB1.out) (HF.out.below HB1.out) (HP.out.below HB1.out) HT.out HI.out).mono ?_
  rintro e w2 ⟨v1, ev1, rfl, hb2, hr1⟩
  have HB2 := Lib.hid (bl_trans HB1.out hb2)
  have HX2 := Lib.hid (HX1.out.below hb2)
  obtain ⟨hx2, c0, c1, c2, c3, c4, c5⟩ := HX2.out
  have HR1 := Lib.hid hr1
  clear hb2 hr1 HB1 HX1
  go_wp2_with fail
  refine (HTX.out _ (HF.out.below HB2.out) (HP.out.below HB2.out)).mono ?_
  rintro e w3 ⟨rfl, hb3⟩
  have HB3 := Lib.hid (bl_trans HB2.out hb3)
  have HX3 := Lib.hid (HX2.out.below hb3)
  have HR3 := Lib.hid (HR1.out.below hb3)
  obtain ⟨hx3, d0, d1, d2, d3, d4, d5⟩ := HX3.out
  have HC3 := Lib.hid (HC.out.below HB3.out)
  have HF3 := Lib.hid (HF.out.below HB3.out)
  have HP3 := Lib.hid (HP.out.below HB3.out)
  clear hb3 c0 c1 c2 c3 c4 c5 HX2 hx2 HB2 HR1 HC HF HP
  go_wp2_with fail
  have hsrc := fun W (hb : Below w3.heap.size w3 W) => src_of_code (HC3.out.below hb)
  have HSRC := Lib.hid hsrc
  clear hsrc
  go_region_law (first
    | (refine step_app rowIns rfl (.tmp 26) (.tmp 27) rfl w3.heap.size _ 0 [] rfl ?_ _ l.length (l.map insCells).flatten rfl ?_ ?_ ?_ ?_ ?_
       · first | exact World.ownsRow_made w3 #[] 0 (Nat.le_refl _) (by unfold maxLen; omega) rfl | exact ((World.ownsRow_made w3 #[] 0 (Nat.le_refl _) (by unfold maxLen; omega) rfl).alloc _).drew | exact (World.ownsRow_made _ #[] 0 (by simp) (by unfold maxLen; omega) rfl).drew | exact (World.ownsRow_made w3 #[] 0 (Nat.le_refl _) (by unfold maxLen; omega) rfl).alloc _ | exact World.ownsRow_made _ #[] 0 (by simp) (by unfold maxLen; omega) rfl | exact own_made2 w3 _ _ | exact (own_made2 w3 _ _).drew
       · exact HSRC.out _ (by repeat (first | exact Below.refl _ _ | refine Below.drew ?_ | refine Below.alloc ?_ (by simp) _))
       · omega
       · omega
       · first | (simp; done) | (simp; omega)
       intro v4 w4 ho4 hg4 hv4
       have hb4 : Below w3.heap.size w3 w4 := Below.grown (by repeat (first | exact Below.refl _ _ | refine Below.drew ?_ | refine Below.alloc ?_ (by simp) _)) hg4 (by first | (simp; done) | (simp; omega)) hv4
       change World.grownBy _ _ (Value.slice (some ⟨_, 0, none⟩) 0 0).ownBlock at hg4
       rw [Nat.zero_add, List.nil_append] at ho4
       have HO4 := Lib.hid ho4
       clear ho4
       obtain ⟨_, e0, e1, e2, e3, e4, e5⟩ := HX3.out.below hb4)
    | (refine step_app rowIns rfl (.tmp 28) (.tmp 30) rfl w3.heap.size _ l.length (l.map insCells).flatten rfl ?_ _ 1 (insCells x) rfl (Or.inr ?_) ?_ ?_ ?_ ?_
       · first | exact HO4.out.alloc _ | exact HO4.out | exact (HO4.out.alloc _).drew
       · first | exact src_new _ x _ (by rfl) | exact src_drew (src_new _ x _ (by rfl)) | exact src_new _ x _ (by simp) | exact src_grown (src_drew (src_new _ x _ (by simp))) hg4 (by simp <;> omega) (by simp <;> omega) | exact src_grown (src_drew (src_alloc (src_new _ x _ (by simp)) (by simp) _)) hg4 (by simp <;> omega) (by simp <;> omega)
       · omega
       · omega
       · first | exact hb4.size | (simp; have := hb4.size; omega)
       intro v5 w5 ho5 hg5 hv5
       have hb5 : Below w3.heap.size w3 w5 := Below.grown (by first | exact hb4.alloc hb4.size _ | exact hb4 | exact (hb4.alloc hb4.size _).drew) hg5 (by first | exact hb4.size | (simp; have := hb4.size; omega)) hv5
       have HB5 := Lib.hid hb5
       obtain ⟨A5, C5, rfl, _⟩ := slice_of_own ho5
       have HC5 := Lib.hid (code_snoc ho5)
       clear hb5 ho5)
    | (go_simp
       go_at_call 16
       refine (encode_all (l ++ [x]) A5 _ C5 _ (by simp) HC5.out (HF3.out.below HB5.out) (HP3.out.below HB5.out) HT2.out HI2.out).mono ?_
       rintro e w6 ⟨v6, ev6, rfl, hb6, hr6⟩
       have HB6 := Lib.hid (bl_trans HB5.out hb6)
       have HR6 := Lib.hid hr6
       clear hb6 hr6))
  all_goals
    have HB := Lib.hid (bl_trans HB3.out HB6.out)
    have HR36 := Lib.hid (HR3.out.below HB6.out)
    clear HR3 HX3 HC3 HF3 HP3 HSRC hg4 hg5 HC5 HB5 HB3 HB6 HO4 d0 d1 d2 d3 d4 d5 e0 e1 e2 e3 e4 e5 hb4 HT2 HI2 HBX HTX HT
    rcases HR36.out with ⟨hne, rfl, rfl⟩ | ⟨h0, rfl, g1, C1, rfl, hle1, hg1, hc1⟩
    · have HN := Lib.hid (encErr_bad x hne)
      rcases HR6.out with ⟨_, rfl, rfl⟩ | ⟨h6, _⟩
      · clear HR36 HR6 hne HVX HN
        go_wp2_with fail
        go_ret
        exact ⟨rfl, HB.out⟩
      · exact absurd h6 HN.out
    · have HLE := Lib.hid hle1
      have HC1 := Lib.hid hc1
      have HE0 := Lib.hid h0
      clear hle1 hc1 h0 HR36
      rcases HVX.out with ⟨hxn, rfl⟩ | ⟨hx0, rfl, rfl⟩
      · clear hxn HVX HR6
        go_wp2_with fail
        go_ret
        exact ⟨rfl, HB.out⟩
      · by_cases h40 : 40 ≤ l.length
        · rcases HR6.out with ⟨_, rfl, rfl⟩ | ⟨h6, _⟩
          · have HF4 := Lib.hid (encErr_full x h40)
            clear HR6 HVX hx0
            rw [HF4.out]
            go_wp2_with fail
            go_ret
            exact ⟨rfl, HB.out⟩
          · exact absurd h6 (by rw [encErr_full x h40]; omega)
        · rcases HR6.out with ⟨h6, _⟩ | ⟨_, rfl, g2, C2, rfl, hle2, hg2, hc2⟩
          · exact absurd (encErr_ok HE0.out hx0 (by omega)) h6
          · have hn1 := body_len l
            have hn2 := encV_snoc_len l x
            have htl := text_len (insErr_ok hx0) HXX.out
            have hbl := body_le (encErr_len HE0.out).2 HI.out
            have hn3 : (encV (l ++ [x])).length = (encV l).length + 1 + (textL x).length := by omega
            have hle1 := HLE.out
            obtain ⟨b1, D1, hb1, hsl1⟩ := slice_tail g1 (encV l).length C1 (by omega) (by omega)
            obtain ⟨b2, D2, hb2, hsl2⟩ := slice_head g2 (encV (l ++ [x])).length (encV l).length C2 (by omega) (by omega)
            have HQ1 : Hid (∀ (W : World), Below w6.heap.size w6 W → (convert 56 9 (.slice (some ⟨g1, b1, none⟩) ((encV l).length - 1) D1)).run Tryd.prog W = .ok (.string (strOfNums (bodyN l))) W) := by
              intro W hW
              refine conv_row1 W g1 b1 _ D1 (bodyN l) (by omega) (fun i hi => ?_)
              obtain rfl : b1 = 1 := by omega
              rw [hW.cell (p := ⟨g1, 1 + i, none⟩) hg1]
              exact HC1.out _ _ (enc_at l i (by omega))
            have HQ2 : Hid (∀ (W : World), Below w6.heap.size w6 W → (convert 56 9 (.slice (some ⟨g2, b2, none⟩) ((encV l).length - 1) D2)).run Tryd.prog W = .ok (.string (strOfNums (bodyN l))) W) := by
              intro W hW
              refine conv_row1 W g2 b2 _ D2 (bodyN l) (by omega) (fun i hi => ?_)
              obtain rfl : b2 = 1 := by omega
              rw [hW.cell (p := ⟨g2, 1 + i, none⟩) hg2]
              exact hc2 _ _ (enc_at_snoc l x i (by omega))
            have HQ0 : Hid ((bodyN l).length = (encV l).length - 1) := by show (bodyN l).length = _; omega
            clear HR6 HVX HC1 hc2 HXX HI
            generalize (encV (l ++ [x])).length = n2 at *
            generalize (encV l).length = n1 at *
            generalize (bodyN l) = bs at *
            have hts : (⟨⟨textL x⟩⟩ : ByteArray).size = (textL x).length := rfl
            generalize (textL x) = tx at *
            generalize tx.length = t at *
            have HB6 := Lib.hid (Below.refl w6.heap.size w6)
            have hq1 := fun k => HQ1.out (w6.drewN k) (below_dn HB6.out k)
            have hq2 := fun k => HQ2.out (w6.drewN k) (below_dn HB6.out k)
            have hs1 : IntKind.i64.wrap (↑n1 + 1) = ↑n1 + 1 := IntWalk.i64_in _ (by omega)
            have hs2 : IntKind.i64.wrap (↑n1 + 1 + ↑t) = ↑n1 + 1 + ↑t := IntWalk.i64_in _ (by omega)
            have hs3 : ((n2 : Int) == ↑n1 + 1 + ↑t) = true := by simp; omega
            have hs4 : 1 ≤ n1 := by omega
            have hs5 : n1 ≤ C2 := by omega
            clear hn1 hn2 htl hbl hn3 hle1 hle2 HQ0 HLE hb1 hb2
            generalize n1 - 1 = n3 at *
            go_wp2_with fail
            go_quiet (fail)
            all_goals go_wp2_with fail
            all_goals go_ret
            all_goals exact ⟨by first | rfl | exact ret_bool (by simp), below_dn HB.out _⟩

set_option maxRecDepth 100000 in
theorem codeLonger.walk {H : Type} {enc : TypeId × Value → H} {W : World} {base : Nat} {v0 : Value} {d0 : DataW H} {p0 : List MemPlace} (hv0 : Value.okWide Tryd.prog W .any base 35 v0) (h0 : DataW.Trod enc Tryd.prog W 0 (fun _ => true) true 35 v0 d0 p0)
    {v1 : Value} {d1 : DataW H} {p1 : List MemPlace} (hv1 : Value.okWide Tryd.prog W .any base 51 v1) (h1 : DataW.Trod enc Tryd.prog W 0 (fun _ => true) true 51 v1 d1 p1)
    (W' : World) (hW : W' = W) (hL : laidMetH Tryd.prog Rows.codeLongerUptoRow.laid W) {S : Prop} (_ : S) (hbulk : Rows.uptoBulkAll [d0, d1] ≤ 1048576) :
    Calls Tryd.prog 6 #[v0, v1] W' fun e w' => e = .returned (.bool true) ∧ Below W'.heap.size W' w' := by
  subst hW
  obtain ⟨a0, len, cap0, rfl⟩ := WideShapes.okWide_slice Tryd.underlying35 hv0
  obtain ⟨fuel, hf⟩ := h0
  obtain ⟨a, cap, l, hcs, hC, hll, ht⟩ := open_code hf
  simp only [Value.cells, List.cons.injEq, and_true] at hcs
  rw [hcs]
  obtain ⟨x, rfl, _, bx, _, _, xa, xb⟩ := open_insV hv1 h1
  simp only [Rows.uptoBulkAll] at hbulk
  exact codeLonger_go l a cap x W' hC (forms_of_laid hL (by kernel_rfl)) (pow_of_laid hL (by kernel_rfl)) (fun y hy => by have := (ht y hy).1; omega) (fun y hy => ⟨(ht y hy).2.2.2.1, (ht y hy).2.2.2.2⟩) ⟨xa, xb⟩ (by omega) (by omega)
end Go.Proofs.YtlcpghblfpakjaaDoor
