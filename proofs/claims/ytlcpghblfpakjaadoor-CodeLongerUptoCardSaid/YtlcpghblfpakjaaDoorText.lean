/-
  The walks of ins.part and ins.Text.
-/
import Derived.Test.YtlcpghblfpakjaaDoorInsCheck
import Derived.Test.YtlcpghblfpakjaaDoorPText
import Derived.Deep.LoopGhost
import Derived.Lib.ItoaLen
namespace Go.Proofs.YtlcpghblfpakjaaDoor
set_option linter.unusedVariables false
set_option linter.unusedSimpArgs false
open Go.RowKit Go.Shelf Go.Lib Go.Sort

/-- the library's table of powers of ten stands -/
def PowAt (w : World) : Prop := Lib.TabIs Tryd.prog w "internal/strconv.uint64pow10" .u64 Lib.pow10Tab ∧ 4 < w.heap.size

theorem PowAt.below {w w' : World} (h : PowAt w) (hb : Below w.heap.size w w') : PowAt w' := by
  obtain ⟨h1, h2⟩ := h
  refine ⟨?_, Nat.lt_of_lt_of_le h2 hb.size⟩
  unfold Lib.TabIs at *
  unfold World.var? at *
  have hg : Tryd.prog.globalNamed "internal/strconv.uint64pow10" = some 4 := by kernel_rfl
  rw [hg] at h1 ⊢
  simp only [Option.bind_some] at h1 ⊢
  rw [hb.block _ h2]
  exact h1

theorem itoa_calls (n : Int) (h0 : -9223372036854775808 ≤ n) (h1 : n ≤ 9223372036854775807) (w : World) (hp : PowAt w) :
    Calls Tryd.prog 69 #[.int .i64 n] w fun e w' => e = .returned (.string ⟨⟨itoa n⟩⟩) ∧ Below w.heap.size w w' := by
  refine (Tryd.strconv_Itoa n h0 h1 w hp.1).mono fun e w' ⟨he, k, os, hw⟩ => ⟨he, ?_⟩
  rw [hw]
  refine ⟨rfl, rfl, rfl, ?_, fun i hi => ?_⟩
  · rw [size_grow]; exact Nat.le_add_right _ _
  · exact heap_grow_old (w.drewN k) os hi

def IntOk (n : Int) : Prop := -9223372036854775808 ≤ n ∧ n ≤ 9223372036854775807

def PartAt (x : InsR) (c : Int) (w : World) (p : List UInt8) : Prop := Calls Tryd.prog 34 #[insV x, .int .i32 c] w fun e w' => e = .returned (.string ⟨⟨p⟩⟩) ∧ Below w.heap.size w w'

set_option maxRecDepth 100000 in
theorem part_A (x : InsR) (hx : IntOk x.a) (w : World) (hp : PowAt w) : PartAt x 65 w (itoa x.a) := by
  have HI := Lib.hid (fun w hp => itoa_calls x.a hx.1 hx.2 w hp)
  have HP := Lib.hid hp
  clear hx hp
  unfold PartAt insV
  go_enter Tryd.func34, Tryd.ntmps34
  go_wp2_with fail
  refine (HI.out _ (HP.out.below ((Below.refl _ _).alloc (Nat.le_refl _) _))).mono ?_
  rintro e w1 ⟨rfl, hb1⟩
  go_wp2_with fail
  go_ret
  exact ⟨rfl, new_below hb1⟩

set_option maxRecDepth 100000 in
theorem part_B (x : InsR) (hx : IntOk x.b) (w : World) (hp : PowAt w) : PartAt x 66 w (itoa x.b) := by
  have HI := Lib.hid (fun w hp => itoa_calls x.b hx.1 hx.2 w hp)
  have HP := Lib.hid hp
  clear hx hp
  unfold PartAt insV
  go_enter Tryd.func34, Tryd.ntmps34
  go_wp2_with fail
  refine (HI.out _ (HP.out.below ((Below.refl _ _).alloc (Nat.le_refl _) _))).mono ?_
  rintro e w1 ⟨rfl, hb1⟩
  go_wp2_with fail
  go_ret
  exact ⟨rfl, new_below hb1⟩

set_option maxRecDepth 100000 in
theorem part_T (x : InsR) (w : World) : PartAt x 84 w x.ty := by
  unfold PartAt insV
  go_enter Tryd.func34, Tryd.ntmps34
  go_wp2_with fail
  go_ret
  exact ⟨rfl, (Below.refl _ _).alloc (Nat.le_refl _) _⟩
set_option maxRecDepth 100000 in
theorem part_C (x : InsR) (w : World) : PartAt x 67 w x.cl := by
  unfold PartAt insV
  go_enter Tryd.func34, Tryd.ntmps34
  go_wp2_with fail
  go_ret
  exact ⟨rfl, (Below.refl _ _).alloc (Nat.le_refl _) _⟩
set_option maxRecDepth 100000 in
theorem part_N (x : InsR) (w : World) : PartAt x 78 w x.nm := by
  unfold PartAt insV
  go_enter Tryd.func34, Tryd.ntmps34
  go_wp2_with fail
  go_ret
  exact ⟨rfl, (Below.refl _ _).alloc (Nat.le_refl _) _⟩

theorem part_calls (x : InsR) (hx : IntOk x.a ∧ IntOk x.b) (c : UInt8) (hc : c = 65 ∨ c = 66 ∨ c = 84 ∨ c = 67 ∨ c = 78) (w : World) (hp : PowAt w) : PartAt x c.toNat w (partL x c) := by
  rcases hc with rfl | rfl | rfl | rfl | rfl
  · exact part_A x hx.1 w hp
  · exact part_B x hx.2 w hp
  · exact part_T x w
  · exact part_C x w
  · exact part_N x w

set_option maxRecDepth 100000 in
theorem text_bad (x : InsR) (hl : x.ty.length ≤ 8388608) (w : World) (hF : FormsAt w) (h : insErr x ≠ 0) :
    Calls Tryd.prog 17 #[insV x] w fun e w' => e = .returned (.tuple #[.string ⟨#[]⟩, errV (insErr x)]) ∧ Below w.heap.size w w' := by
  have HK := Lib.hid (fun w hF => ins_bad x hl w hF h)
  generalize insErr x = n at HK ⊢
  have HF := Lib.hid hF
  clear h hF hl
  unfold insV at HK ⊢
  go_enter Tryd.func17, Tryd.ntmps17
  go_wp2_with fail
  refine (HK.out _ (HF.out.below ((Below.refl _ _).alloc (Nat.le_refl _) _))).mono ?_
  rintro e w1 ⟨rfl, hb1⟩
  go_wp2_with fail
  go_ret2
  exact ⟨rfl, new_below hb1⟩

/-- one letter of a string that is ranged over, wherever its iterator lies -/
theorem next_at (w : World) (b : Nat) (l : List UInt8) (k : Nat) (c : UInt8) (hb : w.heap[b]? = some (.stringIter ⟨⟨l⟩⟩ k)) (hc : l[k]? = some c) (ha : c.toNat < 128) :
    ∃ w', (∀ ty, (Instr.next (.pointer (some ⟨b, 0, none⟩)) true ty).run Tryd.prog w = .ok (.tuple #[.bool true, .int .i64 k, .int .i32 c.toNat]) w') ∧ w'.heap[b]? = some (.stringIter ⟨⟨l⟩⟩ (k + 1)) ∧ w.grownBy w' (some b) := by
  obtain ⟨hk, rfl⟩ := List.getElem?_eq_some_iff.1 hc
  have hlt : k < (⟨⟨l⟩⟩ : ByteArray).size := hk
  have hbl : b < w.heap.size := (Array.getElem?_eq_some_iff.1 hb).1
  have hd := decode_ascii ⟨⟨l⟩⟩ k hlt ha
  have hg : ((⟨⟨l⟩⟩ : ByteArray)[k]'hlt) = l[k] := rfl
  rw [hg] at hd
  refine ⟨{ w with heap := w.heap.setIfInBounds b (.stringIter ⟨⟨l⟩⟩ (k + 1)) }, fun ty => ?_, ?_, ⟨rfl, rfl, rfl, by simp, fun i _ hi => ?_⟩⟩
  · simp only [Instr.next, getObj, setObj, Sem.run_bind, Sem.run, hb, Result.andThen, hlt, if_true, hd]
    simp [goInt, Sem.run, hb]
  · simp [hbl]
  · have : b ≠ i := fun e => hi (by rw [e])
    simp [Array.getElem?_setIfInBounds, this]
theorem next_end (w : World) (b : Nat) (l : List UInt8) (hb : w.heap[b]? = some (.stringIter ⟨⟨l⟩⟩ l.length)) (ty : TypeId) :
    (Instr.next (.pointer (some ⟨b, 0, none⟩)) true ty).run Tryd.prog w = .ok (.tuple #[.bool false]) w := by
  have hlt : ¬ l.length < (⟨⟨l⟩⟩ : ByteArray).size := by show ¬ l.length < l.length; omega
  simp [Instr.next, getObj, Sem.run, hb, hlt]

/-- the box of an instruction -/
def BoxAt (W : World) (g : Nat) (x : InsR) : Prop :=
  g < W.heap.size ∧ W.cell? ⟨g, 0, none⟩ = some (.int .i64 x.op) ∧ W.cell? ⟨g, 1, none⟩ = some (.int .i64 x.a) ∧ W.cell? ⟨g, 2, none⟩ = some (.int .i64 x.b) ∧ W.cell? ⟨g, 3, none⟩ = some (.string ⟨⟨x.ty⟩⟩) ∧ W.cell? ⟨g, 4, none⟩ = some (.string ⟨⟨x.cl⟩⟩) ∧ W.cell? ⟨g, 5, none⟩ = some (.string ⟨⟨x.nm⟩⟩)
theorem BoxAt.kept {W W' : World} {g : Nat} {x : InsR} (h : BoxAt W g x) (hk : W'.heap[g]? = W.heap[g]?) (hs : W.heap.size ≤ W'.heap.size) : BoxAt W' g x := by
  obtain ⟨h0, c0, c1, c2, c3, c4, c5⟩ := h
  refine ⟨by omega, ?_, ?_, ?_, ?_, ?_, ?_⟩
  · rw [World.cell?_of_block (a := ⟨g, 0, none⟩) hk]; exact c0
  · rw [World.cell?_of_block (a := ⟨g, 1, none⟩) hk]; exact c1
  · rw [World.cell?_of_block (a := ⟨g, 2, none⟩) hk]; exact c2
  · rw [World.cell?_of_block (a := ⟨g, 3, none⟩) hk]; exact c3
  · rw [World.cell?_of_block (a := ⟨g, 4, none⟩) hk]; exact c4
  · rw [World.cell?_of_block (a := ⟨g, 5, none⟩) hk]; exact c5
theorem BoxAt.below {W W' : World} {g : Nat} {x : InsR} (h : BoxAt W g x) (hb : RowKit.Below W.heap.size W W') : BoxAt W' g x := h.kept (hb.block g h.1) hb.size

/-- the text so far -/
def textUp (x : InsR) (nd : List UInt8) (k : Nat) : List UInt8 := wordL x.op.toNat ++ ((nd.take k).map (fun c => 32 :: partL x c)).flatten
theorem textUp_succ {x : InsR} {nd : List UInt8} {k : Nat} {c : UInt8} (h : nd[k]? = some c) : textUp x nd (k + 1) = textUp x nd k ++ (32 :: partL x c) := by
  obtain ⟨hk, rfl⟩ := List.getElem?_eq_some_iff.1 h
  unfold textUp
  rw [List.take_succ_eq_append_getElem hk, List.map_append, List.flatten_append, List.append_assoc]
  simp
theorem textUp_all (x : InsR) : textUp x (needL x.op.toNat) (needL x.op.toNat).length = textL x := by unfold textUp textL; rw [List.take_length]

theorem part_len {x : InsR} (h : InsOk x) (hx : IntOk x.a ∧ IntOk x.b) (hl : x.ty.length ≤ 8388608) {c : UInt8} (hc : c ∈ needL x.op.toNat) : (partL x c).length ≤ 8388608 := by
  unfold partL
  split
  · have := itoa_length_le x.a hx.1.1 hx.1.2; omega
  split
  · have := itoa_length_le x.b hx.2.1 hx.2.2; omega
  split
  · exact hl
  split
  · rename_i e; subst e; have := (name_len (h.cl hc)).2; omega
  · rename_i h1 h2 h3 h4
    have key : ∀ i : Fin 29, ∀ c ∈ needL i.val, c = 65 ∨ c = 66 ∨ c = 84 ∨ c = 67 ∨ c = 78 := by decide
    have h5 := h.lo
    have h6 := h.hi
    have := key ⟨x.op.toNat, by omega⟩ c hc
    have hc78 : c = 78 := by
      rcases this with e | e | e | e | e
      · exact absurd e h1
      · exact absurd e h2
      · exact absurd e h3
      · exact absurd e h4
      · exact e
    subst hc78
    have := (name_len (h.nm hc)).2; omega

theorem word_len {n : Nat} (h : n ≤ 28) : (wordL n).length ≤ 8 ∧ (needL n).length ≤ 3 := by
  have key : ∀ i : Fin 29, (wordL i.val).length ≤ 8 ∧ (needL i.val).length ≤ 3 := by decide
  exact key ⟨n, by omega⟩

theorem textUp_len {x : InsR} {nd : List UInt8} (hw : (wordL x.op.toNat).length ≤ 8) (hp : ∀ c ∈ nd, (partL x c).length ≤ 8388608) (k : Nat) : (textUp x nd k).length ≤ 8 + k * 8388609 := by
  unfold textUp
  rw [List.length_append]
  have gen : ∀ (k : Nat) (l : List UInt8), (∀ c ∈ l, (partL x c).length ≤ 8388608) → (((l.take k).map (fun c => 32 :: partL x c)).flatten).length ≤ k * 8388609 := by
    intro k
    induction k with
    | zero => intro l _; simp
    | succ k ih =>
      intro l hl
      cases l with
      | nil => simp
      | cons c l =>
        have h1 := hl c (by simp)
        have h2 := ih l (fun d hd => hl d (by simp [hd]))
        simp only [List.take_succ_cons, List.map_cons, List.flatten_cons, List.length_append, List.length_cons]
        omega
  have := gen k nd hp
  omega

theorem ret_text {a b : List UInt8} (h : a = b) : Ending.returned (.tuple #[.string ⟨⟨a⟩⟩, .nilIface]) = .returned (.tuple #[.string ⟨⟨b⟩⟩, .nilIface]) := by rw [h]

/-- the range's state -/
def RangeAt (w : World) (x : InsR) (g bI : Nat) (nd : List UInt8) (k : Nat) (wr : World) : Prop :=
  RowKit.Below w.heap.size w wr ∧ BoxAt wr g x ∧ PowAt wr ∧ wr.heap[bI]? = some (.stringIter ⟨⟨nd⟩⟩ k) ∧ g < bI ∧ w.heap.size ≤ g

theorem needs_letters {n : Nat} (h : n ≤ 28) : ∀ c ∈ needL n, c = 65 ∨ c = 66 ∨ c = 84 ∨ c = 67 ∨ c = 78 := by
  have key : ∀ i : Fin 29, ∀ c ∈ needL i.val, c = 65 ∨ c = 66 ∨ c = 84 ∨ c = 67 ∨ c = 78 := by decide
  exact key ⟨n, by omega⟩

theorem range_step {w wr : World} {x : InsR} {g bI k : Nat} {nd : List UInt8} {c : UInt8} (h : RangeAt w x g bI nd k wr) (hp : 4 < w.heap.size) (hc : nd[k]? = some c) (ha : c.toNat < 128) :
    ∃ W, (∀ ty, (Instr.next (.pointer (some ⟨bI, 0, none⟩)) true ty).run Tryd.prog wr = .ok (.tuple #[.bool true, .int .i64 k, .int .i32 c.toNat]) W) ∧ RangeAt w x g bI nd (k + 1) W := by
  obtain ⟨h1, h2, h3, h4, h5, h6⟩ := h
  obtain ⟨W, hr, hi, hg⟩ := next_at wr bI nd k c h4 hc ha
  refine ⟨W, hr, h1.grown hg h1.size (fun k hk => by cases hk; omega), h2.kept (hg.block g h2.1 (by simp; omega)) hg.size, ?_, hi, h5, h6⟩
  obtain ⟨t1, t2⟩ := h3
  refine ⟨?_, Nat.lt_of_lt_of_le t2 hg.size⟩
  unfold Lib.TabIs at *
  unfold World.var? at *
  have hgn : Tryd.prog.globalNamed "internal/strconv.uint64pow10" = some 4 := by kernel_rfl
  rw [hgn] at t1 ⊢
  simp only [Option.bind_some] at t1 ⊢
  rw [hg.block _ t2 (by simp; omega)]
  exact t1

theorem range_below {w wr w3 : World} {x : InsR} {g bI k : Nat} {nd : List UInt8} (h : RangeAt w x g bI nd k wr) (hb : RowKit.Below wr.heap.size wr w3) : RangeAt w x g bI nd k w3 := by
  obtain ⟨h1, h2, h3, h4, h5, h6⟩ := h
  exact ⟨bl_trans h1 hb, h2.below hb, h3.below hb, (hb.block bI (Array.getElem?_eq_some_iff.1 h4).1).trans h4, h5, h6⟩

theorem range_start {w w1 : World} (x : InsR) {nd wd : List UInt8} (hb : RowKit.Below (w.alloc (.cells #[.int .i64 x.op, .int .i64 x.a, .int .i64 x.b, .string ⟨⟨x.ty⟩⟩, .string ⟨⟨x.cl⟩⟩, .string ⟨⟨x.nm⟩⟩] 51)).heap.size (w.alloc (.cells #[.int .i64 x.op, .int .i64 x.a, .int .i64 x.b, .string ⟨⟨x.ty⟩⟩, .string ⟨⟨x.cl⟩⟩, .string ⟨⟨x.nm⟩⟩] 51)) w1) (hp : PowAt w) :
    RangeAt w x w.heap.size (w1.heap.size + 1) nd 0 ((w1.alloc (.cells #[.string ⟨⟨wd⟩⟩, .string ⟨⟨nd⟩⟩] 80)).iter ⟨⟨nd⟩⟩ 0) := by
  have hs : w.heap.size + 1 ≤ w1.heap.size := by have := hb.size; simpa using this
  have hbx : BoxAt (w.alloc (.cells #[.int .i64 x.op, .int .i64 x.a, .int .i64 x.b, .string ⟨⟨x.ty⟩⟩, .string ⟨⟨x.cl⟩⟩, .string ⟨⟨x.nm⟩⟩] 51)) w.heap.size x := by
    refine ⟨by simp, ?_, ?_, ?_, ?_, ?_, ?_⟩ <;> rw [World.cell?_alloc_new] <;> rfl
  have hb2 : RowKit.Below w1.heap.size w1 ((w1.alloc (.cells #[.string ⟨⟨wd⟩⟩, .string ⟨⟨nd⟩⟩] 80)).iter ⟨⟨nd⟩⟩ 0) := ((RowKit.Below.refl _ _).alloc (Nat.le_refl _) _).alloc (by simp) _
  have hb3 := new_below hb
  refine ⟨bl_trans hb3 hb2, (hbx.below hb).below hb2, (hp.below hb3).below hb2, ?_, by omega, Nat.le_refl _⟩
  have h1 := World.iter_heap (w1.alloc (.cells #[.string ⟨⟨wd⟩⟩, .string ⟨⟨nd⟩⟩] 80)) ⟨⟨nd⟩⟩ 0
  rw [World.size_alloc] at h1
  exact h1

set_option maxRecDepth 100000 in
set_option maxHeartbeats 2000000 in
theorem text_ok (x : InsR) (hl : x.ty.length ≤ 8388608) (hx : IntOk x.a ∧ IntOk x.b) (w : World) (hF : FormsAt w) (hp : PowAt w) (h : insErr x = 0) :
    Calls Tryd.prog 17 #[insV x] w fun e w' => e = .returned (.tuple #[.string ⟨⟨textL x⟩⟩, .nilIface]) ∧ RowKit.Below w.heap.size w w' := by
  have hok := insErr_ok h
  obtain ⟨n, hn⟩ : ∃ n : Nat, x.op = n := ⟨x.op.toNat, by have := hok.lo; omega⟩
  have hn28 : n ≤ 28 := by have := hok.hi; omega
  have hpow := hp.2
  have HK := Lib.hid (fun w hF => ins_ok x hl w hF h)
  have HF := Lib.hid hF
  have HP := Lib.hid hp
  have HQ := Lib.hid (fun c hc w hp => part_calls x hx c hc w hp)
  obtain ⟨f0, f1⟩ := hF n _ (form_get (by omega))
  have hF0 := hF.lt
  have HTX := Lib.hid (show textUp x (needL n) (needL n).length = textL x by rw [← textUp_all, hn]; rfl)
  have HT0 := Lib.hid (show textUp x (needL n) 0 = wordL n by unfold textUp; rw [hn]; simp)
  have HND := Lib.hid (needs_letters hn28)
  obtain ⟨hwl, hndl⟩ := word_len hn28
  have HPL := Lib.hid (show ∀ c ∈ needL n, (partL x c).length ≤ 8388608 by
    intro c hc
    exact part_len hok hx hl (by rw [hn]; exact hc))
  have HWL := Lib.hid (show (wordL x.op.toNat).length ≤ 8 by rw [hn]; exact hwl)
  generalize needL n = nd at f1 HTX HT0 HND HPL hndl
  simp only at f0 f1
  clear h hF hl hp hx hok
  obtain ⟨op, a, b, ty, cl, nm⟩ := x
  simp only at hn
  subst hn
  unfold insV at HK ⊢
  go_enter Tryd.func17, Tryd.ntmps17
  go_wp2_with fail
  refine (HK.out _ (HF.out.below ((RowKit.Below.refl _ _).alloc (Nat.le_refl _) _))).mono ?_
  rintro e w1 ⟨rfl, hb1⟩
  obtain ⟨hc, hf⟩ := bcell hb1
  have hz : w.heap.size < w1.heap.size := by have := hb1.size; simp at this; omega
  have HRA : Hid (RangeAt w ⟨n, a, b, ty, cl, nm⟩ w.heap.size (w1.heap.size + 1) nd 0 ((w1.alloc (.cells #[.string ⟨⟨wordL n⟩⟩, .string ⟨⟨nd⟩⟩] 80)).iter ⟨⟨nd⟩⟩ 0)) := range_start ⟨n, a, b, ty, cl, nm⟩ hb1 HP.out
  have HB1 := Lib.hid hb1
  clear hb1
  go_wp2_with fail
  go_loopg [6] nd.length (fun g s wr => ∃ k : Nat, k ≤ nd.length ∧ g = nd.length - k ∧ s = .string ⟨⟨textUp ⟨n, a, b, ty, cl, nm⟩ nd k⟩⟩ ∧ RangeAt w ⟨n, a, b, ty, cl, nm⟩ w.heap.size (w1.heap.size + 1) nd k wr)
  case atStart => exact ⟨0, by omega, by omega, by rw [HT0.out], HRA.out⟩
  case round =>
    obtain ⟨k, hk, rfl, rfl, hr⟩ := hrel
    have HR := Lib.hid hr
    by_cases hlk : k < nd.length
    · obtain ⟨c, hc⟩ : ∃ c, nd[k]? = some c := ⟨_, List.getElem?_eq_getElem hlk⟩
      have hcl := HND.out c (List.mem_of_getElem? hc)
      have hca : c.toNat < 128 := by rcases hcl with rfl | rfl | rfl | rfl | rfl <;> decide
      obtain ⟨W, hnx, hrW⟩ := range_step hr hpow hc hca
      have HSU := Lib.hid (textUp_succ (x := ⟨n, a, b, ty, cl, nm⟩) hc)
      obtain ⟨hbW, ⟨hbl, d0, d1, d2, d3, d4, d5⟩, hpW, hiW, hgb, hwg⟩ := hrW
      have hq1 := HPL.out c (List.mem_of_getElem? hc)
      have hq2 := textUp_len HWL.out HPL.out k
      have hq3 : (textUp ⟨n, a, b, ty, cl, nm⟩ nd k).length ≤ 33554432 := by omega
      have HPC := Lib.hid (HQ.out c hcl W hpW)
      have HRW : Hid (RangeAt w ⟨n, a, b, ty, cl, nm⟩ w.heap.size (w1.heap.size + 1) nd (k + 1) W) := ⟨hbW, ⟨hbl, d0, d1, d2, d3, d4, d5⟩, hpW, hiW, hgb, hwg⟩
      unfold PartAt insV at HPC
      simp only at d0 d1 d2 d3 d4 d5
      clear hr hc hbW hpW hiW hcl HR hq2
      go_wp2_with fail
      refine HPC.out.mono ?_
      rintro e w3 ⟨rfl, hb3⟩
      have HN := Lib.hid (range_below HRW.out hb3)
      clear hb3
      go_wp2_with fail
      go_roundg (nd.length - (k + 1))
      case measure => omega
      case rel => exact ⟨k + 1, by omega, by trivial, by rw [HSU.out], HN.out⟩
    · obtain rfl : k = nd.length := by omega
      have hnx := fun ty => next_end wr (w1.heap.size + 1) nd hr.2.2.2.1 ty
      clear hr
      go_wp2_with fail
      go_ret2
      exact ⟨ret_text HTX.out, HR.out.1⟩
end Go.Proofs.YtlcpghblfpakjaaDoor
