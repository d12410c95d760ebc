/-
  The walk of code.Encode.
-/
import Derived.Test.YtlcpghblfpakjaaDoorText
import Derived.Test.YtlcpghblfpakjaaDoorCode
import Derived.Test.YtlcpghblfpakjaaDoorFlowCheck
import Derived.Lib.AppendStr
namespace Go.Proofs.YtlcpghblfpakjaaDoor
set_option linter.unusedVariables false
set_option linter.unusedSimpArgs false
open Go.RowKit Go.Shelf Go.Lib

/-- one instruction's bytes -/
def oneV (x : InsR) : List Value := .int .u8 (IntKind.u8.wrap ((textL x).length : Int)) :: strCells ⟨⟨textL x⟩⟩
def bodyV (l : List InsR) : List Value := (l.map oneV).flatten
def encV (l : List InsR) : List Value := .int .u8 (l.length : Int) :: bodyV l
def encUp (l : List InsR) (k : Nat) : List Value := .int .u8 (l.length : Int) :: bodyV (l.take k)
theorem encUp_all (l : List InsR) : encUp l l.length = encV l := by unfold encUp encV; rw [List.take_length]
theorem encUp_succ {l : List InsR} {k : Nat} {x : InsR} (h : l[k]? = some x) : encUp l (k + 1) = encUp l k ++ oneV x := by
  obtain ⟨hk, rfl⟩ := List.getElem?_eq_some_iff.1 h
  unfold encUp bodyV
  rw [List.take_succ_eq_append_getElem hk, List.map_append, List.flatten_append]
  simp
theorem oneV_len (x : InsR) : (oneV x).length = 1 + (textL x).length := by
  unfold oneV
  rw [List.length_cons, strCells_length]
  show (textL x).length + 1 = _
  omega

theorem method_len {m : List UInt8} {A : List (List UInt8)} {g : List UInt8} (h : MethodOk m A g) : m.length ≤ 152 := by
  obtain ⟨rfl, hA, h5, hg⟩ := h
  have gen : ∀ A : List (List UInt8), (∀ t ∈ A, TypeOk t) → A.flatten.length ≤ 25 * A.length := by
    intro A
    induction A with
    | nil => simp
    | cons t A ih =>
      intro hA
      have h1 := (type_len (hA t (by simp))).2
      have h2 := ih (fun x hx => hA x (by simp [hx]))
      simp only [List.flatten_cons, List.length_append, List.length_cons]
      omega
  have h1 := gen A hA
  have h2 : g.length ≤ 25 := by
    rcases hg with rfl | hg
    · simp
    · exact (type_len hg).2
  simp only [List.length_cons, List.length_append]
  omega

theorem ty_len {x : InsR} (h : InsOk x) : x.ty.length ≤ 152 := by
  by_cases ht : 84 ∈ needL x.op.toNat
  · have hT := h.typed
    have hop : x.op = 2 ∨ x.op = 9 ∨ x.op = 10 ∨ x.op = 18 ∨ x.op = 20 ∨ x.op = 21 ∨ x.op = 22 ∨ x.op = 23 ∨ x.op = 24 ∨ x.op = 25 := by
      have h1 := h.lo
      have h2 := h.hi
      have key : ∀ i : Fin 29, 84 ∈ needL i.val → i.val = 2 ∨ i.val = 9 ∨ i.val = 10 ∨ i.val = 18 ∨ i.val = 20 ∨ i.val = 21 ∨ i.val = 22 ∨ i.val = 23 ∨ i.val = 24 ∨ i.val = 25 := by decide
      have := key ⟨x.op.toNat, by omega⟩ ht
      simp only at this
      omega
    unfold typedB at hT
    split at hT
    · simp only [numB, Bool.or_eq_true, beq_iff_eq] at hT
      rcases hT with e | e <;> rw [e] <;> decide
    split at hT
    · simp only [Bool.and_eq_true, decide_eq_true_eq] at hT
      have := (type_len hT.1).2; omega
    split at hT
    · simp only [Bool.and_eq_true, decide_eq_true_eq] at hT
      have := (type_len hT.1).2; omega
    split at hT
    · simp only [decide_eq_true_eq] at hT
      obtain ⟨A, g, hm⟩ := hT
      exact method_len hm
    · omega
  · rw [h.zt ht]; simp

theorem text_len {x : InsR} (h : InsOk x) (hx : IntOk x.a ∧ IntOk x.b) : (textL x).length ≤ 500 := by
  have hp : ∀ c ∈ needL x.op.toNat, (partL x c).length ≤ 152 := by
    intro c hc
    unfold partL
    split
    · have := itoa_length_le x.a hx.1.1 hx.1.2; omega
    split
    · have := itoa_length_le x.b hx.2.1 hx.2.2; omega
    split
    · exact ty_len h
    split
    · rename_i e; subst e; have := (name_len (h.cl hc)).2; omega
    · rename_i h1 h2 h3 h4
      have h5 := h.lo
      have h6 := h.hi
      have := needs_letters (n := x.op.toNat) (by omega) c hc
      have hc78 : c = 78 := by
        rcases this with e | e | e | e | e
        · exact absurd e h1
        · exact absurd e h2
        · exact absurd e h3
        · exact absurd e h4
        · exact e
      subst hc78
      have := (name_len (h.nm hc)).2; omega
  have h5 := h.lo
  have h6 := h.hi
  obtain ⟨w1, w2⟩ := word_len (n := x.op.toNat) (by omega)
  unfold textL
  rw [List.length_append]
  have gen : ∀ l : List UInt8, (∀ c ∈ l, (partL x c).length ≤ 152) → ((l.map (fun c => 32 :: partL x c)).flatten).length ≤ l.length * 153 := by
    intro l
    induction l with
    | nil => simp
    | cons c l ih =>
      intro hl
      have h1 := hl c (by simp)
      have h2 := ih (fun d hd => hl d (by simp [hd]))
      simp only [List.map_cons, List.flatten_cons, List.length_append, List.length_cons]
      omega
  have := gen _ hp
  omega

noncomputable def encErr (l : List InsR) : Int := if 40 < l.length then 4 else firstErr l

theorem rowByte : RowT Tryd.prog 56 5 1 1 := RowT.mk' (z := .int .u8 0) Tryd.underlying56 (by kernel_rfl) rfl (by decide)

theorem info_byte : (Tryd.prog.info? 5).map (fun i => (i.zero, i.size, i.bytes)) = some (some (.int .u8 0), 1, 1) := by kernel_rfl

theorem encode_full (a : Option Addr) (n cap : Nat) (w : World) (h : 40 < n) : Calls Tryd.prog 16 #[.slice a n cap] w fun e w' => e = .returned (.tuple #[.slice none 0 0, errV 4]) ∧ w = w' := by
  go_enter Tryd.func16, Tryd.ntmps16
  go_wp2_with fail
  go_ret2
  exact ⟨rfl, rfl⟩

/-- what Encode tells of at most 40 instructions -/
def EncAny (l : List InsR) (w : World) (e : Ending) (w' : World) : Prop :=
  Below w.heap.size w w' ∧ ((firstErr l ≠ 0 ∧ e = .returned (.tuple #[.slice none 0 0, errV (firstErr l)])) ∨
    (firstErr l = 0 ∧ ∃ v, e = .returned (.tuple #[v, .nilIface]) ∧ w'.ownsRow w.heap.size 5 1 v (encV l).length (encV l)))

set_option maxRecDepth 100000 in
set_option maxHeartbeats 2000000 in
theorem encode_any (l : List InsR) (a : Option Addr) (cap : Nat) (w : World) (hC : CodeAt w a cap l) (hF : FormsAt w) (hp : PowAt w) (hT : ∀ x ∈ l, x.ty.length ≤ 8388608) (hI : ∀ x ∈ l, IntOk x.a ∧ IntOk x.b) (hl : l.length ≤ 40) :
    Calls Tryd.prog 16 #[.slice a l.length cap] w fun e w' => EncAny l w e w' := by
  have HC := Lib.hid hC
  have HF := Lib.hid hF
  have HP := Lib.hid hp
  have HT := Lib.hid hT
  have HI := Lib.hid hI
  obtain ⟨i0, hi, hz0, hz1, hz2⟩ := info_parts info_byte
  clear hC hF hp hT hI
  go_enter Tryd.func16, Tryd.ntmps16
  go_wp2_with fail
  have h0 : (w.alloc (.cells #[.int .u8 (l.length : Int)] 5)).ownsRow w.heap.size 5 1 (.slice (some ⟨w.heap.size, 0, none⟩) 1 1) 1 (encUp l 0) := by
    have := World.ownsRow_lit (base := w.heap.size) (e := 5) (size := 1) w #[.int .u8 (l.length : Int)] 1 (Nat.le_refl _) (by unfold maxLen; omega) rfl
    exact this
  have H0 := Lib.hid h0
  clear h0
  go_loopw [4, 19] (fun v i wr => ∃ (k : Nat) (A : Option Addr) (C : Nat), k ≤ l.length ∧ i = .int .i64 k ∧ v = .slice A (encUp l k).length C ∧ wr.ownsRow w.heap.size 5 1 (.slice A (encUp l k).length C) (encUp l k).length (encUp l k) ∧ Below w.heap.size w wr ∧ (encUp l k).length ≤ 1 + k * 501 ∧ Hid (∀ y ∈ l.take k, insErr y = 0)) (fun _ i _ => l.length - (RowKit.intOf i).toNat)
  case atStart => exact ⟨0, some ⟨w.heap.size, 0, none⟩, 1, by omega, rfl, rfl, H0.out, (Below.refl _ _).alloc (Nat.le_refl _) _, by simp [encUp, bodyV], Lib.hid (by simp)⟩
  case round =>
    obtain ⟨k, A, C, hk, rfl, rfl, ho, hb, hle, hok⟩ := hrel
    have HO := Lib.hid ho
    have HB := Lib.hid hb
    have hsz := hb.size
    by_cases hlk : k < l.length
    · obtain ⟨x, hx⟩ : ∃ x, l[k]? = some x := ⟨_, List.getElem?_eq_getElem hlk⟩
      have hm := List.mem_of_getElem? hx
      have hcw := HC.out.below hb
      obtain ⟨b, off, rfl, hlt, c0, c1, c2, c3, c4, c5⟩ := hcw.cells hx
      have HX := Lib.hid (encUp_succ hx)
      have HFW := Lib.hid (HF.out.below hb)
      have HPW := Lib.hid (HP.out.below hb)
      by_cases he : insErr x = 0
      case neg =>
        have HE := Lib.hid (firstErr_at l k x hok.out hx he)
        have HTX := Lib.hid (fun w hF => text_bad x (HT.out x hm) w hF he)
        have HNE := Lib.hid he
        generalize insErr x = n at HE HTX HNE
        unfold insV at HTX
        clear hcw hx hm ho hb hok he
        go_wp2_with fail
        refine (HTX.out _ (HFW.out.below ((Below.refl _ _).alloc (Nat.le_refl _) _))).mono ?_
        rintro e w2 ⟨rfl, hb2⟩
        have HB2 := Lib.hid (bl_trans HB.out (new_below hb2))
        clear hb2
        go_wp2_with fail
        go_ret2
        exact ⟨HB2.out, Or.inl ⟨by rw [HE.out]; exact HNE.out, by rw [HE.out]; rfl⟩⟩
      have HZ := Lib.hid (take_all_succ hok.out hx he)
      have htl := text_len (insErr_ok he) (HI.out x hm)
      have HTX := Lib.hid (fun w hF hp => text_ok x (HT.out x hm) (HI.out x hm) w hF hp he)
      unfold insV at HTX
      clear hok he
      clear hcw hx hm ho hb
      generalize hN : (encUp l k).length = N at *
      go_wp2_with fail
      refine (HTX.out _ (HFW.out.below ((Below.refl _ _).alloc (Nat.le_refl _) _)) (HPW.out.below ((Below.refl _ _).alloc (Nat.le_refl _) _))).mono ?_
      rintro e w2 ⟨rfl, hb2⟩
      have hb3 := new_below hb2
      have HB2 := Lib.hid (bl_trans HB.out hb3)
      have HO2 := Lib.hid (own_below HO.out hb3)
      have hsz2 := HB2.out.size
      clear hb2 hb3
      go_wp2_with (at_builtin; refine wpList_append_one rowByte rfl _ _ rfl w.heap.size _ N (encUp l k) rfl ?c0 [.int .u8 (IntKind.u8.wrap ((textL x).length : Int))] rfl ?c1 _ rfl ?cg ?c2 ?c3 ?c4 ?_)
      case c0 => exact HO2.out
      case c1 => intro u hu; simp only [List.mem_singleton] at hu; rw [hu]; rfl
      case cg => rfl
      case c2 => omega
      case c3 => omega
      case c4 => exact hsz2
      intro v4 w4 ho4 hg4
      have hb4 := grown_below hsz2 HO2.out hg4
      have HB4 := Lib.hid (HB2.out.trans hb4)
      have hsz4 := HB4.out.size
      have HO4 := Lib.hid ho4
      have hts : (⟨⟨textL x⟩⟩ : ByteArray).size = (textL x).length := rfl
      clear ho4 hg4 hb4
      go_wp2_with (at_builtin; (refine wpList_append_own_string _ rfl _ _ 56 9 rfl w.heap.size 5 i0 Tryd.underlying56 Tryd.underlying9 hi hz0 hz1 hz2 _ (N + 1) (encUp l k ++ [.int .u8 (IntKind.u8.wrap ((textL x).length : Int))]) rfl ?d0 ⟨⟨textL x⟩⟩ rfl ?d1 ?d2 ?d3 ?_))
      case d0 => exact HO4.out
      case d1 => rw [hts]; unfold maxLen; omega
      case d2 => rw [hts]; omega
      case d3 => exact hsz4
      intro v5 w5 ho5 hg5 _
      have HB5 := Lib.hid (HB4.out.grown hg5 hsz4 (fun k hk => (HO4.out.lt k hk).1))
      have hlen : (encUp l (k + 1)).length = N + 1 + (textL x).length := by rw [HX.out, List.length_append, oneV_len, hN]; omega
      have ho6 : w5.ownsRow w.heap.size 5 1 v5 (encUp l (k + 1)).length (encUp l (k + 1)) := by
        rw [hlen, HX.out]
        first
          | exact ho5
          | (rw [List.append_assoc] at ho5; exact ho5)
      obtain ⟨A4, C4, rfl, _⟩ := slice_of_own ho6
      have HO6 := Lib.hid ho6
      have HLEN := Lib.hid hlen
      clear ho5 hg5 ho6 hlen
      go_wp2_with fail
      go_roundw
      case rel => exact ⟨k + 1, A4, C4, by omega, by go_num, rfl, HO6.out, HB5.out, by rw [HLEN.out]; omega, HZ⟩
      case measure => simp [RowKit.intOf]; omega
    · obtain rfl : k = l.length := by omega
      have HO2 := Lib.hid (show wr.ownsRow w.heap.size 5 1 (.slice A (encUp l l.length).length C) (encV l).length (encV l) by rw [← encUp_all]; exact ho)
      have hz := hok.out
      rw [List.take_length] at hz
      have HZ := Lib.hid ((firstErr_zero l).2 hz)
      clear ho hb hok hz
      go_wp2_with fail
      go_ret2
      exact ⟨HB.out, Or.inr ⟨HZ.out, _, rfl, HO2.out⟩⟩

end Go.Proofs.YtlcpghblfpakjaaDoor
