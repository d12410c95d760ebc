/-
  CatchNone: the walk of the law.
-/
import Derived.Test.YtokomofjcnefaaaDoorWorld6
import Derived.Test.YtokomofjcnefaaaDoorFrame
namespace Go.Proofs.YtokomofjcnefaaaDoor
set_option linter.unusedVariables false
set_option linter.unusedSimpArgs false
open Go.RowKit Go.Shelf Go.Lib

set_option maxRecDepth 100000 in
set_option maxHeartbeats 2000000 in
theorem first_none (l : List ClassR) (ps : List CAddr) (b : Nat) (m : MethR) (p : MAddr) (at_ : Int) (n : Nm) (w : World) (hg : Good l) (hps : ps.length = l.length) (hB : ClsOk l) (hW : WorldAt w b (wcp l ps)) (hM : MethAt w m p) (hat : ∀ h ∈ m.hs, h.hi ≤ at_) (hn : n.length ≤ 1048576) (hhl : m.hs.length ≤ 100000000) :
    Calls Tryd.prog 20 #[.map (some b), methV m p, .int .i64 at_, .string ⟨⟨n⟩⟩] w fun e w' => e = .returned (.tuple #[.int .i64 (-1), .bool true]) ∧ Below w.heap.size w w' := by
  have HE := Lib.hid (fun W hW' => every_calls (wcp l ps) (n :: names l) b n W hW' (by rw [cl_wcp hps]; exact closed_names hg.join n) (by simp) (by have := good_names hg; simp; omega) (fun x hx => by
      rcases List.mem_cons.1 hx with e | e
      · rw [e]; exact hn
      · exact names_le hB _ e) (cp_faces hB))
  have HX := Lib.hid (mbox_new w m p)
  have HW := Lib.hid hW
  have HM := Lib.hid hM
  have HAT := Lib.hid hat
  clear hg hps hB hW hM hat
  unfold methV
  go_enter Tryd.func20, Tryd.ntmps20
  go_wp2_with fail
  refine (HE.out _ (HW.out.below ((Below.refl _ _).alloc (Nat.le_refl _) _))).mono ?_
  rintro e w1 ⟨⟨v1, rfl, _⟩, hb1⟩
  have HB1 := Lib.hid (new_below hb1)
  have HX1 := Lib.hid (HX.out.below hb1)
  obtain ⟨hg, c0, c1, c2, c3, c4, c5, c6, c7⟩ := HX1.out
  clear hb1 HE HX c0 c1 c2 c3 c4 c5 c6
  go_wp2_with fail
  clear hg c7
  go_loopw [21] (fun i wr => ∃ k : Nat, k ≤ m.hs.length ∧ i = .int .i64 k ∧ Below w.heap.size w wr ∧ MBox wr w.heap.size m p) (fun i _ => m.hs.length - (RowKit.intOf i).toNat)
  case atStart => exact ⟨0, by omega, rfl, HB1.out, HX1.out⟩
  case round =>
    obtain ⟨k, hk, rfl, hb, hbx⟩ := hrel
    have HB := Lib.hid hb
    have HBX := Lib.hid hbx
    have hsz := hb.size
    by_cases hlk : k < m.hs.length
    · obtain ⟨h, hx⟩ : ∃ h, m.hs[k]? = some h := ⟨_, List.getElem?_eq_getElem hlk⟩
      obtain ⟨b1, off, hpa, hlt, d0, d1, d2, d3⟩ := (HM.out.2.below hb).cells hx
      have hhi := HAT.out h (List.mem_of_getElem? hx)
      rw [hpa] at *
      clear hx hb hbx
      by_cases hlo : at_ < h.lo
      all_goals
        go_wp2_with fail
        go_roundw
        case rel => exact ⟨k + 1, by omega, by go_num, HB.out.alloc hsz _, HBX.out.below ((Below.refl _ _).alloc (Nat.le_refl _) _)⟩
        case measure => simp [RowKit.intOf]; omega
    · obtain rfl : k = m.hs.length := by omega
      clear hb hbx hlk
      go_wp2_with fail
      go_ret2
      exact ⟨rfl, HB.out⟩

def WhichRes (w : World) (e : Ending) (w' : World) : Prop := Below w.heap.size w w' ∧ ((∃ z : Int, e = .returned (.tuple #[.int .i64 0, errV z])) ∨ e = .returned (.tuple #[.int .i64 (-1), .nilIface]))

set_option maxRecDepth 100000 in
set_option maxHeartbeats 2000000 in
theorem which_none (l : List ClassR) (ps : List CAddr) (a : Option Addr) (cap : Nat) (m : MethR) (p : MAddr) (at_ : Int) (n : Nm) (w : World) (hC : ClassesAt w a cap l ps) (hF : FormsAt w) (hB : ClsOk l) (hM : MethAt w m p) (hat : ∀ h ∈ m.hs, h.hi ≤ at_) (hn : n.length ≤ 1048576) (hhl : m.hs.length ≤ 100000000) :
    Calls Tryd.prog 13 #[.slice a l.length cap, methV m p, .int .i64 at_, .string ⟨⟨n⟩⟩] w (WhichRes w) := by
  have HR := Lib.hid (fun w h1 h2 => read_calls l ps a cap w h1 h2 hB)
  have HC := Lib.hid hC
  have HF := Lib.hid hF
  have HM := Lib.hid hM
  have HB := Lib.hid hB
  have HX := Lib.hid (mbox_new w m p)
  have HFI := Lib.hid (fun b W h1 h2 h3 => first_none l ps b m p at_ n W h1 hC.1 hB h2 h3 hat hn hhl)
  have hml : n.length ≤ maxLen := by unfold maxLen; omega
  clear hC hF hM hB hat
  unfold methV at HFI
  unfold methV
  go_enter Tryd.func13, Tryd.ntmps13
  go_wp2_with fail
  refine (HR.out _ (HC.out.below ((Below.refl _ _).alloc (Nat.le_refl _) _)) (HF.out.below ((Below.refl _ _).alloc (Nat.le_refl _) _))).mono ?_
  rintro e w2 ⟨hb2, ⟨hne, rfl⟩ | ⟨hg, b, rfl, hwb, hw⟩⟩
  · have HB2 := Lib.hid (new_below hb2)
    clear hb2
    generalize readErr l = z at *
    clear hne
    go_wp2_with fail
    go_ret2
    exact ⟨HB2.out, Or.inl ⟨z, rfl⟩⟩
  · have HB2 := Lib.hid (new_below hb2)
    have HX2 := Lib.hid (HX.out.below hb2)
    have HW := Lib.hid hw
    have HG := Lib.hid hg
    have hz := HB2.out.size
    obtain ⟨hg', c0, c1, c2, c3, c4, c5, c6, c7⟩ := HX2.out
    clear hb2 hw hg HX
    by_cases h8 : 8 < m.hs.length
    · go_wp2_with fail
      go_ret2
      exact ⟨HB2.out, Or.inl ⟨4, rfl⟩⟩
    · cases hf : cpFind (wcp l ps) n with
      | none =>
        have hlk := wlook_none HW.out hml hf true
        simp only [if_true] at hlk
        unfold zeroC at hlk
        clear hf
        go_wp2_with fail
        go_ret2
        exact ⟨HB2.out.alloc hz _, Or.inl ⟨3, rfl⟩⟩
      | some cp =>
        have hlk := wlook_some HW.out hml hf true
        simp only [if_true] at hlk
        unfold classV at hlk
        have HMD := Lib.hid (fun o => HM.out.below (HB2.out.alloc hz o))
        clear hf
        go_wp2_with fail
        refine (HFI.out b _ HG.out (HW.out.below ((Below.refl _ _).alloc (Nat.le_refl _) _)) (HMD.out _)).mono ?_
        rintro e w3 ⟨rfl, hb3⟩
        have HB3 := Lib.hid (bl_trans (HB2.out.alloc hz _) hb3)
        clear hb3
        go_wp2_with fail
        go_ret2
        exact ⟨HB3.out, Or.inr rfl⟩

def zeroM : MethR := ⟨[], [], false, false, false, 0, [], []⟩
def nilM : MAddr := ⟨none, 0, none, 0⟩

set_option maxRecDepth 100000 in
set_option maxHeartbeats 2000000 in
theorem catchNone_go (l : List ClassR) (ps : List CAddr) (a : Option Addr) (cap : Nat) (m : MethR) (p : MAddr) (n : Nm) (w : World) (hC : ClassesAt w a cap l ps) (hF : FormsAt w) (hB : ClsOk l) (hM : MethAt w m p) (hn : n.length ≤ 1048576) (hhl : m.hs.length ≤ 100000000) :
    Calls Tryd.prog 5 #[.slice a l.length cap, methV m p, .string ⟨⟨n⟩⟩] w fun e w' => e = .returned (.bool true) ∧ Below w.heap.size w w' := by
  have HWH := Lib.hid (fun at_ W h1 h2 h3 hat => which_none l ps a cap m p at_ n W h1 h2 hB h3 hat hn hhl)
  have HWZ := Lib.hid (fun W h1 h2 => which_none l ps a cap zeroM nilM 0 n W h1 h2 hB ⟨⟨Nat.le_refl _, Or.inl rfl⟩, ⟨Nat.le_refl _, Or.inl rfl⟩⟩ (by simp [zeroM]) hn (by simp [zeroM]))
  have HC := Lib.hid hC
  have HF := Lib.hid hF
  have HM := Lib.hid hM
  have HX := Lib.hid (mbox_new w m p)
  clear hC hF hM hB
  unfold methV at HWH HWZ
  unfold methV
  go_enter Tryd.func5, Tryd.ntmps5
  go_wp2_with fail
  refine (named_true _).mono ?_
  rintro e w1 ⟨rfl, hb1⟩
  have HB1 := Lib.hid (new_below hb1)
  have HX1 := Lib.hid (HX.out.below hb1)
  clear hb1 HX
  go_wp2_with fail
  go_loopw [8, 9] (fun s i wr => ∃ (k : Nat) (most : Int), k ≤ m.hs.length ∧ i = .int .i64 k ∧ s = .int .i64 most ∧ wr = w1 ∧ Hid (∀ h ∈ m.hs.take k, h.hi ≤ most)) (fun _ i _ => m.hs.length - (RowKit.intOf i).toNat)
  case atStart => exact ⟨0, 0, by omega, rfl, rfl, rfl, Lib.hid (by simp)⟩
  case round =>
    obtain ⟨k, most, hk, rfl, rfl, rfl, HZ⟩ := hrel
    obtain ⟨hg', c0, c1, c2, c3, c4, c5, c6, c7⟩ := HX1.out
    by_cases hlk : k < m.hs.length
    · obtain ⟨h, hx⟩ : ∃ h, m.hs[k]? = some h := ⟨_, List.getElem?_eq_getElem hlk⟩
      obtain ⟨b1, off, hpa, hlt, d0, d1, d2, d3⟩ := (HM.out.2.below HB1.out).cells hx
      have HX := Lib.hid hx
      rw [hpa] at c7
      rw [hpa]
      clear hx c0 c1 c2 c3 c4 c5 c6 hpa
      by_cases hlo : most < h.hi
      · have HZ2 := Lib.hid (take_all_succ (P := fun y => y.hi ≤ h.hi) (fun y hy => Int.le_trans (HZ.out y hy) (by omega)) HX.out (Int.le_refl _))
        go_wp2_with fail
        go_roundw
        case rel => exact ⟨k + 1, h.hi, by omega, by go_num, rfl, trivial, HZ2⟩
        case measure => simp [RowKit.intOf]; omega
      · have HZ2 := Lib.hid (take_all_succ (P := fun y => y.hi ≤ most) HZ.out HX.out (by omega))
        go_wp2_with fail
        go_roundw
        case rel => exact ⟨k + 1, most, by omega, by go_num, rfl, trivial, HZ2⟩
        case measure => simp [RowKit.intOf]; omega
    · obtain rfl : k = m.hs.length := by omega
      have hat := HZ.out
      rw [List.take_length] at hat
      have HAT := Lib.hid hat
      clear hat hlk
      go_wp2_with fail
      refine (HWH.out most _ (HC.out.below HB1.out) (HF.out.below HB1.out) (HM.out.below HB1.out) HAT.out).mono ?_
      rintro e w2 ⟨hb2, ⟨z, rfl⟩ | rfl⟩
      all_goals
        have HB2 := Lib.hid (bl_trans HB1.out hb2)
        clear hb2
        go_wp2_with fail
        refine (HWZ.out _ (HC.out.below HB2.out) (HF.out.below HB2.out)).mono ?_
        rintro e w3 ⟨hb3, ⟨z3, rfl⟩ | rfl⟩
        all_goals
          have HB3 := Lib.hid (bl_trans HB2.out hb3)
          clear hb3
          go_wp2_with fail
          go_ret
          exact ⟨rfl, HB3.out⟩

set_option maxRecDepth 10000 in
/-- a method by value -/
theorem open_methV {H : Type} {enc : TypeId × Value → H} {W : World} {r : Reach} {base : Nat} {v : Value} {d : DataW H} {p : List MemPlace} (hv : Value.okWide Tryd.prog W r base 43 v) (h : DataW.Trod enc Tryd.prog W 0 (fun _ => true) true 43 v d p) : ∃ m q, v = methV m q ∧ MethAt W m q ∧ (Rows.uptoBulk d ≤ 1048576 → MethB m ∧ MethI m) := by
  obtain ⟨cs, rfl, hsz⟩ := WideShapes.okWide_struct Tryd.underlying43 hv
  obtain ⟨l⟩ := cs
  obtain ⟨fuel, hf⟩ := h
  have hf' : DataW.trod enc Tryd.prog W 0 (fun _ => true) true fuel 43 l = some (d, p) := hf
  have hl : l.length = 8 := by rw [← cells_Method]; exact hsz
  obtain ⟨⟨m, q⟩, hc, h1, h2⟩ := open_meth hf' hl
  subst hc
  exact ⟨m, q, rfl, h1, h2⟩

set_option maxRecDepth 100000 in
theorem catchNone.walk {H : Type} {enc : TypeId × Value → H} {W : World} {base : Nat} {v0 : Value} {d0 : DataW H} {p0 : List MemPlace} (hv0 : Value.okWide Tryd.prog W .any base 22 v0) (h0 : DataW.Trod enc Tryd.prog W 0 (fun _ => true) true 22 v0 d0 p0)
    {v1 : Value} {d1 : DataW H} {p1 : List MemPlace} (hv1 : Value.okWide Tryd.prog W .any base 43 v1) (h1 : DataW.Trod enc Tryd.prog W 0 (fun _ => true) true 43 v1 d1 p1)
    (s2 : ByteArray) (hs2 : s2.size ≤ maxLen) (hr2 : s2.data.toList.length ≤ reachBytes)
    (W' : World) (hW : W' = W) (hL : laidMetH Tryd.prog Rows.catchNoneUptoRow.laid W) {S : Prop} (_ : S) (hbulk : Rows.uptoBulkAll [d0, d1, DataW.lit (.string s2.data.toList)] ≤ 1048576) :
    Calls Tryd.prog 5 #[v0, v1, .string s2] W' fun e w' => e = .returned (.bool true) ∧ Below W'.heap.size W' w' := by
  subst hW
  obtain ⟨⟨n⟩⟩ := s2
  obtain ⟨a0, len, cap0, rfl⟩ := WideShapes.okWide_slice Tryd.underlying22 hv0
  obtain ⟨fuel, hf⟩ := h0
  obtain ⟨a, cap, l, ps, hcs, hC, hll, ht⟩ := open_classes hf
  simp only [Value.cells, List.cons.injEq, and_true] at hcs
  rw [hcs]
  obtain ⟨m, q, rfl, hM, hMB⟩ := open_methV hv1 h1
  simp only [Rows.uptoBulkAll, Rows.uptoBulk] at hbulk
  exact catchNone_go l ps a cap m q n W' hC (forms_of_laid hL (by kernel_rfl)) (ht (by omega)) hM (by omega) (hMB (by omega)).1.hs
end Go.Proofs.YtokomofjcnefaaaDoor
