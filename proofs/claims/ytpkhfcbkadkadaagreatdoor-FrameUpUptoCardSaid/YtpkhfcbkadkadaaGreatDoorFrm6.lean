/-
  The walk of frame.Below at a frame above; arguments: frames.
-/
import Derived.Test.YtpkhfcbkadkadaaGreatDoorFrm4
import Derived.Test.YtpkhfcbkadkadaaGreatDoorFrm5
import Derived.Test.YtpkhfcbkadkadaaGreatDoorOpens
namespace Go.Proofs.YtpkhfcbkadkadaaGreatDoor
set_option linter.unusedVariables false
set_option linter.unusedSimpArgs false
open Go.RowKit Go.Shelf Go.Lib

set_option maxRecDepth 100000 in
set_option maxHeartbeats 2000000 in
theorem below_calls (l : List ClassR) (ps : List CAddr) (a : Option Addr) (cap : Nat) (fa fb : FrR) (pa pb : FAddr) (w : World) (hC : ClassesAt w a cap l ps) (hF : FormsAt w) (hB : ClsOk l) (hfa : FrAt w fa pa) (hfb : FrAt w fb pb) (hba : FrB fa) (hbb : FrB fb)
    (h0 : fjErr l fa fb = 0) (hj : joinF (wl l) fa fb = fb) :
    Calls Tryz.prog 25 #[.slice a l.length cap, frV fa pa, frV fb pb] w fun e w' => e = .returned (.tuple #[.bool true, .nilIface]) ∧ Below w.heap.size w w' := by
  have HBB := Lib.hid (fun o1 o2 => bl_alloc (bl_alloc (Below.refl w.heap.size w) o1) o2)
  have HJ := Lib.hid (fun W (hW : Below w.heap.size w W) => fjoin_calls l ps a cap fa fb pa pb W (hC.below hW) (hF.below hW) hB (hfa.below hW) (hfb.below hW) hba hbb)
  obtain ⟨_, _, hc, _⟩ := fj_zero.1 h0
  obtain ⟨⟨n1, n2⟩, _⟩ := chk_zero.1 hc
  have HSA := Lib.hid (fun p W (hp : FrAt W fb p) (hW : Below w.heap.size w W) => same_calls fb p pb W hp (hfb.below hW) (by omega) (by omega))
  unfold FJRes at HJ
  rw [h0, hj] at HJ
  clear hC hF hB hfa hfb hba hbb h0 hj hc
  unfold frV at *
  have HD1 := Lib.hid (blk_new (w.alloc (.cells #[.slice pa.la fa.loc.length pa.lc, .slice pa.sa fa.st.length pa.sc] 65)) (w.heap.size + 1) 65 #[.slice pb.la fb.loc.length pb.lc, .slice pb.sa fb.st.length pb.sc] (by simp))
  go_enter Tryz.func25, Tryz.ntmps25
  go_wp2_with fail
  refine (HJ.out _ (HBB.out _ _)).mono ?_
  rintro e w2 ⟨hb2, ⟨hne, _⟩ | ⟨_, p, rfl, hf⟩⟩
  · exact absurd rfl hne
  have HB2 := Lib.hid (bl_trans (HBB.out _ _) hb2)
  have HF2 := Lib.hid hf
  have e0 := (HD1.out.below hb2).cell 0
  have e1 := (HD1.out.below hb2).cell 1
  have e2 := (HD1.out.below hb2).lt
  clear hb2 hf
  go_wp2_with fail
  have hb3 := (Below.refl w2.heap.size w2).alloc (Nat.le_refl _) (.cells #[.slice p.la fb.loc.length p.lc, .slice p.sa fb.st.length p.sc] 65)
  refine (HSA.out p _ (HF2.out.below hb3) (bl_trans HB2.out hb3)).mono ?_
  rintro e w4 ⟨rfl, hb4⟩
  have HB4 := Lib.hid (bl_trans (bl_trans HB2.out hb3) hb4)
  clear hb3 hb4
  go_wp2_with fail
  go_ret2
  exact ⟨rfl, HB4.out⟩

section
open Go.ChangeShapes Go.WideShapes Go.Deep
variable {H : Type} {enc : TypeId × Value → H} {W : World}
theorem cells_Frame : Tryz.prog.cellsOf 65 = 2 := by kernel_rfl
set_option maxRecDepth 10000 in
theorem open_frameV {r : Reach} {base : Nat} {v : Value} {d : DataW H} {p : List MemPlace} (hv : Value.okWide Tryz.prog W r base 65 v) (h : DataW.Trod enc Tryz.prog W 0 (fun _ => true) true 65 v d p) :
    ∃ f q, v = frV f q ∧ FrAt W f q ∧ (Rows.uptoBulk d ≤ 1048576 → FrB f) := by
  obtain ⟨cs, rfl, hsz⟩ := okWide_struct Tryz.underlying65 hv
  obtain ⟨l⟩ := cs
  obtain ⟨fuel, hf⟩ := h
  have hf' : DataW.trod enc Tryz.prog W 0 (fun _ => true) true fuel 65 l = some (d, p) := hf
  have hl : l.length = 2 := by rw [← cells_Frame]; exact hsz
  obtain ⟨ys, n, _, hx, _, hyl, hff⟩ := DataW.trod_struct Tryz.underlying65 hf'
  clear hf hf'
  simp only [Prod.mk.injEq] at hx
  obtain ⟨rfl, _⟩ := hx
  obtain ⟨c0, c1, rfl⟩ := list2 hl
  obtain ⟨y0, _, m0, h0⟩ := field_one hyl hff 0 _ rfl rfl cells_strs c0 rfl
  obtain ⟨y1, _, m1, h1⟩ := field_one hyl hff 1 _ rfl rfl cells_strs c1 rfl
  obtain ⟨a0, k0, l0, e0, s0, _, b0⟩ := open_strs h0
  obtain ⟨a1, k1, l1, e1, s1, _, b1⟩ := open_strs h1
  simp only [List.cons.injEq, and_true] at e0 e1
  subst e0
  subst e1
  have g0 := bulk_agg m0
  have g1 := bulk_agg m1
  refine ⟨⟨l0, l1⟩, ⟨a0, k0, a1, k1⟩, rfl, ⟨s0, s1⟩, fun hb x hx => ?_⟩
  rcases List.mem_append.1 hx with h | h
  · have := b0 x h; omega
  · have := b1 x h; omega
end
end Go.Proofs.YtpkhfcbkadkadaaGreatDoor
