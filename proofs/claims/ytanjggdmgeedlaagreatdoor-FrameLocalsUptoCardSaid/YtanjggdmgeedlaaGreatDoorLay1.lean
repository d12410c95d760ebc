/-
  The walks of find.FieldOf, find.Field.
-/
import Derived.Test.YtanjggdmgeedlaaGreatDoorWBase
import Derived.Test.YtanjggdmgeedlaaGreatDoorFind1
import Derived.Test.YtanjggdmgeedlaaGreatDoorPSlots
namespace Go.Proofs.YtanjggdmgeedlaaGreatDoor
set_option linter.unusedVariables false
set_option linter.unusedSimpArgs false
open Go.RowKit Go.Shelf Go.Lib

def zeroF : FieldR := ⟨[], []⟩
def fArr (f : FieldR) : Array Value := #[.string ⟨⟨f.nm⟩⟩, .string ⟨⟨f.ty⟩⟩]
theorem fArr_one (f : FieldR) : (fArr f).all (·.oneCell') = true := by simp [fArr, Value.oneCell']
theorem info_field : (Tryz.prog.info? 173).map (·.size) = some 2 := by kernel_rfl
theorem fld_at {L : List CP} (n x : Nm) : fldAt (CL L) n x = ((curP L x).1.fields.find? (fHit n)).map fun f => (x, f) := by
  unfold fldAt
  rw [cur_is]
  cases look (CL L) x with
  | none => rfl
  | some c => rfl

/-- what FieldOf gives -/
def FofRes (r : Option (Nm × FieldR)) (w : World) (e : Ending) (w' : World) : Prop :=
  Below w.heap.size w w' ∧ ((r = none ∧ e = .returned (.tuple #[.string ⟨#[]⟩, fieldV zeroF, .bool false])) ∨
    ∃ x f, r = some (x, f) ∧ e = .returned (.tuple #[.string ⟨⟨x⟩⟩, fieldV f, .bool true]))

set_option maxRecDepth 100000 in
set_option maxHeartbeats 4000000 in
theorem fof_calls (l : List ClassR) (L : List CP) (b : Nat) (c n : Nm) (w : World) (hW : WOk w b l L) (hc : c.length ≤ 1048576) :
    Calls Tryz.prog 159 #[.map (some b), .string ⟨⟨c⟩⟩, .string ⟨⟨n⟩⟩] w (FofRes (fieldOf (wl l) c n) w) := by
  have HW := Lib.hid hW
  have hcl := Lib.hid hW.cl
  have hg := Lib.hid hW.good
  have hml : (1048576 : Nat) ≤ maxLen := by unfold maxLen; omega
  have hl13 := line_len13 hg.out c
  have HLE := Lib.hid (fun x (h : x ∈ line (wl l) c) => show x.length ≤ 1048576 by
    rcases rc_names hg.out.join ((line_rs hg.out _ _).1 h).rc with e | e
    · rw [e]; exact hc
    · have := good_names20 hg.out e; omega)
  have HFO := Lib.hid (show fieldOf (wl l) c n = (line (wl l) c).findSome? (fldAt (wl l) n) from rfl)
  clear hW
  go_enter Tryz.func159, Tryz.ntmps159
  go_wp2_with fail
  refine (line_w (HW.out.below ((Below.refl _ _).alloc (Nat.le_refl _) _)) c hc).mono ?_
  rintro e w2 ⟨⟨v, rfl, ho⟩, hb2⟩
  obtain ⟨A2, C2, rfl, hr2⟩ := srow_of_own ho
  have HR2 := Lib.hid hr2
  have HB2 := Lib.hid (bl_trans ((Below.refl _ _).alloc (Nat.le_refl _) _) hb2)
  have HW2 := Lib.hid (HW.out.below HB2.out)
  have HZ2 := Lib.hid (show Blk w2 w.heap.size 173 (fArr zeroF) from (blk_new w w.heap.size 173 (fArr zeroF) rfl).below hb2)
  have hs2 := HB2.out.size
  have hz2 := HZ2.out.lt
  clear ho hr2 hb2
  generalize line (wl l) c = ln at *
  go_wp2_with fail
  go_loopw [17] (fun i wr => ∃ j : Nat, j ≤ ln.length ∧ i = .int .i64 j ∧ Below w2.heap.size w2 wr ∧ Hid (∀ x ∈ ln.take j, fldAt (wl l) n x = none)) (fun i _ => ln.length - (RowKit.intOf i).toNat)
  case atStart => exact ⟨0, by omega, rfl, Below.refl _ _, Lib.hid (by simp)⟩
  case round =>
    obtain ⟨j, hj, rfl, hb, HA⟩ := hrel
    have HB := Lib.hid hb
    have hsz := hb.size
    by_cases hlk : j < ln.length
    · obtain ⟨x, hx⟩ : ∃ x, ln[j]? = some x := ⟨_, List.getElem?_eq_getElem hlk⟩
      obtain ⟨b1, off, rfl, hlt, c0⟩ := strs_cell (HR2.out.below hb) hx
      have hxl := HLE.out x (List.mem_of_getElem? hx)
      have hlkx := cur_look (n := x) (HW2.out.below hb).at_ (Nat.le_trans hxl hml)
      have hmb := (cur_bounds HW.out x).2.2.2.1
      have HX := Lib.hid hx
      have HCA := Lib.hid (cur_at HW2.out.at_ x).2.1
      have HFA := Lib.hid (fld_at (L := L) n x)
      rw [hcl.out] at HFA
      clear hb hx
      generalize curP L x = cx at *
      obtain ⟨cc, ⟨fa, fc, ga, gc, ma, mc, pms⟩⟩ := cx
      dsimp only at *
      obtain ⟨w3, hw3⟩ : ∃ w3, w3 = wr := ⟨wr, rfl⟩
      subst hw3
      go_wp2_with fail
      go_loopw [26] (fun i wr => ∃ k : Nat, k ≤ cc.fields.length ∧ i = .int .i64 k ∧ Below w2.heap.size w2 wr ∧ Hid (∀ f ∈ cc.fields.take k, fHit n f = false)) (fun i _ => cc.fields.length - (RowKit.intOf i).toNat)
      case atStart => exact ⟨0, by omega, rfl, HB.out, Lib.hid (by simp)⟩
      case round =>
        obtain ⟨k, hk, rfl, hb, HZ⟩ := hrel
        have HBQ := Lib.hid hb
        have hsq := hb.size
        by_cases hkm : k < cc.fields.length
        · obtain ⟨f, hf⟩ : ∃ f, cc.fields[k]? = some f := ⟨_, List.getElem?_eq_getElem hkm⟩
          obtain ⟨b3, off3, hga, hlt3, c1, c2⟩ := (HCA.out.below hb).cells hf
          subst hga
          have HF := Lib.hid hf
          clear hb hf
          cases h1 : f.nm == n with
          | false =>
            have HZ2' := Lib.hid (take_all_succ (P := fun f => fHit n f = false) HZ.out HF.out (by unfold fHit; exact h1))
            go_wp2_with fail
            go_roundw
            case rel => exact ⟨k + 1, by omega, by go_num, HBQ.out.alloc hsq _, HZ2'⟩
            case measure => simp [RowKit.intOf]; omega
          | true =>
            have HH := Lib.hid (show (ln.findSome? (fldAt (wl l) n)) = some (x, f) from some_at HA.out HX.out (by rw [HFA.out, find_at HZ.out HF.out (by unfold fHit; exact h1)]; rfl))
            have HZ6 := Lib.hid (HZ2.out.below HBQ.out)
            have e1 := eq_of_beq h1
            clear h1
            subst e1
            go_wp2_with fail
            refine wp_tail 3 (by kernel_rfl) (by kernel_rfl) ?_
            simp only [List.take_succ_cons, List.take_zero, List.drop_succ_cons, List.drop_zero]
            repeat still_step
            refine wpStill_nil ?_
            go_wp2_with (refine wpList_store_blk (x := .tmp 7) (y := .tmp 35) (ty := 173) (g := w.heap.size) (cells := fArr f) (by rfl) (by rfl) (by rfl) (by rfl) (HZ6.out.below ((Below.refl _ _).alloc (Nat.le_refl _) _)).drew info_field rfl (fArr_one f) ?_)
            intro W2 hbk hgr
            have d0 : W2.cell? ⟨w.heap.size, 0, none⟩ = some (.string ⟨⟨f.nm⟩⟩) := hbk.cell 0
            have d1 : W2.cell? ⟨w.heap.size, 1, none⟩ = some (.string ⟨⟨f.ty⟩⟩) := hbk.cell 1
            have HB9 := Lib.hid (below_grown (HB2.out.trans ((HBQ.out.alloc hsq _).drew.mono hs2)) hgr (Nat.le_refl _) (by simp; omega))
            clear hbk hgr
            go_wp2_with fail
            exact bodyPost_ret (v := .tuple #[.string ⟨⟨x⟩⟩, fieldV f, .bool true]) (by simp [results, Tryz.results159, go_sem, d0, d1, fieldV]) rfl ⟨HB9.out, Or.inr ⟨x, f, by rw [HFO.out]; exact HH.out, rfl⟩⟩
        · obtain rfl : k = cc.fields.length := by omega
          have HA2 := Lib.hid (take_all_succ (P := fun x => fldAt (wl l) n x = none) HA.out HX.out (by rw [HFA.out, find_none (by have := HZ.out; rwa [List.take_length] at this)]; rfl))
          clear hb
          go_wp2_with fail
          go_roundw
          case rel => exact ⟨j + 1, by omega, by go_num, HBQ.out, HA2⟩
          case measure => simp [RowKit.intOf]; omega
    · obtain rfl : j = ln.length := by omega
      have HH := Lib.hid (show (ln.findSome? (fldAt (wl l) n)) = none from none_all (by have := HA.out; rwa [List.take_length] at this))
      have HZ6 := Lib.hid (HZ2.out.below HB.out)
      clear hb
      go_wp2_with (refine wpList_store_blk (x := .tmp 7) (y := .tmp 38) (ty := 173) (g := w.heap.size) (cells := fArr zeroF) (by rfl) (by rfl) (by rfl) (by rfl) HZ6.out info_field rfl (fArr_one zeroF) ?_)
      intro W2 hbk hgr
      have d0 : W2.cell? ⟨w.heap.size, 0, none⟩ = some (.string ⟨#[]⟩) := hbk.cell 0
      have d1 : W2.cell? ⟨w.heap.size, 1, none⟩ = some (.string ⟨#[]⟩) := hbk.cell 1
      have HB9 := Lib.hid (below_grown (HB2.out.trans (HB.out.mono hs2)) hgr (Nat.le_refl _) (by omega))
      clear hbk hgr
      go_wp2_with fail
      exact bodyPost_ret (v := .tuple #[.string ⟨#[]⟩, fieldV zeroF, .bool false]) (by simp [results, Tryz.results159, go_sem, d0, d1, fieldV, zeroF]) rfl ⟨HB9.out, Or.inl ⟨by rw [HFO.out]; exact HH.out, rfl⟩⟩

end Go.Proofs.YtanjggdmgeedlaaGreatDoor
