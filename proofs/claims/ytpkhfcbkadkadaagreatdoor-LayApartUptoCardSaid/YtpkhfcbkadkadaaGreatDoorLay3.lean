/-
  The walks of slices.Index at fields, lay.At, Fields, Place.
-/
import Derived.Test.YtpkhfcbkadkadaaGreatDoorLay2
import Derived.Laws.StructEq
import Derived.Deep.QuietTactic
import Derived.BigQuiet
namespace Go.Proofs.YtpkhfcbkadkadaaGreatDoor
set_option linter.unusedVariables false
set_option linter.unusedSimpArgs false
open Go.RowKit Go.Shelf Go.Lib

set_option maxRecDepth 100000 in
set_option maxHeartbeats 2000000 in
theorem indexLs (S : List FS) (y : FS) (a : Option Addr) (cap : Nat) (w : World) (h : LsAt w a cap S) (hl : S.length ≤ 1000000) :
    Calls Tryz.prog 62 #[.slice a S.length cap, lsV y] w (IdxRes S (pHit y.1 y.2) w) := by
  have HS := Lib.hid h
  clear h
  obtain ⟨yc, ⟨yn, yt⟩⟩ := y
  unfold lsV
  dsimp only
  have HB0 := Lib.hid (fun o => (Below.refl w.heap.size w).alloc (Nat.le_refl _) o)
  have HD0 := Lib.hid (blk_new w w.heap.size 110 #[.string ⟨⟨yc⟩⟩, .string ⟨⟨yn⟩⟩, .string ⟨⟨yt⟩⟩] rfl)
  go_enter Tryz.func62, Tryz.ntmps62
  go_wp2_with fail
  go_loopw [8] (fun i wr => ∃ k : Nat, k ≤ S.length ∧ i = .int .i64 k ∧ Below w.heap.size w wr ∧ Blk wr w.heap.size 110 #[.string ⟨⟨yc⟩⟩, .string ⟨⟨yn⟩⟩, .string ⟨⟨yt⟩⟩] ∧ Hid (∀ x ∈ S.take k, pHit yc ⟨yn, yt⟩ x = false)) (fun i _ => S.length - (RowKit.intOf i).toNat)
  case atStart => exact ⟨0, by omega, rfl, HB0.out _, HD0.out, Lib.hid (by simp)⟩
  case round =>
    obtain ⟨k, hk, rfl, hb, hd, HZ⟩ := hrel
    have HB := Lib.hid hb
    have HD := Lib.hid hd
    by_cases hlk : k < S.length
    · obtain ⟨x, hx⟩ : ∃ x, S[k]? = some x := ⟨_, List.getElem?_eq_getElem hlk⟩
      obtain ⟨b, off, rfl, hlt, c0, c1, c2⟩ := (HS.out.below hb).cells hx
      have e0 : wr.cell? ⟨w.heap.size, 0, none⟩ = some (.string ⟨⟨yc⟩⟩) := hd.cell 0
      have e1 : wr.cell? ⟨w.heap.size, 1, none⟩ = some (.string ⟨⟨yn⟩⟩) := hd.cell 1
      have e2 : wr.cell? ⟨w.heap.size, 2, none⟩ = some (.string ⟨⟨yt⟩⟩) := hd.cell 2
      have hdl := hd.lt
      have HX := Lib.hid hx
      have i0 : (0 : Int) ≤ (k : Int) := by omega
      have i1 : (k : Int) < (S.length : Int) := by omega
      clear hx hb hd
      obtain ⟨xc, ⟨xn, xt⟩⟩ := x
      dsimp only at *
      by_cases hh : xc = yc ∧ xn = yn ∧ xt = yt
      · obtain ⟨rfl, rfl, rfl⟩ := hh
        have HA := Lib.hid (idx_at HZ.out HX.out (show pHit xc ⟨xn, xt⟩ (xc, ⟨xn, xt⟩) = true by simp [pHit]))
        go_wp2_with fail
        go_quiet (fail)
        go_wp2_with fail
        go_ret
        exact ⟨Or.inl ⟨k, HA.out, hlk, rfl⟩, below_dn HB.out _⟩
      · have HZ2 := Lib.hid (take_all_succ HZ.out HX.out (show pHit yc ⟨yn, yt⟩ (xc, ⟨xn, xt⟩) = false by
          cases hc : pHit yc ⟨yn, yt⟩ (xc, ⟨xn, xt⟩) with
          | false => rfl
          | true =>
            simp only [pHit, Bool.and_eq_true, beq_iff_eq] at hc
            exact absurd hc hh))
        by_cases h1 : xc = yc
        · subst h1
          by_cases h2 : xn = yn
          · subst h2
            have h3 : (yt == xt) = false := by
              cases hq : yt == xt with
              | false => rfl
              | true => exact absurd ⟨rfl, rfl, (eq_of_beq hq).symm⟩ hh
            clear hh
            go_wp2_with fail
            go_quiet (fail)
            go_wp2_with fail
            go_roundw
            case rel => exact ⟨k + 1, by omega, by go_num, below_dn HB.out _, HD.out, HZ2⟩
            case measure => simp [RowKit.intOf]; omega
          · have h3 : (yn == xn) = false := by
              cases hq : yn == xn with
              | false => rfl
              | true => exact absurd (eq_of_beq hq).symm h2
            clear hh h2
            go_wp2_with fail
            go_quiet (fail)
            go_wp2_with fail
            go_roundw
            case rel => exact ⟨k + 1, by omega, by go_num, below_dn HB.out _, HD.out, HZ2⟩
            case measure => simp [RowKit.intOf]; omega
        · have h3 : (yc == xc) = false := by
            cases hq : yc == xc with
            | false => rfl
            | true => exact absurd (eq_of_beq hq).symm h1
          clear hh h1
          go_wp2_with fail
          go_quiet (fail)
          go_wp2_with fail
          go_roundw
          case rel => exact ⟨k + 1, by omega, by go_num, below_dn HB.out _, HD.out, HZ2⟩
          case measure => simp [RowKit.intOf]; omega
    · obtain rfl : k = S.length := by omega
      have HA := Lib.hid (idx_none (by have := HZ.out; rwa [List.take_length] at this))
      clear hb hd
      go_wp2_with fail
      go_ret
      exact ⟨Or.inr ⟨HA.out, rfl⟩, HB.out⟩

def IdxIs {α : Type} (l : List α) (q : α → Bool) (r : Int) : Prop := (∃ i : Nat, l.findIdx? q = some i ∧ i < l.length ∧ r = i) ∨ (l.findIdx? q = none ∧ r = -1)
theorem idx_open {α : Type} {l : List α} {q : α → Bool} {w w' : World} {e : Ending} (h : IdxRes l q w e w') : Below w.heap.size w w' ∧ ∃ r, e = .returned (.int .i64 r) ∧ IdxIs l q r := by
  obtain ⟨⟨i, h1, h2, rfl⟩ | ⟨h1, rfl⟩, hb⟩ := h
  · exact ⟨hb, _, rfl, Or.inl ⟨i, h1, h2, rfl⟩⟩
  · exact ⟨hb, _, rfl, Or.inr ⟨h1, rfl⟩⟩

/-- where a field lies; below 0: nowhere -/
def PlcIs (L : List ClassR) (c n : Nm) (r : Int) : Prop := (∃ i : Nat, placeF L c n = some i ∧ i < (slotsF L c).length ∧ r = i) ∨ (placeF L c n = none ∧ r = -1)
theorem plc_of {L : List ClassR} {c n : Nm} {x : FS} {r : Int} (h : fieldOf L c n = some x) (hi : IdxIs (slotsF L c) (pHit x.1 x.2) r) : PlcIs L c n r := by
  have e : placeF L c n = (slotsF L c).findIdx? (pHit x.1 x.2) := by unfold placeF; rw [h]; rfl
  unfold PlcIs
  rw [e]
  exact hi

set_option maxRecDepth 100000 in
set_option maxHeartbeats 4000000 in
theorem at_calls (l : List ClassR) (L : List CP) (b : Nat) (c n : Nm) (w : World) (hW : WOk w b l L) (hc : c.length ≤ 1048576) :
    Calls Tryz.prog 37 #[.map (some b), .string ⟨⟨c⟩⟩, .string ⟨⟨n⟩⟩] w fun e w' => (∃ r, e = .returned (.int .i64 r) ∧ PlcIs (wl l) c n r) ∧ Below w.heap.size w w' := by
  have HFO := Lib.hid (fof_calls l L b c n w hW hc)
  have HLS := Lib.hid (fun W (hb : Below w.heap.size w W) => lslots_calls l L b c W (hW.below hb) hc)
  have hlen := slotsF_len hW.good c
  have HPO := Lib.hid (fun x r h hi => @plc_of (wl l) c n x r h hi)
  have HPN := Lib.hid (fun h => @placeF_none (wl l) c n h)
  clear hW
  go_enter Tryz.func37, Tryz.ntmps37
  go_wp2_with fail
  refine HFO.out.mono ?_
  rintro e w2 ⟨hb2, ⟨hn, rfl⟩ | ⟨x, f, hm, rfl⟩⟩
  · have HB2 := Lib.hid hb2
    have HP := Lib.hid (HPN.out hn)
    have hs2 := hb2.size
    clear hb2 hn
    unfold fieldV
    go_wp2_with fail
    go_ret
    exact ⟨⟨-1, rfl, Or.inr ⟨HP.out, rfl⟩⟩, HB2.out.alloc hs2 _⟩
  · have HB2 := Lib.hid hb2
    have HM := Lib.hid hm
    have hs2 := hb2.size
    have HB3 := Lib.hid (hb2.alloc hs2 (.cells #[.string ⟨⟨f.nm⟩⟩, .string ⟨⟨f.ty⟩⟩] 55)).drew
    have HD3 := Lib.hid (blk_new w2 w2.heap.size 55 #[.string ⟨⟨f.nm⟩⟩, .string ⟨⟨f.ty⟩⟩] rfl).drew
    clear hb2 hm
    unfold fieldV
    go_wp2_with fail
    go_region_with (first
      | (go_at_call 63; refine (HLS.out _ (by exact HB3.out)).mono ?_; rintro e w5 ⟨⟨v, rfl, ho⟩, hb5⟩; obtain ⟨a5, c5, rfl, hr5⟩ := ls_of_own ho; have hd5 := HD3.out.below hb5; have d0 := hd5.cell 0; have d1 := hd5.cell 1; have hdl := hd5.lt; have HR5 := Lib.hid hr5; have HB5 := Lib.hid (HB3.out.trans (hb5.mono HB3.out.size)); clear hd5 hr5 ho hb5)
      | (go_at_call 62; refine (indexLs (slotsF (wl l) c) (x, f) a5 c5 _ HR5.out (by omega)).mono ?_; intro e w6 hr; obtain ⟨hb6, r, rfl, hri⟩ := idx_open hr; have HB6 := Lib.hid (HB5.out.trans (hb6.mono HB5.out.size)); have HRI := Lib.hid hri; clear hr hb6 hri))
    all_goals
      go_wp2_with fail
      go_ret
      exact ⟨⟨r, rfl, HPO.out (x, f) r HM.out HRI.out⟩, HB6.out⟩

set_option maxRecDepth 100000 in
set_option maxHeartbeats 1000000 in
theorem lfields_calls (l : List ClassR) (ps : List CAddr) (a : Option Addr) (cap : Nat) (n : Nm) (w : World) (hC : ClassesAt w a cap l ps) (hF : FormsAt w) (hB : ClsOk l) (hn : n.length ≤ 1048576) :
    Calls Tryz.prog 19 #[.slice a l.length cap, .string ⟨⟨n⟩⟩] w (ListRes (withErr l n) (typesF (wl l) n) w) := by
  have HR := Lib.hid (with_w l ps a cap n w hC hF hB hn)
  clear hC hF hB
  go_enter Tryz.func19, Tryz.ntmps19
  go_wp2_with fail
  refine HR.out.mono ?_
  rintro e w2 ⟨hb2, ⟨hne, rfl⟩ | ⟨h0, _, b, rfl, hw⟩⟩
  · have HB2 := Lib.hid hb2
    have HNE := Lib.hid hne
    clear hb2
    generalize withErr l n = m at *
    clear hne
    go_wp2_with fail
    go_ret2
    exact ⟨HB2.out, Or.inl ⟨HNE.out, rfl⟩⟩
  · have HB2 := Lib.hid hb2
    have H0 := Lib.hid h0
    have HT := Lib.hid (types_calls l (wcp l ps) b n w2 hw hn)
    clear hb2 h0 hw
    go_wp2_with fail
    refine HT.out.mono ?_
    rintro e w3 ⟨⟨v, rfl, ho⟩, hb3⟩
    have HB3 := Lib.hid (bl_trans HB2.out hb3)
    have HO3 := Lib.hid (own_down ho HB2.out.size)
    clear hb3 ho
    go_wp2_with fail
    go_ret2
    exact ⟨HB3.out, Or.inr ⟨H0.out, v, rfl, HO3.out⟩⟩

/-- Place's pair -/
def PlcV (l : List ClassR) (c n : Nm) (v ev : Value) : Prop := (∃ z : Int, z ≠ 0 ∧ v = .int .i64 0 ∧ ev = errV z) ∨ (withErr l c = 0 ∧ ev = .nilIface ∧ ∃ i : Nat, placeF (wl l) c n = some i ∧ i < (slotsF (wl l) c).length ∧ v = .int .i64 i)
def PlcRes (l : List ClassR) (c n : Nm) (w : World) (e : Ending) (w' : World) : Prop := Below w.heap.size w w' ∧ ∃ v ev, e = .returned (.tuple #[v, ev]) ∧ PlcV l c n v ev

set_option maxRecDepth 100000 in
set_option maxHeartbeats 1000000 in
theorem place_calls (l : List ClassR) (ps : List CAddr) (a : Option Addr) (cap : Nat) (c n : Nm) (w : World) (hC : ClassesAt w a cap l ps) (hF : FormsAt w) (hB : ClsOk l) (hc : c.length ≤ 1048576) :
    Calls Tryz.prog 18 #[.slice a l.length cap, .string ⟨⟨c⟩⟩, .string ⟨⟨n⟩⟩] w (PlcRes l c n w) := by
  have HR := Lib.hid (with_w l ps a cap c w hC hF hB hc)
  clear hC hF hB
  go_enter Tryz.func18, Tryz.ntmps18
  go_wp2_with fail
  refine HR.out.mono ?_
  rintro e w2 ⟨hb2, ⟨hne, rfl⟩ | ⟨h0, _, b, rfl, hw⟩⟩
  · have HB2 := Lib.hid hb2
    have HNE := Lib.hid hne
    have HPV := Lib.hid (show PlcV l c n (.int .i64 0) (errV (withErr l c)) from Or.inl ⟨_, hne, rfl, rfl⟩)
    clear hb2
    generalize withErr l c = m at *
    clear hne
    go_wp2_with fail
    go_ret2
    exact ⟨HB2.out, _, _, rfl, HPV.out⟩
  · have HB2 := Lib.hid hb2
    have H0 := Lib.hid h0
    have HT := Lib.hid (at_calls l (wcp l ps) b c n w2 hw hc)
    clear hb2 h0 hw
    go_wp2_with fail
    refine HT.out.mono ?_
    rintro e w3 ⟨⟨r, rfl, ⟨i, hi, hil, rfl⟩ | ⟨hi, rfl⟩⟩, hb3⟩
    · have HB3 := Lib.hid (bl_trans HB2.out hb3)
      have HPV := Lib.hid (show PlcV l c n (.int .i64 i) .nilIface from Or.inr ⟨H0.out, rfl, i, hi, hil, rfl⟩)
      have hi0 : (0 : Int) ≤ (i : Int) := Int.natCast_nonneg _
      clear hb3 hi
      go_wp2_with fail
      go_ret2
      exact ⟨HB3.out, _, _, rfl, HPV.out⟩
    · have HB3 := Lib.hid (bl_trans HB2.out hb3)
      have HPV := Lib.hid (show PlcV l c n (.int .i64 0) (errV 3) from Or.inl ⟨3, by omega, rfl, rfl⟩)
      clear hb3 hi
      go_wp2_with fail
      go_ret2
      exact ⟨HB3.out, _, _, rfl, HPV.out⟩
end Go.Proofs.YtpkhfcbkadkadaaGreatDoor
