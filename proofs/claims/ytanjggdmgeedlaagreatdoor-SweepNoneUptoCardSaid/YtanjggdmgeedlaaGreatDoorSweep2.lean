/-
  The walk of the literal that marks: it calls itself.
-/
import Derived.Test.YtanjggdmgeedlaaGreatDoorPSweep
import Derived.Test.YtanjggdmgeedlaaGreatDoorGb
import Derived.Deep.RegionHeld3
namespace Go.Proofs.YtanjggdmgeedlaaGreatDoor
set_option linter.unusedVariables false
set_option linter.unusedSimpArgs false
open Go.RowKit Go.Shelf Go.Lib

def boolV (b : Bool) : Value := .bool b
def boolC (s : List Bool) : Array Value := (s.map boolV).toArray
theorem boolC_set {s : List Bool} {i : Nat} : (boolC s).setIfInBounds i (.bool true) = boolC (s.set i true) := by
  unfold boolC
  rw [List.setIfInBounds_toArray, List.map_set]
  rfl
theorem boolC_at {s : List Bool} {i : Nat} {b : Bool} (h : s[i]? = some b) : (boolC s)[i]? = some (.bool b) := by
  unfold boolC
  rw [List.getElem?_toArray, List.getElem?_map, h]
  rfl
/-- what the literal has at hand: the marks' row, itself, the heap -/
structure MarkAt (w : World) (B n : Nat) (a : Option Addr) (cap g c1 c2 c3 : Nat) : Prop where
  b1 : Blk w c1 90 #[.slice (some ⟨g, 0, none⟩) (n + 1) (n + 1)]
  b2 : Blk w c2 126 #[.func (.func 65) #[] #[.pointer (some ⟨c1, 0, none⟩), .pointer (some ⟨c2, 0, none⟩), .pointer (some ⟨c3, 0, none⟩)]]
  b3 : Blk w c3 25 #[.slice a n cap]
  n1 : c1 ≠ g
  n2 : c2 ≠ g
  n3 : c3 ≠ g
  l0 : B ≤ g
theorem MarkAt.grown {w w' : World} {B n : Nat} {a : Option Addr} {cap g c1 c2 c3 : Nat} (h : MarkAt w B n a cap g c1 c2 c3) (hg : w.grownBy w' (some g)) : MarkAt w' B n a cap g c1 c2 c3 :=
  ⟨gb_blk hg h.b1 h.n1, gb_blk hg h.b2 h.n2, gb_blk hg h.b3 h.n3, h.n1, h.n2, h.n3, h.l0⟩
theorem MarkAt.below {w w' : World} {B n : Nat} {a : Option Addr} {cap g c1 c2 c3 : Nat} (h : MarkAt w B n a cap g c1 c2 c3) (hb : Below w.heap.size w w') : MarkAt w' B n a cap g c1 c2 c3 :=
  ⟨h.b1.below hb, h.b2.below hb, h.b3.below hb, h.n1, h.n2, h.n3, h.l0⟩
def MarkRes (l : List ValR) (s : List Bool) (g : Nat) (w : World) (e : Ending) (w' : World) : Prop :=
  e = .returned (.tuple #[]) ∧ ∃ s', Marks l s s' ∧ Blk w' g 4 (boolC s') ∧ w.grownBy w' (some g)
theorem gb_trans {a b c : World} {g : Nat} (h : a.grownBy b (some g)) (k : b.grownBy c (some g)) : a.grownBy c (some g) :=
  ⟨k.os.trans h.os, k.tape.trans h.tape, k.output.trans h.output, Nat.le_trans h.size k.size, fun i hi hne => (k.block i (Nat.lt_of_lt_of_le hi h.size) hne).trans (h.block i hi hne)⟩

set_option maxRecDepth 100000 in
set_option maxHeartbeats 8000000 in
theorem mark_calls (X : List ThingR) (ps : List HA) (a : Option Addr) (cap g c1 c2 c3 : Nat) (w0 : World) (hT : ThingsAt w0 a cap X ps) (hX : X.length ≤ 50) (hI : ∀ x ∈ X, ∀ v ∈ x.has, InR X.length v) : ∀ (k : Nat) (l : List ValR) (p : HA) (s : List Bool) (w : World), unmk s ≤ k → HasAt w0 l p → (∀ v ∈ l, InR X.length v) → l.length ≤ 1000000 → (∀ x ∈ X, x.has.length ≤ 1000000) → s.length = X.length + 1 → Blk w g 4 (boolC s) → MarkAt w w0.heap.size X.length a cap g c1 c2 c3 → Below w0.heap.size w0 w →
    Calls Tryz.prog 65 #[.slice p.1 l.length p.2, .pointer (some ⟨c1, 0, none⟩), .pointer (some ⟨c2, 0, none⟩), .pointer (some ⟨c3, 0, none⟩)] w (MarkRes l s g w) := by
  intro k
  have HT := Lib.hid hT
  have HI := Lib.hid hI
  clear hT hI
  induction k using Nat.strongRecOn with
  | _ k ih =>
    intro l p s w hk hl hin hll hxl hs hb hm hbw
    have IH := Lib.hid ih
    have HL := Lib.hid hl
    have HIN := Lib.hid hin
    have HXL := Lib.hid hxl
    have HS := Lib.hid hs
    have HK := Lib.hid hk
    have HM := Lib.hid hm
    have HB := Lib.hid hb
    have HBW := Lib.hid hbw
    clear ih hl hin hxl hs hk hm hb hbw
    go_enter Tryz.func65, Tryz.ntmps65
    go_wp2_with fail
    go_loopw [9] (fun i wr => ∃ j : Nat, j ≤ l.length ∧ i = .int .i64 j ∧ w.grownBy wr (some g) ∧ ∃ t, Marks (l.take j) s t ∧ Blk wr g 4 (boolC t)) (fun i _ => l.length - (RowKit.intOf i).toNat)
    case atStart => exact ⟨0, by omega, rfl, gb_refl _ _, s, Marks.nil s, HB.out⟩
    case round =>
      obtain ⟨j, hj, rfl, hgr, t, hmt, hbt⟩ := hrel
      by_cases hlj : j < l.length
      · obtain ⟨⟨kd, n⟩, hv⟩ : ∃ v, l[j]? = some v := ⟨_, List.getElem?_eq_getElem hlj⟩
        have hbr := gb_to_below HBW.out hgr HM.out.l0
        obtain ⟨b5, off5, hp5, hlt5, f0, f1⟩ := (HL.out.below hbr).cells hv
        have HIV := Lib.hid (HIN.out _ (List.mem_of_getElem? hv))
        have HTK := Lib.hid (show l.take (j + 1) = l.take j ++ [⟨kd, n⟩] by rw [List.take_add_one, hv]; rfl)
        have HGR := Lib.hid hgr
        have HMT := Lib.hid hmt
        have HBT := Lib.hid hbt
        have HMR := Lib.hid (HM.out.grown hgr)
        have HBR := Lib.hid hbr
        have htl := hmt.1
        have hji : (j : Int) < (l.length : Int) := by omega
        have hj0 : (0 : Int) ≤ (j : Int) := Int.natCast_nonneg _
        rw [hp5]
        have hg1 := gb_alloc hgr (.cells #[.int .i64 kd, .int .i64 n] 37)
        have HG1 := Lib.hid hg1
        have HT1 := Lib.hid (hbt.alloc (.cells #[.int .i64 kd, .int .i64 n] 37))
        have HM1 := Lib.hid (HMR.out.grown (gb_alloc (gb_refl wr g) (.cells #[.int .i64 kd, .int .i64 n] 37)))
        clear hgr hmt hbt hbr hv hg1
        by_cases h3 : kd = 3
        · subst h3
          obtain ⟨hn0, hn1⟩ := HIV.out rfl
          by_cases hpos : 0 < n
          · obtain ⟨m, rfl⟩ : ∃ m : Nat, n = (m : Int) + 1 := ⟨(n - 1).toNat, by omega⟩
            have hm : m < X.length := by simp only at hn1; omega
            cases ht : t[m + 1]? with
            | none => rw [List.getElem?_eq_none_iff, htl, HS.out] at ht; omega
            | some q =>
              have x0 := HM1.out.b1.cell 0
              have x1 := HM1.out.b1.lt
              have x2 : (wr.alloc (.cells #[.int .i64 3, .int .i64 ((m : Int) + 1)] 37)).cell? ⟨g, m + 1, none⟩ = some (.bool q) := by rw [HT1.out.cell]; exact boolC_at ht
              have x3 := HT1.out.frozen (m + 1)
              have x4 := HT1.out.lt
              have hmi : (m : Int) + 1 < (X.length : Int) + 1 := by omega
              cases q with
              | true =>
                go_wp2_with fail
                go_roundw
                case rel => exact ⟨j + 1, by omega, by go_num, HG1.out, t, by rw [HTK.out]; exact HMT.out.skip (fun _ _ => by show t[((m : Int) + 1).toNat]? = some true; rw [show ((m : Int) + 1).toNat = m + 1 by omega]; exact ht), HT1.out⟩
                case measure => simp [RowKit.intOf]; omega
              | false =>
                obtain ⟨x, hx⟩ : ∃ x, X[m]? = some x := ⟨_, List.getElem?_eq_getElem hm⟩
                obtain ⟨w2, hw2⟩ : ∃ w2, w2 = (wr.alloc (.cells #[.int .i64 3, .int .i64 ((m : Int) + 1)] 37)).setCell ⟨g, m + 1, none⟩ (.bool true) := ⟨_, rfl⟩
                have hg2 : w.grownBy w2 (some g) := by rw [hw2]; exact gb_set HG1.out _ _
                have hbw2 := gb_to_below HBW.out hg2 HM.out.l0
                have HG2 := Lib.hid hg2
                have HT2 := Lib.hid (show Blk w2 g 4 (boolC (t.set (m + 1) true)) by rw [hw2, ← boolC_set]; exact blk_set HT1.out _ _)
                have HM2 := Lib.hid (HM.out.grown hg2)
                have HK2 := Lib.hid (show Blk w2 wr.heap.size 37 #[.int .i64 3, .int .i64 ((m : Int) + 1)] by
                  rw [hw2]
                  exact gb_blk (gb_set (gb_refl _ g) (m + 1) (.bool true)) (blk_new wr _ _ _ rfl) (by have := HBT.out.lt; omega))
                obtain ⟨b6, off6, q6, ha6, hlt6, _, hhas, y0, y1⟩ := HT.out.cells hx
                have HCL := Lib.hid (fun W (hW : Below w2.heap.size w2 W) => IH.out (unmk (t.set (m + 1) true)) (by have h1 := unmk_set ht; have h2 := marks_le HMT.out; have := HK.out; omega) x.has q6 (t.set (m + 1) true) W (Nat.le_refl _) (((HT.out.2.2) m x q6 hx (by assumption))) (HI.out x (List.mem_of_getElem? hx)) (HXL.out x (List.mem_of_getElem? hx)) HXL.out (by rw [List.length_set, htl, HS.out]) (HT2.out.below hW) (HM2.out.below hW) (hbw2.trans (hW.mono hbw2.size)))
                have HLT := Lib.hid (show m + 1 < t.length by rw [htl, HS.out]; omega)
                have HZ := Lib.hid (fun W' (hW' : w2.grownBy W' (some g)) => (show W'.cell? ⟨c2, 0, none⟩ = some (.func (.func 65) #[] #[.pointer (some ⟨c1, 0, none⟩), .pointer (some ⟨c2, 0, none⟩), .pointer (some ⟨c3, 0, none⟩)]) ∧ W'.cell? ⟨c3, 0, none⟩ = some (.slice (some ⟨b6, off6, none⟩) X.length cap) ∧ W'.cell? ⟨wr.heap.size, 1, none⟩ = some (.int .i64 ((m : Int) + 1)) ∧ W'.cell? ⟨b6, off6 + m * 2 + 1, none⟩ = some (.slice q6.1 x.has.length q6.2) from ⟨(HM2.out.grown hW').b2.cell 0, by have := (HM2.out.grown hW').b3.cell 0; rw [ha6] at this; exact this, (gb_blk hW' HK2.out (by have := HBT.out.lt; omega)).cell 1, (World.cell?_of_block ((gb_to_below hbw2 hW' HM.out.l0).block b6 hlt6)).trans y1⟩))
                have hm0 : (0 : Int) ≤ (m : Int) := Int.natCast_nonneg _
                have hmi2 : (m : Int) < (X.length : Int) := by omega
                have hs1 : IntKind.i64.wrap ((m : Int) + 1 - 1) = (m : Int) := by rw [IntKind.wrap_i64]; omega
                have hs2 : IntKind.i64.wrap (m : Int) = (m : Int) := by rw [IntKind.wrap_i64]; omega
                have hm50 : (m : Int) ≤ 50 := by omega
                go_upto_region 5 with fail
                rw [← hw2]
                clear hw2 hg2 hbw2 hhas y0 y1 x0 x1 x2 x3 x4 f0 f1
                go_region_held3 (fun W' => W'.cell? ⟨c2, 0, none⟩ = some (.func (.func 65) #[] #[.pointer (some ⟨c1, 0, none⟩), .pointer (some ⟨c2, 0, none⟩), .pointer (some ⟨c3, 0, none⟩)]) ∧ W'.cell? ⟨c3, 0, none⟩ = some (.slice (some ⟨b6, off6, none⟩) X.length cap) ∧ W'.cell? ⟨wr.heap.size, 1, none⟩ = some (.int .i64 ((m : Int) + 1)) ∧ W'.cell? ⟨b6, off6 + m * 2 + 1, none⟩ = some (.slice q6.1 x.has.length q6.2))
                  (first | (exact HZ.out _ (gb_refl _ _)) | (exact HZ.out _ (gb_drew (gb_refl _ _))) | (exact HZ.out _ hg6))
                  ((go_at_call 65
                    refine (HCL.out _ (Below.refl _ _).drew).mono ?_
                    rintro e w5 ⟨rfl, t5, hm5, hb5, hg5⟩
                    have hg6 := gb_trans (gb_drew (gb_refl w2 g)) hg5))
                all_goals
                  have HG6 := Lib.hid (gb_trans HG2.out hg6)
                  have HB6 := Lib.hid hb5
                  have HM6 := Lib.hid hm5
                  clear hg5 hg6 hb5 hm5 hs1 hs2
                  go_wp2_with fail
                  go_roundw
                  case rel => exact ⟨j + 1, by omega, by go_num, HG6.out, t5, by rw [HTK.out]; exact HMT.out.down (v := ⟨3, (m : Int) + 1⟩) (by show (0 : Int) < (m : Int) + 1; omega) (by show ((m : Int) + 1).toNat < t.length; have := HLT.out; omega) (by show Marks x.has (t.set ((m : Int) + 1).toNat true) t5; rw [show ((m : Int) + 1).toNat = m + 1 by omega]; exact HM6.out), HB6.out⟩
                  case measure => simp [RowKit.intOf]; omega
          · have HNP := Lib.hid hpos
            have q2 : decide (0 < n) = false := decide_eq_false hpos
            go_wp2_with fail
            go_roundw
            case rel => exact ⟨j + 1, by omega, by go_num, HG1.out, t, by rw [HTK.out]; exact HMT.out.skip (fun _ h => absurd h HNP.out), HT1.out⟩
            case measure => simp [RowKit.intOf]; omega
        · have HN3 := Lib.hid h3
          have q3 : (kd == 3) = false := by rw [beq_eq_false_iff_ne]; exact h3
          go_wp2_with fail
          go_roundw
          case rel => exact ⟨j + 1, by omega, by go_num, HG1.out, t, by rw [HTK.out]; exact HMT.out.skip (fun h _ => absurd h HN3.out), HT1.out⟩
          case measure => simp [RowKit.intOf]; omega
      · obtain rfl : j = l.length := by omega
        have HGR := Lib.hid hgr
        have HMT := Lib.hid (show Marks l s t by rw [List.take_length] at hmt; exact hmt)
        have HBT := Lib.hid hbt
        clear hgr hmt hbt
        go_wp2_with fail
        go_end0
        exact ⟨rfl, t, HMT.out, HBT.out, HGR.out⟩
end Go.Proofs.YtanjggdmgeedlaaGreatDoor
