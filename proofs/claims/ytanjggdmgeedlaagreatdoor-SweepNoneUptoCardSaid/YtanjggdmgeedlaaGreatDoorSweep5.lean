/-
  The walk of sweep.Sweep: without roots, and with all places as roots.
-/
import Derived.Test.YtanjggdmgeedlaaGreatDoorSweep1
import Derived.Test.YtanjggdmgeedlaaGreatDoorSweep3
import Derived.Test.YtanjggdmgeedlaaGreatDoorSweep4
import Derived.Test.YtanjggdmgeedlaaGreatDoorHeap9
namespace Go.Proofs.YtanjggdmgeedlaaGreatDoor
set_option linter.unusedVariables false
set_option linter.unusedSimpArgs false
open Go.RowKit Go.Shelf Go.Lib

/-- the places so far: below i, if all are roots -/
def placeF2 (t : Bool) (i : Nat) (z : Int) : Option Value := if t = true ∧ 1 ≤ z ∧ z < i then some (.int .i64 z) else none
theorem place_zero (t : Bool) (z : Int) : placeF2 t 0 z = none := by unfold placeF2; rw [if_neg (by omega)]
theorem place_one (t : Bool) (z : Int) : placeF2 t 1 z = none := by unfold placeF2; rw [if_neg (by omega)]
theorem place_no (i : Nat) (z : Int) : placeF2 false i z = none := by unfold placeF2; rw [if_neg (by simp)]
theorem place_new {i : Nat} (hi : 1 ≤ i) (z : Int) : placeF2 true (i + 1) z = putf (placeF2 true i) (i : Int) (.int .i64 (i : Int)) z := by
  unfold putf
  by_cases h : z = i
  · subst h; unfold placeF2; rw [if_pos ⟨rfl, by omega, by omega⟩, if_pos rfl]
  · rw [if_neg h]
    unfold placeF2
    by_cases h2 : 1 ≤ z ∧ z < (i : Int)
    · rw [if_pos ⟨rfl, by omega, by omega⟩, if_pos ⟨rfl, h2.1, h2.2⟩]
    · rw [if_neg (by rintro ⟨_, h3, h4⟩; omega), if_neg (by rintro ⟨_, h3, h4⟩; omega)]
theorem place_at {n : Nat} {z : Int} (h : 1 ≤ z ∧ z ≤ n) : placeF2 true (n + 1) z = some (.int .i64 z) := by unfold placeF2; rw [if_pos ⟨rfl, h.1, by omega⟩]
theorem wf_nat {z : Int} (h : 0 ≤ z ∧ z ≤ 1000000) : (Lit.int .i64 z).wf = true := by
  have h1 : IntKind.i64.min = -9223372036854775808 := by decide
  have h2 : IntKind.i64.max = 9223372036854775807 := by decide
  simp [Lit.wf, h1, h2]; omega
theorem stay_all {n : Nat} (hn : n ≤ 50) {v : ValR} (h : InR n v) : Stay (placeF2 true (n + 1)) v := by
  intro h3
  obtain ⟨h4, h5⟩ := h h3
  refine ⟨wf_nat (by omega), ?_⟩
  by_cases h0 : v.n = 0
  · exact Or.inr ⟨by unfold placeF2; rw [if_neg (by omega)], h0⟩
  · exact Or.inl (place_at (by omega))
def seenOf (t : Bool) (n : Nat) : List Bool := false :: List.replicate n t
def rootsOf (t : Bool) (n : Nat) : List ValR := if t = true then rootsN n else []
theorem rootsOf_len (t : Bool) (n : Nat) : (rootsOf t n).length = if t = true then n else 0 := by unfold rootsOf; split <;> simp [roots_len]
def keptOf (t : Bool) (X : List ThingR) : List ThingR := if t = true then X else []
def SwRes (l : List ClassR) (X : List ThingR) (t : Bool) (w : World) (e : Ending) (w' : World) : Prop :=
  Below w.heap.size w w' ∧ ((hpErr l X ≠ 0 ∧ e = .returned (.tuple #[.agg #[.slice none 0 0], .slice none 0 0, errV (hpErr l X)])) ∨
    (hpErr l X = 0 ∧ ∃ v qs q, e = .returned (.tuple #[.agg #[v], .slice q.1 (rootsOf t X.length).length q.2, .nilIface]) ∧ OwnT w' w.heap.size v (keptOf t X) qs ∧ OwnV w' w.heap.size (rootsOf t X.length) q))

/-- the load of the row so far, by name -/
def ldOut : Oper := { dst := some 57, op := Op.load 23 (Operand.tmp 56), type := 23, pos := "sweep.go:84", after := #[{ on := 0, ground := Ground.data }], guard := none }
theorem ldOut_op : ldOut.op = Op.load 23 (Operand.tmp 56) := rfl
theorem ldOut_dst : ldOut.dst = some 57 := rfl
theorem ldOut_guard : ldOut.guard = none := rfl

set_option maxRecDepth 100000 in
set_option maxHeartbeats 16000000 in
theorem sweep_calls (l : List ClassR) (cs : List CAddr) (a0 : Option Addr) (c0 : Nat) (X : List ThingR) (ps : List HA) (a : Option Addr) (cap : Nat) (t : Bool) (p : HA) (w : World) (hC : ClassesAt w a0 c0 l cs) (hF : FormsAt w) (hB : ClsOk l) (hT : ThingsAt w a cap X ps) (hH : HpB X) (hR : HasAt w (rootsOf t X.length) p) :
    Calls Tryz.prog 12 #[.slice a0 l.length c0, .agg #[.slice a X.length cap], .slice p.1 (rootsOf t X.length).length p.2] w (SwRes l X t w) := by
  have hmf : ∀ (fn : Fn) (first cap : Array Value) (w : World), (Instr.makeFunc fn first cap).run Tryz.prog w = .ok (.func fn first cap) w := fun _ _ _ _ => rfl
  have hmk := run_makeMap (P := Tryz.prog) 89
  obtain ⟨w1, hw1⟩ : ∃ w1, w1 = (w.alloc (.cells #[.slice a X.length cap] 25)).alloc (.cells #[.slice none 0 0] 25) := ⟨_, rfl⟩
  have hb1 : Below w.heap.size w w1 := by rw [hw1]; exact bl_alloc (bl_alloc (Below.refl _ _) _) _
  have HB1 := Lib.hid hb1
  have HX := Lib.hid (show Blk w1 w.heap.size 25 #[.slice a X.length cap] by rw [hw1]; exact (blk_new _ _ _ _ rfl).alloc _)
  have HZ := Lib.hid (show Blk w1 (w.heap.size + 1) 25 #[.slice none 0 0] by rw [hw1]; exact blk_new _ _ _ _ (by simp))
  have HRD := Lib.hid (show ∀ W, Below w.heap.size w W → Calls Tryz.prog 32 #[.slice a0 l.length c0, .agg #[.slice a X.length cap], .slice p.1 (rootsOf t X.length).length p.2] W fun e w' => e = .returned (errOf (hpErr l X)) ∧ Below W.heap.size W w' from fun W hw => by
    obtain ⟨m, hm, hmX⟩ : ∃ m, rootsOf t X.length = rootsN m ∧ m ≤ X.length := by
      cases t with
      | true => exact ⟨X.length, rfl, Nat.le_refl _⟩
      | false => exact ⟨0, rfl, Nat.zero_le _⟩
    have h := sread_calls l cs a0 c0 X ps a cap m p W (hC.below hw) (hF.below hw) hB (hT.below hw) hH (by rw [← hm]; exact hR.below hw) hmX
    rw [hm, roots_len]
    exact h)
  have HT := Lib.hid hT
  have HR := Lib.hid hR
  have HHB := Lib.hid hH
  have hs1 : w1.heap.size = w.heap.size + 1 + 1 := by rw [hw1]; simp
  clear hC hF hB hT hH hR hb1
  go_enter Tryz.func12, Tryz.ntmps12
  go_wp2_with fail
  rw [← hw1]
  clear hw1
  have e0 := HX.out.cell 0
  have e1 := HX.out.lt
  go_wp2_with fail
  refine (HRD.out _ HB1.out).mono ?_
  rintro e w2 ⟨rfl, hb2⟩
  by_cases hz : hpErr l X = 0
  · obtain ⟨hg, hr⟩ := hp_zero.1 hz
    have HZZ := Lib.hid hz
    rw [hz, errOf_zero]
    have h50 := (right_zero.1 hr).1
    have hIN := right_in hr
    have hXL : ∀ x ∈ X, x.has.length ≤ 1000 := fun x hx => has_len hg ((right_zero.1 hr).2.1 x hx)
    have HB2 := Lib.hid (bl_trans HB1.out hb2)
    have hs12 := hb2.size
    have HX2 := Lib.hid (HX.out.below hb2)
    have HZ2 := Lib.hid (HZ.out.below hb2)
    have HLV := Lib.hid (fun W (hw : Below w.heap.size w W) => live_calls X ps a cap (rootsOf t X.length) p W (HT.out.below hw) h50 hIN (fun x hx => by have := hXL x hx; omega) (HR.out.below hw) (fun v hv => by
      cases t with
      | true => obtain ⟨_, h1, h2⟩ := roots_in hv; exact fun _ => ⟨by omega, h2⟩
      | false => cases hv) (by rw [rootsOf_len]; split <;> omega))
    have HIN := Lib.hid hIN
    have HXL := Lib.hid hXL
    clear hz hg hr hIN hXL hb2 e0 e1 HRD HX HZ
    have hs2 := HB2.out.size
    obtain ⟨mb, hmb⟩ : ∃ mb, mb = w2.heap.size := ⟨_, rfl⟩
    obtain ⟨w3, hw3⟩ : ∃ w3, w3 = (w2.alloc (.map #[] 0)).alloc (.cells #[.map (some mb)] 89) := ⟨_, rfl⟩
    have hb3 : Below w2.heap.size w2 w3 := by rw [hw3]; exact bl_alloc (bl_alloc (Below.refl _ _) _) _
    have HB3 := Lib.hid (bl_trans HB2.out hb3)
    have HM3 := Lib.hid (show IMapN w3 mb 0 (fun _ => none) by rw [hw3, hmb]; exact (IMapN.made w2).below ((Below.refl _ _).alloc (Nat.le_refl _) _))
    have HP3 := Lib.hid (show Blk w3 (mb + 1) 89 #[.map (some mb)] by rw [hw3, hmb]; exact blk_new _ _ _ _ (by simp))
    have HX3 := Lib.hid (HX2.out.below hb3)
    have HZ3 := Lib.hid (HZ2.out.below hb3)
    have hs3 : w3.heap.size = mb + 1 + 1 := by rw [hw3, hmb]; simp
    have e0 := HX3.out.cell 0
    have e1 := HX3.out.lt
    clear hb3
    go_upto_region 5 with fail
    rw [← hmb, ← hw3]
    have HMB := Lib.hid (show w.heap.size + 1 + 1 ≤ mb by omega)
    clear hw3 hmb HX2 HZ2
    go_wp2_with fail
    refine (HLV.out _ HB3.out).mono ?_
    rintro e w4 ⟨g, s, rfl, hms, hbs, hb4⟩
    have hs : s = seenOf t X.length := by
      cases t with
      | true => exact marks_all hms
      | false => exact marks_none hms
    subst hs
    have hgm : g ≠ mb := by
      intro e
      subst e
      obtain ⟨_, es, clock, h1, _⟩ := HM3.out.below hb4
      rw [show w4.heap[g]? = some (.cells _ _ (0, 0)) from hbs] at h1
      cases h1
    have HBS := Lib.hid hbs
    have HB4 := Lib.hid (bl_trans HB3.out hb4)
    have HM4 := Lib.hid (HM3.out.below hb4)
    have HP4 := Lib.hid (HP3.out.below hb4)
    have HX4 := Lib.hid (HX3.out.below hb4)
    have HZ4 := Lib.hid (HZ3.out.below hb4)
    have hs4 : mb + 1 + 1 ≤ w4.heap.size := by have := hb4.size; omega
    clear hms hbs hb4 e0 e1 HM3 HP3 HX3 HZ3 HLV
    go_wp2_with fail
    go_loopw [30] (fun i wr => ∃ j : Nat, j ≤ X.length + 1 ∧ i = .int .i64 j ∧ w4.grownBy wr (some mb) ∧ IMapN wr mb (if t = true then j - 1 else 0) (placeF2 t j)) (fun i _ => X.length + 1 - (RowKit.intOf i).toNat)
    case atStart => exact ⟨0, by omega, rfl, gb_refl _ _, HM4.out.cong (by simp) (place_zero t)⟩
    case round =>
      obtain ⟨j, hj, rfl, hgr, hm⟩ := hrel
      by_cases hlj : j < X.length + 1
      · have hji : (j : Int) < (X.length : Int) + 1 := by omega
        have hj0 : (0 : Int) ≤ (j : Int) := Int.natCast_nonneg _
        have HGR := Lib.hid hgr
        have hbg := gb_blk hgr HBS.out hgm
        have x1 := hbg.lt
        have HBG := Lib.hid hbg
        have HMJ := Lib.hid hm
        clear hgr hm hbg
        cases j with
        | zero =>
          have x0 : wr.cell? ⟨g, 0, none⟩ = some (.bool false) := by rw [HBG.out.cell]; exact boolC_at (s := seenOf t X.length) rfl
          go_wp2_with fail
          go_roundw
          case rel => exact ⟨1, by omega, rfl, HGR.out, HMJ.out.cong (by simp) (fun z => (place_one t z).trans (place_zero t z).symm)⟩
          case measure => simp [RowKit.intOf]
        | succ m =>
          have hmX : m < X.length := by omega
          have hat : (seenOf t X.length)[m + 1]? = some t := by simp [seenOf, hmX]
          have x0 : wr.cell? ⟨g, m + 1, none⟩ = some (.bool t) := by rw [HBG.out.cell]; exact boolC_at hat
          cases t with
          | false =>
            go_wp2_with fail
            go_roundw
            case rel => exact ⟨m + 2, by omega, by go_num, HGR.out, HMJ.out.cong (by simp) (fun z => (place_no _ z).trans (place_no _ z).symm)⟩
            case measure => simp [RowKit.intOf]; omega
          | true =>
            have hpk := gb_blk HGR.out HP4.out (by omega)
            have y0 := hpk.cell 0
            have y1 := hpk.lt
            have hmj : IMapN wr mb m (placeF2 true (m + 1)) := by simpa using HMJ.out
            have hlen := fun ty => hmj.len (P := Tryz.prog) Tryz.underlying89 ty
            obtain ⟨w9, hst, hm9, hg9⟩ := hmj.store (P := Tryz.prog) Tryz.underlying3 Tryz.underlying89 (z := (m : Int) + 1) (wf_nat (by omega)) (by unfold placeF2; rw [if_neg (by omega)]) (.int .i64 ((m : Int) + 1))
            have HM9 := Lib.hid (show IMapN w9 mb (if true = true then m + 2 - 1 else 0) (placeF2 true (m + 2)) from hm9.cong (by simp) (fun z => by have := place_new (i := m + 1) (by omega) z; simpa using this))
            have HG9 := Lib.hid (gb_trans HGR.out hg9)
            have hm50 : (m : Int) ≤ 50 := by omega
            have hm00 : (0 : Int) ≤ (m : Int) := Int.natCast_nonneg _
            clear hmj hm9 hg9 hpk hat
            go_wp2_with fail
            go_roundw
            case rel => exact ⟨m + 2, by omega, by go_num, HG9.out, HM9.out⟩
            case measure => simp [RowKit.intOf]; omega
      · obtain rfl : j = X.length + 1 := by omega
        have HMJ := Lib.hid (show IMapN wr mb (if t = true then X.length else 0) (placeF2 t (X.length + 1)) by simpa using hm)
        have HP5 := Lib.hid (gb_blk hgr HP4.out (by omega))
        have HX5 := Lib.hid (gb_blk hgr HX4.out (by have := HMB.out; omega))
        have HZ5 := Lib.hid (gb_blk hgr HZ4.out (by have := HMB.out; omega))
        have HBW5 := Lib.hid (gb_to_below HB4.out hgr (by have := HMB.out; omega))
        obtain ⟨W0, hW0⟩ : ∃ W0, W0 = wr.alloc (.cells #[.slice none 0 0] 25) := ⟨_, rfl⟩
        obtain ⟨K, hK⟩ : ∃ K, K = wr.heap.size := ⟨_, rfl⟩
        have hal : Below wr.heap.size wr W0 := by rw [hW0]; exact bl_alloc (Below.refl _ _) _
        have HMW := Lib.hid (HMJ.out.below hal)
        have HPW := Lib.hid (HP5.out.below hal)
        have HXW := Lib.hid (HX5.out.below hal)
        have HZW := Lib.hid (HZ5.out.below hal)
        have HBW := Lib.hid (bl_trans HBW5.out hal)
        have HKW := Lib.hid (show Blk W0 K 25 #[.slice none 0 0] by rw [hW0, hK]; exact blk_new _ _ _ _ rfl)
        have hsW : W0.heap.size = K + 1 := by rw [hW0, hK]; simp
        have hKb : mb + 1 + 1 ≤ K := by have := hgr.size; omega
        have e0 := HX5.out.cell 0
        have e1 := HX5.out.lt
        have HTW := Lib.hid (HT.out.below HBW.out)
        clear hgr hm hal HMJ HP5 HX5 HZ5 HBW5 HM4 HP4 HX4 HZ4 HBS HB4
        go_upto_region 14 with fail
        rw [← hK, ← hW0]
        clear hW0 hK e0 e1 hs4
        go_loopw [46] (fun i wr => ∃ k : Nat, k ≤ X.length ∧ i = .int .i64 k ∧ W0.grownBy wr (some K) ∧ ∃ v qs, Blk wr K 25 #[v] ∧ OwnT wr W0.heap.size v ((keptOf t X).take k) qs) (fun i _ => X.length - (RowKit.intOf i).toNat)
        case atStart => exact ⟨0, by omega, rfl, gb_refl _ _, _, [], HKW.out, ⟨by simp, ⟨by simp [thsL], Or.inl ⟨rfl, by simp⟩⟩, fun k x q hx => by simp at hx⟩⟩
        case round =>
          obtain ⟨k, hk, rfl, hg, v, qs, hv, ho⟩ := hrel
          have hbw := gb_to_below HBW.out hg (by have := HMB.out; omega)
          have hpr := gb_blk hg HPW.out (by omega)
          have hmr : IMapN wr mb (if t = true then X.length else 0) (placeF2 t (X.length + 1)) := HMW.out.kept (hg.block mb HMW.out.lt (by simp; omega))
          have HBWR := Lib.hid hbw
          by_cases hlk : k < X.length
          · obtain ⟨x, hx⟩ : ∃ x, X[k]? = some x := ⟨_, List.getElem?_eq_getElem hlk⟩
            obtain ⟨b2, off, q2, hae, hlt, _, hhas, c0, c1⟩ := (HT.out.below hbw).cells hx
            have hki : (k : Int) < (X.length : Int) := by omega
            have hk0 : (0 : Int) ≤ (k : Int) := Int.natCast_nonneg _
            have hk50 : (k : Int) ≤ 50 := by omega
            have hkp : (0 : Int) < (k : Int) + 1 := by omega
            obtain ⟨w5, hw5⟩ : ∃ w5, w5 = wr.alloc (.cells #[.string ⟨⟨x.ty⟩⟩, .slice q2.1 x.has.length q2.2] 33) := ⟨_, rfl⟩
            obtain ⟨G, hG⟩ : ∃ G, G = wr.heap.size := ⟨_, rfl⟩
            have hal : Below wr.heap.size wr w5 := by rw [hw5]; exact bl_alloc (Below.refl _ _) _
            have HK := Lib.hid (show Blk w5 G 33 #[.string ⟨⟨x.ty⟩⟩, .slice q2.1 x.has.length q2.2] by rw [hw5, hG]; exact blk_new _ _ _ _ rfl)
            have HP5 := Lib.hid (hpr.below hal)
            have HM5 := Lib.hid (hmr.below hal)
            have HG5 := Lib.hid (gb_below hg hal)
            have HV5 := Lib.hid (hv.below hal)
            have HO5 := Lib.hid (ho.below hal)
            have HH5 := Lib.hid (hhas.below hal)
            have HXI := Lib.hid (fun v hv => HIN.out x (List.mem_of_getElem? hx) v hv)
            have HXE := Lib.hid (HXL.out x (List.mem_of_getElem? hx))
            have HTK := Lib.hid (show X.take (k + 1) = X.take k ++ [x] by rw [List.take_add_one, hx]; rfl)
            have hGK : G ≠ K := by have := hg.size; omega
            have hvG : v.ownBlock ≠ some G := fun e => by have := (ho.row.lt _ e).2; omega
            have y0 := HP5.out.cell 0
            have y1 := HP5.out.lt
            rw [hae]
            cases t with
            | false =>
              have hlook : (Instr.lookup 89 (.map (some mb)) (.int .i64 ((k : Int) + 1)) false).run Tryz.prog w5 = .ok (.int .i64 0) w5 := by
                have := IMap.look_none (P := Tryz.prog) (w := w5) Tryz.underlying3 Tryz.underlying89 HM5.out.1 (wf_nat (z := (k : Int) + 1) (by omega)) (place_no _ _) (zv := .int .i64 0) (by kernel_rfl) false
                simpa using this
              have HO6 := Lib.hid (show OwnT w5 W0.heap.size v ((keptOf false X).take (k + 1)) qs by simpa [keptOf] using HO5.out)
              clear hg hv ho hx hhas hbw hpr hmr hae hal
              go_upto_region 16 with fail
              rw [← hw5]
              clear hw5 c0 c1
              go_wp2_with fail
              go_roundw
              case rel => exact ⟨k + 1, by omega, by go_num, HG5.out, v, qs, HV5.out, HO6.out⟩
              case measure => simp [RowKit.intOf]; omega
            | true =>
              have hlook := stay_look HM5.out.1 (wf_nat (z := (k : Int) + 1) (by omega)) (Or.inl (place_at (n := X.length) (z := (k : Int) + 1) (by omega)))
              have htl : (X.take k).length = k := by rw [List.length_take]; omega
              have HOX := Lib.hid (show OwnT w5 W0.heap.size v (X.take k) qs from HO5.out)
              have HCL := Lib.hid (fun W (hw : Below w5.heap.size w5 W) => moved_calls (placeF2 true (X.length + 1)) X.length mb (mb + 1) x.has q2 W (HH5.out.below hw) (by have := HXE.out; omega) (by have := (HM5.out.below hw).1; simpa using this) (HP5.out.below hw) (fun v hv => stay_all h50 (HXI.out v hv)))
              have HS := Lib.hid (fun W' (hW' : Blk W' G 33 #[.string ⟨⟨x.ty⟩⟩, .slice q2.1 x.has.length q2.2]) => (show W'.cell? ⟨G, 0, none⟩ = some (.string ⟨⟨x.ty⟩⟩) ∧ W'.cell? ⟨G, 1, none⟩ = some (.slice q2.1 x.has.length q2.2) from ⟨hW'.cell 0, hW'.cell 1⟩))
              have HONE := Lib.hid (fun q => th_one x q)
              clear hg hv ho hx hhas hbw hpr hmr hae hal
              go_upto_region 16 with fail
              rw [← hG, ← hw5]
              clear hw5 c0 c1
              go_upto_region 17 with fail
              have g0 := HV5.out.cell 0
              have gl := HV5.out.lt
              clear hlook y0 y1 hG
              rw [show ({ dst := some 57, op := Op.load 23 (Operand.tmp 56), type := 23, pos := "sweep.go:84", after := #[{ on := 0, ground := Ground.data }], guard := none } : Oper) = ldOut from rfl]
              have q1 := ldOut_op
              have q2' := ldOut_dst
              have q3 := ldOut_guard
              go_region_held3 (fun W' => W'.cell? ⟨G, 0, none⟩ = some (.string ⟨⟨x.ty⟩⟩) ∧ W'.cell? ⟨G, 1, none⟩ = some (.slice q2.1 x.has.length q2.2))
                (first | (exact HS.out _ (by first | exact HK.out | exact HK.out.drew | exact hk5 | exact hk5.alloc _ | exact hk6 | exact blk_ne hk6 hGK _)))
                ((first
                | (go_at_call 34
                   refine (HCL.out _ (Below.refl _ _).drew).mono ?_
                   rintro e w6 ⟨q, rfl, hq5, hb5⟩
                   have hb45 := bl_trans (Below.refl w5.heap.size w5).drew hb5
                   have hg5 := gb_below HG5.out hb45
                   have hv5 := HV5.out.below hb45
                   have ho5 := HOX.out.below hb45
                   have hk5 := HK.out.below hb45
                   have hq5' := own_down hq5 (show W0.heap.size ≤ w5.drew.heap.size from HG5.out.size)
                   have g5 := hv5.cell 0
                   have gl5 := hv5.lt
                   have gs5 := hg5.size
                   have ho5r := ho5.row
                   rw [htl] at ho5r)
                | (refine step_app rowThing rfl (.tmp 57) (.tmp 65) rfl W0.heap.size _ k (thsL (X.take k) qs) rfl ?_ _ 1 (thCells x q) rfl (Or.inr ?_) ?_ ?_ ?_ ?_
                   · first | exact ho5r.alloc _ | exact (ho5r.alloc _).drew
                   · first | exact one_src _ (thCells x q) _ 2 _ (by rfl) rfl (HONE.out q) | exact one_drew (one_src _ (thCells x q) _ 2 _ (by rfl) rfl (HONE.out q)) | exact one_src _ (thCells x q) _ 2 _ (by simp) rfl (HONE.out q)
                   · omega
                   · omega
                   · first | (simp; omega) | omega
                   intro v6 w7 ho6 hgr6 hv6
                   have hg6 : W0.grownBy w7 (some K) := gb_grown (gb_alloc hg5 _) hgr6 hv6
                   have hne6 : v.ownBlock ≠ some K := fun e => by have := hv6 _ e; omega
                   have hbk6 := blk_grown (hv5.below ((Below.refl _ _).alloc (Nat.le_refl _) _)) hgr6 hne6
                   have hk6 := blk_grown (hk5.below ((Below.refl _ _).alloc (Nat.le_refl _) _)) hgr6 hvG
                   have g6 := hbk6.cell 0
                   have gz6 := hbk6.frozen 0
                   have gl6 := hbk6.lt
                   have hot6 := OwnT.more (ho5.below ((Below.refl _ _).alloc (Nat.le_refl _) _)) (own_below hq5' ((Below.refl _ _).alloc (Nat.le_refl _) _)) hgr6 (by rw [htl]; exact ho6)
                   obtain ⟨A6, C6, rfl, _⟩ := slice_of_own ho6)))
              all_goals
                have hg7 := Lib.hid (gb_set hg6 0 (.slice A6 (k + 1) C6))
                have hbk7 := Lib.hid (show Blk (w7.setCell ⟨K, 0, none⟩ (.slice A6 (k + 1) C6)) K 25 #[.slice A6 (k + 1) C6] from blk_set hbk6 0 (.slice A6 (k + 1) C6))
                have ho7 := Lib.hid (hot6.set (g := K) (j := 0) (.slice A6 (k + 1) C6) (by omega))
                generalize w7.setCell ⟨K, 0, none⟩ (.slice A6 (k + 1) C6) = w8 at *
                clear q1 q2' q3 hg5 hv5 ho5 hk5 hq5' hb45 g5 gl5 gs5 ho5r ho6 hgr6 hv6 hg6 hne6 hbk6 hk6 g6 gz6 gl6 hot6 HS g0 gl
                go_wp2_with fail
                go_roundw
                case rel =>
                  (repeat apply Exists.intro)
                  refine ⟨⟨k + 1, by omega, by go_num, hg7.out, _, qs ++ [q], hbk7.out, by rw [show keptOf true X = X from rfl, HTK.out]; exact ho7.out⟩, ?_⟩
                  (repeat' apply And.intro) <;> rfl
                case measure => simp [RowKit.intOf]; omega
          · obtain rfl : k = X.length := by omega
            have htk : (keptOf t X).take X.length = keptOf t X := by cases t <;> simp [keptOf]
            rw [htk] at ho
            obtain ⟨A, C, rfl, _⟩ := slice_of_own ho.row
            obtain ⟨m, hm⟩ : ∃ m, m = (keptOf t X).length := ⟨_, rfl⟩
            obtain ⟨rl, hrl⟩ : ∃ rl, rl = (rootsOf t X.length).length := ⟨_, rfl⟩
            have hrl50 : rl ≤ 50 := by rw [hrl, rootsOf_len]; split <;> omega
            have HCR := Lib.hid (show ∀ W, Below wr.heap.size wr W → Calls Tryz.prog 34 #[.slice p.1 rl p.2, .pointer (some ⟨mb + 1, 0, none⟩)] W fun e w' => ∃ q : HA, e = .returned (.slice q.1 rl q.2) ∧ OwnV w' W.heap.size (rootsOf t X.length) q ∧ Below W.heap.size W w' from fun W hw => by
              have h := moved_calls (placeF2 t (X.length + 1)) (if t = true then X.length else 0) mb (mb + 1) (rootsOf t X.length) p W ((HR.out.below hbw).below hw) (by omega) (hmr.below hw).1 (hpr.below hw) (fun v hv => by
                cases t with
                | true => obtain ⟨_, h1, h2⟩ := roots_in hv; exact stay_all h50 (fun _ => ⟨by omega, h2⟩)
                | false => cases hv)
              rw [← hrl] at h
              exact h)
            rw [← hm] at hv
            have HM := Lib.hid hm
            have HRL := Lib.hid hrl
            have HV := Lib.hid hv
            rw [← hm] at ho
            have HO := Lib.hid ho
            have HZR := Lib.hid (gb_blk hg HZW.out (by have := HMB.out; omega))
            have HS := Lib.hid (fun W' (hW' : Blk W' K 25 #[.slice A m C]) => (show W'.cell? ⟨K, 0, none⟩ = some (.slice A m C) from hW'.cell 0))
            have hKs : K < wr.heap.size := hv.lt
            have hKne : K ≠ w.heap.size + 1 := by have := HMB.out; omega
            clear hg hv ho hbw hpr hmr hm htk
            go_upto_region 19 with fail
            rw [← hrl]
            clear hrl
            go_region_held3 (fun W' => W'.cell? ⟨K, 0, none⟩ = some (.slice A m C))
              (first | (exact HS.out _ HV.out) | (exact HS.out _ HV.out.drew) | (exact HS.out _ hk5) | (exact HS.out _ (blk_ne hk5 hKne _)))
              ((go_at_call 34
                refine (HCR.out _ (Below.refl _ _).drew).mono ?_
                rintro e w5 ⟨q, rfl, hq5, hb5⟩
                have hb45 := bl_trans (Below.refl wr.heap.size wr).drew hb5
                have hk5 := HV.out.below hb45
                have hz5 := HZR.out.below hb45
                have z0 := hz5.cell 0
                have z1 := hz5.frozen 0
                have z2 := hz5.lt))
            all_goals
              have HOT := Lib.hid ((HO.out.below hb45).down (show w.heap.size ≤ W0.heap.size from HBW.out.size))
              have HO9 := Lib.hid (HOT.out.put (j := 0) hz5 (by decide) (by decide) (.slice A m C))
              have HQ9 := Lib.hid (show OwnV (w5.setCell ⟨w.heap.size + 1, 0, none⟩ (.slice A m C)) w.heap.size (rootsOf t X.length) q from own_set (own_down hq5 (show w.heap.size ≤ wr.drew.heap.size from HBWR.out.size)) (fun e => by have := (hq5.lt _ e).1; have h2 := HMB.out; have h3 : wr.heap.size ≤ w.heap.size + 1 := this; omega) _)
              have y0 := (blk_set hz5 0 (.slice A m C)).cell 0
              have HB9 := Lib.hid ((bl_trans HBWR.out hb45).setCell (p := ⟨w.heap.size + 1, 0, none⟩) (by show w.heap.size ≤ w.heap.size + 1; omega) (.slice A m C))
              clear hb45 hk5 hz5 z0 z1 z2 HS hq5 hb5
              generalize w5.setCell ⟨w.heap.size + 1, 0, none⟩ (.slice A m C) = w9 at *
              go_wp2_with fail
              exact bodyPost_ret (v := .tuple #[.agg #[.slice A m C], .slice q.1 rl q.2, .nilIface]) (by simp [results, Tryz.results12, go_sem, y0]) rfl ⟨HB9.out, Or.inr ⟨HZZ.out, .slice A m C, qs, q, by rw [HRL.out], HO9.out, HQ9.out⟩⟩
  · rw [errOf_ne hz]
    have HNZ := Lib.hid hz
    obtain ⟨z, hze⟩ : ∃ z, z = hpErr l X := ⟨_, rfl⟩
    rw [← hze]
    have HZE := Lib.hid hze
    have e8 := (HZ.out.below hb2).cell 0
    have e9 := (HZ.out.below hb2).frozen 0
    have e10 := (HZ.out.below hb2).lt
    have y0 := (blk_set (HZ.out.below hb2) 0 (.slice none 0 0)).cell 0
    have HB9 := Lib.hid ((bl_trans HB1.out hb2).setCell (p := ⟨w.heap.size + 1, 0, none⟩) (by show w.heap.size ≤ w.heap.size + 1; omega) (.slice none 0 0))
    clear hz hb2 HRD hze
    go_wp2_with fail
    exact bodyPost_ret (v := .tuple #[.agg #[.slice none 0 0], .slice none 0 0, errV z]) (by simp [results, Tryz.results12, go_sem, y0]) rfl ⟨HB9.out, Or.inl ⟨HNZ.out, by rw [← HZE.out]⟩⟩
end Go.Proofs.YtanjggdmgeedlaaGreatDoor
