/-
  The walks of trim.places, trim.left and trim.Code.
-/
import Derived.Test.YtimkingebjhemaaDoorFrom
import Derived.Test.YtimkingebjhemaaDoorPTrim
import Derived.BigQuiet
import Derived.Deep.QuietTactic
namespace Go.Proofs.YtimkingebjhemaaDoor
set_option linter.unusedVariables false
set_option linter.unusedSimpArgs false
open Go.RowKit Go.Shelf Go.Lib

theorem own_set {w : World} {B : Nat} {e : TypeId} {size : Nat} {v : Value} {n : Nat} {xs : List Value} (h : w.ownsRow B e size v n xs) {g j : Nat} (hne : ∀ k, v.ownBlock = some k → k ≠ g) (u : Value) : (w.setCell ⟨g, j, none⟩ u).ownsRow B e size v n xs := by
  have hg : w.grownBy (w.setCell ⟨g, j, none⟩ u) (some g) := ⟨rfl, rfl, rfl, by simp [World.setCell], fun i _ hi => Below.heap_setCell w ⟨g, j, none⟩ u i (fun e => hi (by rw [e]))⟩
  refine h.kept hg ?_
  cases hv : v.ownBlock with
  | none => exact Or.inl rfl
  | some k => right; intro e; exact hne k hv (Option.some.inj e)

/-- the new places, so far -/
def plUp (k : List Bool) (N i : Nat) : List Value := (List.range N).map fun j => intV (if j < i then cnt k j else 0)
theorem plUp_zero (k : List Bool) (N : Nat) : plUp k N 0 = List.replicate N (.int .i64 0) := by
  unfold plUp
  apply List.ext_getElem
  · simp
  · intro i h1 h2; simp
theorem plUp_len (k : List Bool) (N i : Nat) : (plUp k N i).length = N := by simp [plUp]
theorem plUp_set (k : List Bool) (N i : Nat) : (plUp k N i).set i (intV (cnt k i)) = plUp k N (i + 1) := by
  unfold plUp
  apply List.ext_getElem
  · simp
  · intro j h1 h2
    rw [List.getElem_set]
    simp only [List.getElem_map, List.getElem_range]
    by_cases e : i = j
    · subst e; simp
    · rw [if_neg e]
      by_cases h : j < i
      · rw [if_pos h, if_pos (by omega)]
      · rw [if_neg h, if_neg (by omega)]
theorem plUp_get (k : List Bool) {N j : Nat} (h : j < N) : (plUp k N N)[j]? = some (intV (cnt k j)) := by
  unfold plUp
  rw [List.getElem?_map, List.getElem?_range h]
  simp [h]

def PlacesRes (k : List Bool) (N : Nat) (w : World) (e : Ending) (w' : World) : Prop :=
  ∃ v, e = .returned v ∧ w'.ownsRow w.heap.size 3 1 v N (plUp k N N) ∧ Below w.heap.size w w'

theorem info_int : (Tryd.prog.info? 3).map (fun i => (i.zero, i.size, i.bytes)) = some (some (.int .i64 0), 1, 8) := by kernel_rfl

set_option maxRecDepth 100000 in
set_option maxHeartbeats 1000000 in
theorem places_calls (l : List InsR) (a : Option Addr) (cap : Nat) (seen : List Bool) (ka : Option Addr) (kc : Nat) (w : World) (hC : CodeAt w a cap l) (hl : l.length ≤ 40) (hs : seen.length = l.length) (hV : ValsAt w ka kc (seen.map .bool)) :
    Calls Tryd.prog 36 #[.slice a l.length cap, .slice ka l.length kc] w fun e w' => PlacesRes (keptL l seen) (l.length + 1) w e w' := by
  have HC := Lib.hid hC
  have HV := Lib.hid hV
  have HS := Lib.hid hs
  clear hC hV hs
  obtain ⟨k, hk⟩ : ∃ k, k = keptL l seen := ⟨_, rfl⟩
  have HK := Lib.hid hk
  rw [← hk]
  clear hk
  go_enter Tryd.func36, Tryd.ntmps36
  go_wp2_with (at_make; refine wpList_make_ones Tryd.underlying22 info_int rfl (by decide) rfl _ _ rfl w.heap.size _ _ (l.length + 1) rfl rfl ?c1 ?c2 ?c3 ?c4 ?_)
  case c1 => rfl
  case c2 => rfl
  case c3 => omega
  case c4 => exact Nat.le_refl _
  intro w1 ho1 hg1
  have hb1 : Below w.heap.size w w1 := (Below.refl _ _).grown hg1 (Nat.le_refl _) (by intro k hk; cases hk)
  rw [← plUp_zero k] at ho1
  have HO1 := Lib.hid ho1
  have HB1 := Lib.hid hb1
  clear ho1 hb1 hg1
  go_wp2_with fail
  go_loopw [6, 15] (fun n i wr => ∃ j : Nat, j ≤ l.length ∧ i = .int .i64 j ∧ n = .int .i64 (cnt k j) ∧ wr.ownsRow w.heap.size 3 1 (.slice (some ⟨w.heap.size, 0, none⟩) (l.length + 1) (l.length + 1)) (l.length + 1) (plUp k (l.length + 1) j) ∧ Below w.heap.size w wr) (fun _ i _ => l.length - (RowKit.intOf i).toNat)
  case atStart => exact ⟨0, by omega, rfl, by rw [cnt_zero]; rfl, HO1.out, HB1.out⟩
  case round =>
    obtain ⟨j, hj, rfl, rfl, ho, hb⟩ := hrel
    have hcj := cnt_le k j
    have hsz := hb.size
    have hSl := (ho.lt _ rfl).2
    have HO := Lib.hid ho
    have HB := Lib.hid hb
    by_cases hlj : j < l.length
    · obtain ⟨x, hx⟩ : ∃ x, l[j]? = some x := ⟨_, List.getElem?_eq_getElem hlj⟩
      have hcw := HC.out.below hb
      obtain ⟨b, off, rfl, hlt, c0, c1, c2, c3, c4, c5⟩ := hcw.cells hx
      obtain ⟨sb, hsb⟩ : ∃ sb, seen[j]? = some sb := ⟨_, List.getElem?_eq_getElem (by rw [HS.out]; exact hlj)⟩
      have hkj := keptL_get l seen j x sb hx hsb
      rw [← HK.out] at hkj
      have HN := Lib.hid (cnt_succ k j _ hkj)
      obtain ⟨_, h0 | ⟨kb, koff, rfl, hkb, hkc⟩⟩ := HV.out
      · rw [List.map_eq_nil_iff] at h0; rw [h0] at hsb; simp at hsb
      have hkcell : wr.cell? ⟨kb, koff + j, none⟩ = some (.bool sb) := by rw [hb.cell (p := ⟨kb, koff + j, none⟩) hkb]; exact hkc j _ (by rw [List.getElem?_map, hsb]; rfl)
      have hcs : wr.cell? ⟨w.heap.size, j, none⟩ = some ((plUp k (l.length + 1) j)[j]'(by rw [plUp_len]; omega)) := by
        rw [ho.cellAt j (by omega)]; exact List.getElem?_eq_getElem _
      generalize (plUp k (l.length + 1) j)[j]'(by rw [plUp_len]; omega) = old at hcs
      have hfs : wr.frozen? ⟨w.heap.size, j, none⟩ = false := ho.frozenAt j
      have hne : kb ≠ w.heap.size := by omega
      have hkb2 : kb < wr.heap.size := by omega
      have hks : (wr.setCell ⟨w.heap.size, j, none⟩ (.int .i64 (cnt k j))).cell? ⟨kb, koff + j, none⟩ = some (.bool sb) := by
        rw [World.cell?_setCell_other _ _ _ _ (by intro e; injection e with e1; omega)]; exact hkcell
      have hst := (ho.stored j (intV (cnt k j))).1
      rw [plUp_set] at hst
      have HST := Lib.hid hst
      have HBN := Lib.hid (hb.setCell (p := ⟨w.heap.size, j, none⟩) (Nat.le_refl _) (intV (cnt k j)))
      clear hst hcw hx hsb hkj hkc ho hb
      cases sb with
      | false =>
        go_wp2_with fail
        go_roundw
        case rel => exact ⟨j + 1, by omega, by go_num, by rw [HN.out]; rfl, HST.out.alloc _, HBN.out.alloc (by simp [World.setCell]; omega) _⟩
        case measure => simp [RowKit.intOf]; omega
      | true =>
        by_cases h1 : x.op = 1
        · rw [h1] at c0 HN
          go_wp2_with fail
          go_roundw
          case rel => exact ⟨j + 1, by omega, by go_num, by rw [HN.out]; rfl, HST.out.alloc _, HBN.out.alloc (by simp [World.setCell]; omega) _⟩
          case measure => simp [RowKit.intOf]; omega
        · have e1 : (x.op != 1) = true := by rw [bne_iff_ne]; exact h1
          have e2 : (x.op == 1) = false := by rw [beq_eq_false_iff_ne]; exact h1
          have HN2 := Lib.hid (show cnt k (j + 1) = cnt k j + 1 by rw [HN.out, e1]; rfl)
          clear h1
          go_wp2_with fail
          go_roundw
          case rel => exact ⟨j + 1, by omega, by go_num, by rw [HN2.out]; go_num, HST.out.alloc _, HBN.out.alloc (by simp [World.setCell]; omega) _⟩
          case measure => simp [RowKit.intOf]; omega
    · obtain rfl : j = l.length := by omega
      have hcs : wr.cell? ⟨w.heap.size, l.length, none⟩ = some ((plUp k (l.length + 1) l.length)[l.length]'(by rw [plUp_len]; omega)) := by
        rw [ho.cellAt l.length (by omega)]; exact List.getElem?_eq_getElem _
      generalize (plUp k (l.length + 1) l.length)[l.length]'(by rw [plUp_len]; omega) = old at hcs
      have hfs : wr.frozen? ⟨w.heap.size, l.length, none⟩ = false := ho.frozenAt l.length
      have hst := (ho.stored l.length (intV (cnt k l.length))).1
      rw [plUp_set] at hst
      have HST := Lib.hid hst
      have HBN := Lib.hid (hb.setCell (p := ⟨w.heap.size, l.length, none⟩) (Nat.le_refl _) (intV (cnt k l.length)))
      clear hst ho hb hlj
      go_wp2_with fail
      go_ret
      exact ⟨_, rfl, HST.out, HBN.out⟩

def LeftRes (l : List InsR) (k : List Bool) (w : World) (e : Ending) (w' : World) : Prop :=
  ∃ v va, e = .returned (.tuple #[v, va]) ∧ w'.ownsRow w.heap.size 36 6 v (leftOf k l k).length ((leftOf k l k).map insCells).flatten ∧ Below w.heap.size w w'

theorem leftOf_le (k : List Bool) (l : List InsR) (s : List Bool) : (leftOf k l s).length ≤ l.length := by
  induction l generalizing s with
  | nil => cases s <;> simp [leftOf]
  | cons x r ih =>
    cases s with
    | nil => simp [leftOf]
    | cons b t =>
      have := ih t
      cases b <;> simp [leftOf] <;> omega

set_option maxRecDepth 100000 in
set_option maxHeartbeats 2000000 in
theorem left_calls (l : List InsR) (a : Option Addr) (cap : Nat) (seen : List Bool) (ka : Option Addr) (kc : Nat) (w : World) (hC : CodeAt w a cap l) (hok : FlowOk l) (hs : seen.length = l.length) (hV : ValsAt w ka kc (seen.map .bool)) :
    Calls Tryd.prog 18 #[.slice a l.length cap, .slice ka l.length kc] w fun e w' => LeftRes l (keptL l seen) w e w' := by
  have hl := hok.len
  have HP := Lib.hid (places_calls l a cap seen ka kc w hC hl hs hV)
  have hkl := keptL_len l seen hs
  have HC := Lib.hid hC
  have HOK := Lib.hid hok
  clear hC hV hs hok
  generalize keptL l seen = k at HP hkl ⊢
  have HKL := Lib.hid hkl
  clear hkl
  go_enter Tryd.func18, Tryd.ntmps18
  go_wp2_with fail
  refine HP.out.mono ?_
  rintro e w1 ⟨v, rfl, ho, hb⟩
  obtain ⟨pa, pc, rfl, _, hv⟩ := vals_of_own ho
  have HPV := Lib.hid hv
  have HB1 := Lib.hid hb
  have HC1 := Lib.hid (HC.out.below hb)
  clear ho hv hb HP HC
  go_wp2_with fail
  go_loopw [7, 15] (fun v i wr => ∃ (j : Nat) (A : Option Addr) (C : Nat), j ≤ l.length ∧ i = .int .i64 j ∧ v = .slice A (leftOf k (l.take j) (k.take j)).length C ∧ wr.ownsRow w1.heap.size 36 6 (.slice A (leftOf k (l.take j) (k.take j)).length C) (leftOf k (l.take j) (k.take j)).length ((leftOf k (l.take j) (k.take j)).map insCells).flatten ∧ Below w1.heap.size w1 wr) (fun _ i _ => l.length - (RowKit.intOf i).toNat)
  case atStart => exact ⟨0, none, 0, by omega, rfl, by simp [leftOf], by simpa [leftOf] using World.ownsRow_nil _ _ _ _, Below.refl _ _⟩
  case round =>
    obtain ⟨j, A, C, hj, rfl, rfl, ho, hb⟩ := hrel
    have hle : (leftOf k (l.take j) (k.take j)).length ≤ j := by
      have := leftOf_le k (l.take j) (k.take j)
      rw [List.length_take] at this
      omega
    have HO := Lib.hid ho
    have HB := Lib.hid hb
    have hsz := hb.size
    by_cases hlj : j < l.length
    · obtain ⟨x, hx⟩ : ∃ x, l[j]? = some x := ⟨_, List.getElem?_eq_getElem hlj⟩
      have hcw := HC1.out.below hb
      obtain ⟨b, off, rfl, hlt, c0, c1, c2, c3, c4, c5⟩ := hcw.cells hx
      obtain ⟨kb, hkb⟩ : ∃ kb, k[j]? = some kb := ⟨_, List.getElem?_eq_getElem (by rw [HKL.out]; exact hlj)⟩
      have hins := HOK.out.ins x (List.mem_of_getElem? hx)
      have hjump := HOK.out.jump x (List.mem_of_getElem? hx)
      obtain ⟨_, h0 | ⟨pb, po, rfl, hpb, hpc⟩⟩ := HPV.out.below hb
      · have := plUp_len k (l.length + 1) (l.length + 1); rw [h0] at this; simp at this
      have p0 := hpc j _ (plUp_get k (by omega))
      have p1 := hpc (j + 1) _ (plUp_get k (by omega))
      have hcs := cnt_succ k j kb hkb
      have hstep := leftOf_take k l k j x kb HKL.out hx hkb
      have hcj := cnt_le k j
      have HPC := Lib.hid hpc
      have HJ := Lib.hid (fun w => jumps_same x.op w)
      have i0 : (0 : Int) ≤ (j : Int) := by omega
      have i1 : (j : Int) < (l.length : Int) := by omega
      clear hcw hx hkb hpc ho hb
      generalize hcn : cnt k j = cn at p0 hcs hcj
      cases kb with
      | false =>
        rw [hcs] at p1
        simp only [Bool.false_eq_true, if_false, Nat.add_zero] at p1 hstep
        rw [List.append_nil] at hstep
        have HSTEP := Lib.hid hstep
        clear hstep hcs hcn hins hjump
        go_wp2_with fail
        go_quiet (fail)
        go_wp2_with fail
        go_roundw
        case rel => exact ⟨j + 1, A, C, by omega, by go_num, by rw [HSTEP.out], by rw [HSTEP.out]; exact (HO.out.alloc _), (HB.out.alloc hsz _).trans ⟨rfl, rfl, rfl, Nat.le_refl _, fun _ _ => rfl⟩⟩
        case measure => simp [RowKit.intOf]; omega
      | true =>
        rw [hcs] at p1
        simp only [if_true] at p1 hstep
        have q1 : wr.cell? ⟨pb, po + (j + 1), none⟩ = some (.int .i64 ((cn : Int) + 1)) := p1
        have q0 : wr.cell? ⟨pb, po + j, none⟩ = some (.int .i64 (cn : Int)) := p0
        have e1 : (((cn : Int) + 1) == (cn : Int)) = false := by rw [beq_eq_false_iff_ne]; omega
        have hlen : (leftOf k (l.take (j + 1)) (k.take (j + 1))).length = (leftOf k (l.take j) (k.take j)).length + 1 := by rw [hstep]; simp
        have HLEN := Lib.hid hlen
        have HSTEP := Lib.hid hstep
        clear hstep hcs hcn p0 p1 hlen
        cases hj2 : jumpsB x.op with
        | false =>
          have HMV := Lib.hid (show insCells (movedR k x) = [.int .i64 x.op, .int .i64 x.a, .int .i64 x.b, .string ⟨⟨x.ty⟩⟩, .string ⟨⟨x.cl⟩⟩, .string ⟨⟨x.nm⟩⟩] by unfold movedR; rw [if_neg (by rw [hj2]; simp)]; rfl)
          rw [hj2] at HJ
          clear hj2 hins hjump
          generalize hN : (leftOf k (l.take j) (k.take j)).length = N at *
          go_wp2_with fail
          go_quiet (fail)
          go_wp2_with fail
          refine (HJ.out _).mono ?_
          rintro e w3 ⟨rfl, rfl⟩
          go_wp2_with (at_builtin; refine wpList_append_one rowIns rfl _ _ rfl w1.heap.size _ N ((leftOf k (l.take j) (k.take j)).map insCells).flatten rfl ?c0 [.int .i64 x.op, .int .i64 x.a, .int .i64 x.b, .string ⟨⟨x.ty⟩⟩, .string ⟨⟨x.cl⟩⟩, .string ⟨⟨x.nm⟩⟩] rfl ?c1 _ rfl ?cg ?c2 ?c3 ?c4 ?_)
          case c0 => exact own_dn (HO.out.alloc _) nq
          case c1 => intro u hu; rw [← HMV.out] at hu; exact insCells_one _ u hu
          case cg => simp
          case c2 => omega
          case c3 => omega
          case c4 => simp; omega
          intro v4 w4 ho4 hg4
          have hb4 := Lib.hid ((below_dn (HB.out.alloc hsz _) nq).trans (grown_below (by simp; omega) (own_dn (HO.out.alloc _) nq) hg4))
          have ho5 : w4.ownsRow w1.heap.size 36 6 v4 (leftOf k (l.take (j + 1)) (k.take (j + 1))).length ((leftOf k (l.take (j + 1)) (k.take (j + 1))).map insCells).flatten := by rw [HLEN.out, HSTEP.out, flat_snoc, HMV.out]; exact ho4
          obtain ⟨A4, C4, rfl, _⟩ := slice_of_own ho5
          have HO5 := Lib.hid ho5
          clear ho4 hg4 ho5
          go_wp2_with fail
          go_roundw
          case rel => exact ⟨j + 1, A4, C4, by omega, by go_num, rfl, HO5.out, hb4.out⟩
          case measure => simp [RowKit.intOf]; omega
        | true =>
          obtain ⟨r1, r2, _⟩ := jumps_ranged hins hj2
          have hja := hjump hj2
          obtain ⟨t, ht⟩ : ∃ t : Nat, x.a = t := ⟨x.a.toNat, by omega⟩
          have htl : t < l.length := by omega
          have q2 : wr.cell? ⟨pb, po + t, none⟩ = some (.int .i64 (cnt k t)) := HPC.out t _ (plUp_get k (by omega))
          have HMV := Lib.hid (show insCells (movedR k x) = [.int .i64 x.op, .int .i64 (cnt k t), .int .i64 x.b, .string ⟨⟨x.ty⟩⟩, .string ⟨⟨x.cl⟩⟩, .string ⟨⟨x.nm⟩⟩] by
            unfold movedR; rw [if_pos hj2, ht]; rfl)
          rw [hj2] at HJ
          rw [ht] at c1
          clear hj2 hins hjump ht r1 r2 hja
          generalize hN : (leftOf k (l.take j) (k.take j)).length = N at *
          go_wp2_with fail
          go_quiet (fail)
          go_wp2_with fail
          refine (HJ.out _).mono ?_
          rintro e w3 ⟨rfl, rfl⟩
          have HOW := Lib.hid (fun o => own_set (j := 1) (own_dn (HO.out.alloc o) nq) (fun k' hk' => by have := (HO.out.lt k' hk').2; show k' ≠ wr.heap.size; omega) (.int .i64 (cnt k t)))
          go_wp2_with (at_builtin; refine wpList_append_one rowIns rfl _ _ rfl w1.heap.size _ N ((leftOf k (l.take j) (k.take j)).map insCells).flatten rfl ?c0 [.int .i64 x.op, .int .i64 (cnt k t), .int .i64 x.b, .string ⟨⟨x.ty⟩⟩, .string ⟨⟨x.cl⟩⟩, .string ⟨⟨x.nm⟩⟩] rfl ?c1 _ rfl ?cg ?c2 ?c3 ?c4 ?_)
          case c0 => exact HOW.out _
          case c1 => intro u hu; rw [← HMV.out] at hu; exact insCells_one _ u hu
          case cg => simp
          case c2 => omega
          case c3 => omega
          case c4 => simp; omega
          intro v4 w4 ho4 hg4
          have hb4 := Lib.hid (((below_dn (HB.out.alloc hsz _) nq).setCell (p := ⟨wr.heap.size, 1, none⟩) hsz _).trans (grown_below (by simp [World.setCell]; omega) (HOW.out _) hg4))
          have ho5 : w4.ownsRow w1.heap.size 36 6 v4 (leftOf k (l.take (j + 1)) (k.take (j + 1))).length ((leftOf k (l.take (j + 1)) (k.take (j + 1))).map insCells).flatten := by rw [HLEN.out, HSTEP.out, flat_snoc, HMV.out]; exact ho4
          obtain ⟨A4, C4, rfl, _⟩ := slice_of_own ho5
          have HO5 := Lib.hid ho5
          clear ho4 hg4 ho5
          go_wp2_with fail
          go_roundw
          case rel => exact ⟨j + 1, A4, C4, by omega, by go_num, rfl, HO5.out, hb4.out⟩
          case measure => simp [RowKit.intOf]; omega
    · obtain rfl : j = l.length := by omega
      have ho2 := ho
      rw [List.take_length, show k.take l.length = k by rw [← HKL.out]; exact List.take_length] at ho2
      have HO2 := Lib.hid ho2
      clear ho ho2 hb
      go_wp2_with fail
      go_ret2
      refine ⟨_, _, rfl, ?_, bl_trans HB1.out HB.out⟩
      have h1 := HO2.out.mono HB1.out.size
      have e1 : leftOf k (l.take l.length) (k.take l.length) = leftOf k l k := by rw [List.take_length, show k.take l.length = k by rw [← HKL.out]; exact List.take_length]
      first | exact h1 | (rw [← e1] at h1 ⊢; exact h1)

/-- what trim.Code leaves of right code -/
noncomputable def trimL (l : List InsR) (seen : List Bool) : List InsR := leftOf (keptL l seen) l (keptL l seen)

def TrimRes (l : List InsR) (w : World) (e : Ending) (w' : World) : Prop :=
  ∃ v seen, e = .returned (.tuple #[v, .nilIface]) ∧ Seen l seen ∧ w'.ownsRow w.heap.size 36 6 v (trimL l seen).length ((trimL l seen).map insCells).flatten ∧ Below w.heap.size w w'

theorem trim_bad (l : List InsR) (a : Option Addr) (cap : Nat) (w : World) (hC : CodeAt w a cap l) (hF : FormsAt w) (hT : ∀ x ∈ l, x.ty.length ≤ 8388608) (h : flowErr l ≠ 0) :
    Calls Tryd.prog 10 #[.slice a l.length cap] w fun e w' => e = .returned (.tuple #[.slice none 0 0, errV (flowErr l)]) ∧ Below w.heap.size w w' := by
  have HK := Lib.hid (flow_bad l a cap w hC hF hT h)
  generalize flowErr l = n at HK ⊢
  clear hC hF hT h
  go_enter Tryd.func10, Tryd.ntmps10
  go_wp2_with fail
  refine HK.out.mono ?_
  rintro e w1 ⟨rfl, hb1⟩
  go_wp2_with fail
  go_ret2
  exact ⟨rfl, hb1⟩

set_option maxRecDepth 100000 in
theorem trim_ok (l : List InsR) (a : Option Addr) (cap : Nat) (w : World) (hC : CodeAt w a cap l) (hF : FormsAt w) (hT : ∀ x ∈ l, x.ty.length ≤ 8388608) (h : FlowOk l) :
    Calls Tryd.prog 10 #[.slice a l.length cap] w fun e w' => TrimRes l w e w' := by
  have hpos : 0 < l.length := by
    have h1 := h.last
    cases l with
    | nil => simp [endOk] at h1
    | cons x r => simp
  have HK := Lib.hid (flow_ok l a cap w hC hF hT h)
  have HC := Lib.hid hC
  have HL := Lib.hid h
  clear hC hF hT h
  go_enter Tryd.func10, Tryd.ntmps10
  go_wp2_with fail
  refine HK.out.mono ?_
  rintro e w1 ⟨rfl, hb1⟩
  have HB1 := Lib.hid hb1
  have hc1 := Lib.hid (HC.out.below hb1)
  clear hb1
  go_wp2_with fail
  have hv : ValsAt (w1.alloc (.cells #[.int .i64 0] 3)) (some ⟨w1.heap.size, 0, none⟩) 1 [intV 0] := by
    refine ⟨by simp, Or.inr ⟨_, 0, rfl, by simp, fun j x hx => ?_⟩⟩
    rw [World.cell?_alloc_new, Nat.zero_add]
    cases j with
    | zero => simp at hx; rw [← hx]; rfl
    | succ j => simp at hx
  refine (from_calls l a cap [0] (some ⟨w1.heap.size, 0, none⟩) 1 _ (hc1.out.below ((Below.refl _ _).alloc (Nat.le_refl _) _)) HL.out (by simpa using hpos) (by simp) hv (by simp)).mono ?_
  rintro e w2 ⟨vs, seen, rfl, hos, hsl, hsi, hb2⟩
  have hb := bl_trans HB1.out (new_below hb2)
  have HB2 := Lib.hid hb
  have HSE := Lib.hid (Seen.mk hsl hsi)
  obtain ⟨sa, sc, rfl, _, hsv⟩ := vals_of_own hos
  have HLE := Lib.hid (left_calls l a cap seen sa sc w2 (HC.out.below hb) HL.out hsl hsv)
  clear hos hb2 hb hsv hsi hv hsl
  go_wp2_with fail
  refine HLE.out.mono ?_
  rintro e w3 ⟨v, va, rfl, ho3, hb3⟩
  have HO3 := Lib.hid ho3
  have HB3 := Lib.hid hb3
  clear ho3 hb3
  go_wp2_with fail
  go_ret2
  exact ⟨v, seen, rfl, HSE.out, HO3.out.mono HB2.out.size, bl_trans HB2.out HB3.out⟩
end Go.Proofs.YtimkingebjhemaaDoor
