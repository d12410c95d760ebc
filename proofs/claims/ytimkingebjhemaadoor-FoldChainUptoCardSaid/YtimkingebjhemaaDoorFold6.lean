/-
  The walk of fold.once where a sum is folded.
-/
import Derived.Test.YtimkingebjhemaaDoorFold5
namespace Go.Proofs.YtimkingebjhemaaDoor
set_option linter.unusedVariables false
set_option linter.unusedSimpArgs false
open Go.RowKit Go.Shelf Go.Lib

theorem code_zero {b off n cap : Nat} (h1 : 0 < n) (h2 : n ≤ cap) (W : World) : (Instr.slice 37 (.slice (some ⟨b, off, none⟩) n cap) (some (.int .i64 0)) none none).run Tryd.prog W = .ok (.slice (some ⟨b, off, none⟩) n cap) W := by
  have h := code_tail (b := b) (off := off) h1 h2 W
  simpa using h

theorem ins_src (W : World) (x : InsR) (g : Nat) (hg : g = W.heap.size) : SrcRow (W.alloc (.cells (iArr x) 36)) 6 (.slice (some ⟨g, 0, none⟩) 1 1) 1 (insCells x) := by
  subst hg
  exact ⟨rfl, insCells_one x, Or.inr ⟨_, _, rfl, fun j u hj => new_cells W (insCells x) 36 j u hj⟩⟩
theorem ins_src_drew (W : World) (x : InsR) (g : Nat) (hg : g = W.heap.size) : SrcRow (W.alloc (.cells (iArr x) 36)).drew 6 (.slice (some ⟨g, 0, none⟩) 1 1) 1 (insCells x) := ins_src W x g hg
theorem grown_any {W w' : World} {B : Nat} {v : Value} {e : TypeId} {size n : Nat} {xs : List Value} (hB : B ≤ W.heap.size) (hown : W.ownsRow B e size v n xs) (hg : W.grownBy w' v.ownBlock) : Below B W w' :=
  (Below.refl B W).grown hg hB (fun k hk => (hown.lt k hk).1)
theorem clone_none (b off cap : Nat) (w : World) (hb : b < w.heap.size) :
    Calls Tryd.prog 35 #[.slice (some ⟨b, off, none⟩) 0 cap] w fun e w' => ∃ v, e = .returned v ∧ w'.ownsRow w.heap.size 36 6 v 0 [] ∧ Below w.heap.size w w' :=
  clone_calls [] b off cap w ⟨rfl, by simp, Or.inr ⟨_, _, rfl, fun j u hj => by simp at hj⟩⟩ hb (by simp)

set_option maxRecDepth 100000 in
set_option maxHeartbeats 4000000 in
theorem once_sum (s u : Int) (r : List InsR) (hs : wrap32 s = s) (hu : wrap32 u = u) (b off cap : Nat) (w : World) (hC : CodeAt w (some ⟨b, off, none⟩) cap (pushI s :: pushI u :: addI :: r)) (hj : ∀ x ∈ r, jumpsB x.op = false) (hr : r ≠ []) (hl : r.length ≤ 900) :
    Calls Tryd.prog 17 #[.slice (some ⟨b, off, none⟩) (pushI s :: pushI u :: addI :: r).length cap] w fun e w' => ∃ v, e = .returned (.tuple #[v, .bool true]) ∧ w'.ownsRow w.heap.size 36 6 v (r.length + 3) ((pushI (wrap32 (s + u)) :: nopR :: nopR :: r).map insCells).flatten ∧ Below w.heap.size w w' := by
  have HKN := Lib.hid (fun W a cap h => known_sum s u hs hu r a cap W h)
  generalize hl0 : pushI s :: pushI u :: addI :: r = l at *
  have hj' : ∀ x ∈ l, jumpsB x.op = false := by
    intro x hx
    rw [← hl0] at hx
    simp only [List.mem_cons] at hx
    rcases hx with rfl | rfl | rfl | hx
    · rfl
    · rfl
    · rfl
    · exact hj x hx
  have hln : l.length = r.length + 3 := by rw [← hl0]; simp
  have hrl : 0 < r.length := List.length_pos_iff.2 hr
  have hd3 : l.drop 3 = r := by rw [← hl0]; rfl
  have HC := Lib.hid hC
  have HJ := Lib.hid hj'
  have HG0 := Lib.hid (goes_new w)
  have HB0 := Lib.hid (bl_alloc (bl_alloc (Below.refl w.heap.size w) (.map #[] 0)) (.cells #[.map (some w.heap.size)] 66))
  have hcap : l.length ≤ cap := by have := hC.1; simpa using this
  have hblt : b < w.heap.size := by
    obtain ⟨x, hx⟩ : ∃ x, l[0]? = some x := ⟨_, List.getElem?_eq_getElem (by omega)⟩
    obtain ⟨b', o', e, hlt, _⟩ := hC.cells hx
    simp only [Option.some.injEq, Addr.mk.injEq, and_true] at e
    rw [e.1]; exact hlt
  obtain ⟨w0, hw0⟩ : ∃ w0, w0 = (w.alloc (.map #[] 0)).alloc (.cells #[.map (some w.heap.size)] 66) := ⟨_, rfl⟩
  rw [← hw0] at HG0 HB0
  have m1 := run_makeMap (P := Tryd.prog) 66
  have hsl := fun W => code_zero (b := b) (off := off) (n := l.length) (cap := cap) (by omega) hcap W
  have hsh := fun W => code_none (b := b) (off := off) (n := l.length) (cap := cap) (by omega) W
  have HS3 := Lib.hid (fun W (h : Below w.heap.size w W) => code_src ((hC.below h).drop 3 (by omega)))
  rw [hd3] at HS3
  have hl3 : l.length - 3 = r.length := by omega
  have hs3 : ∀ W, (Instr.slice 37 (.slice (some ⟨b, off, none⟩) l.length cap) (some (.int .i64 3)) none none).run Tryd.prog W = .ok (.slice (some ⟨b, off + 18, none⟩) r.length (cap - 3)) W := fun W => by
    have h := code_tail (b := b) (off := off) (n := l.length) (cap := cap) (i := 3) (by omega) hcap W
    rw [hl3] at h
    exact h
  have HLN := Lib.hid hln
  have hlo : 3 < l.length := by omega
  have hlm : l.length ≤ 903 := by omega
  have hcz : 0 < cap := by omega
  clear hC hj hj' hl0 hs hu hd3 hln hl3
  generalize wrap32 (s + u) = z at *
  go_enter Tryd.func17, Tryd.ntmps17
  go_wp2_with fail
  rw [← hw0]
  clear hw0 m1
  go_loopw [14] (fun i wr => ∃ k : Nat, k ≤ l.length ∧ i = .int .i64 k ∧ Below w0.heap.size w0 wr) (fun i _ => l.length - (RowKit.intOf i).toNat)
  case atStart => exact ⟨0, by omega, rfl, Below.refl _ _⟩
  case round =>
    obtain ⟨k, hk, rfl, hb⟩ := hrel
    have HB := Lib.hid hb
    have hsr := hb.size
    by_cases hlk : k < l.length
    · obtain ⟨x, hx⟩ : ∃ x, l[k]? = some x := ⟨_, List.getElem?_eq_getElem hlk⟩
      obtain ⟨b', off', he, hlt, c0, c1, c2, c3, c4, c5⟩ := (HC.out.below (bl_trans HB0.out hb)).cells hx
      simp only [Option.some.injEq, Addr.mk.injEq, and_true] at he
      obtain ⟨rfl, rfl⟩ := he
      have HJX := Lib.hid (show ∀ w, Calls Tryd.prog 30 #[.int .i64 x.op] w fun e w' => e = .returned (.bool false) ∧ w = w' from fun w => by have := jumps_same x.op w; rw [HJ.out x (List.mem_of_getElem? hx)] at this; exact this)
      clear hb hx
      go_wp2_with fail
      refine (HJX.out _).mono ?_
      rintro e w3 ⟨rfl, rfl⟩
      go_wp2_with fail
      go_roundw
      case rel => exact ⟨k + 1, by omega, by go_num, HB.out.alloc hsr _⟩
      case measure => simp [RowKit.intOf]; omega
    · obtain rfl : k = l.length := by omega
      obtain ⟨wa, hwa⟩ : ∃ wa, wa = wr := ⟨wr, rfl⟩
      subst hwa
      have HGA := Lib.hid (HG0.out.below hb)
      clear hb hlk hk
      have HBA := Lib.hid (bl_trans HB0.out HB.out)
      have hsa := HBA.out.size
      have hpos : (0 : Int) < (l.length : Int) := by omega
      have hpos2 : 0 < l.length := by omega
      have HKA := Lib.hid (HKN.out wa _ _ (HC.out.below HBA.out))
      go_wp2_with fail
      refine wp_loop_rounds 1 ?_
      rw [rounds_succ]
      go_wp2_with fail
      refine HKA.out.mono ?_
      rintro e w4 ⟨rfl, hb4⟩
      simp only [insV, pushI]
      go_wp2_with fail
      have hbx := bl_alloc (bl_alloc hb4 (.cells #[.int .i64 2, .int .i64 z, .int .i64 0, .string ⟨⟨[73]⟩⟩, .string ⟨⟨[]⟩⟩, .string ⟨⟨[]⟩⟩] 36)) (.cells #[.int .i64 1, .int .i64 2] 3)
      have HBX := Lib.hid hbx
      have hmade := (blk_new w4 w4.heap.size 36 (iArr (pushI z)) rfl).alloc (.cells #[.int .i64 1, .int .i64 2] 3)
      have HCO := Lib.hid (containsGoes 1 2 (by omega) (by omega) (w4.heap.size + 1) (w.heap.size + 1) ((w4.alloc (.cells #[.int .i64 2, .int .i64 z, .int .i64 0, .string ⟨⟨[73]⟩⟩, .string ⟨⟨[]⟩⟩, .string ⟨⟨[]⟩⟩] 36)).alloc (.cells #[.int .i64 1, .int .i64 2] 3)) (by simp)
        (by simp)
        (by simp) (HGA.out.below hbx))
      clear hbx hb4
      refine HCO.out.mono ?_
      rintro e w6 ⟨rfl, hb6⟩
      have HMD := Lib.hid (hmade.below hb6)
      have HB6 := Lib.hid (bl_trans HBA.out (bl_trans HBX.out hb6))
      have hs6 := HB6.out.size
      have hb6l := Nat.lt_of_lt_of_le hblt hs6
      clear hmade hb6 HCO HBX HKA
      generalize w4.heap.size = g4 at *
      go_upto_region 13 with fail
      go_cut [0, 7, 9, 10] (fun s0 s7 s9 s10 wx => s0 = .slice (some ⟨b, off, none⟩) l.length cap ∧ s7 = .int .i64 0 ∧ s9 = .int .i64 3 ∧ Hid (wx.ownsRow w6.heap.size 36 6 s10 1 (insCells (pushI z))) ∧ Hid (Below w6.heap.size w6 wx))
      case first =>
        have HS := Lib.hid (show ∀ W', Below w6.heap.size w6 W' → W'.cell? ⟨g4, 0, none⟩ = some (.int .i64 2) ∧ W'.cell? ⟨g4, 1, none⟩ = some (.int .i64 z) ∧ W'.cell? ⟨g4, 2, none⟩ = some (.int .i64 0) ∧ W'.cell? ⟨g4, 3, none⟩ = some (.string ⟨⟨[73]⟩⟩) ∧ W'.cell? ⟨g4, 4, none⟩ = some (.string ⟨⟨[]⟩⟩) ∧ W'.cell? ⟨g4, 5, none⟩ = some (.string ⟨⟨[]⟩⟩) from fun W' h => iblk_cells (HMD.out.below h))
        have hb60 := Below.refl w6.heap.size w6
        go_region_held3 (fun W' => W'.cell? ⟨g4, 0, none⟩ = some (.int .i64 2) ∧ W'.cell? ⟨g4, 1, none⟩ = some (.int .i64 z) ∧ W'.cell? ⟨g4, 2, none⟩ = some (.int .i64 0) ∧ W'.cell? ⟨g4, 3, none⟩ = some (.string ⟨⟨[73]⟩⟩) ∧ W'.cell? ⟨g4, 4, none⟩ = some (.string ⟨⟨[]⟩⟩) ∧ W'.cell? ⟨g4, 5, none⟩ = some (.string ⟨⟨[]⟩⟩))
          (exact HS.out _ (by repeat (first | exact hb8 | exact hb60 | exact hb7 | refine Below.drew ?_ | refine Below.alloc ?_ (by first | omega | (simp; done) | (simp; omega)) _)))
          ((first
          | (go_at_call 35
             refine (clone_none b off cap _ (by first | exact hb6l | (simp; omega))).mono ?_
             rintro e w7 ⟨v7, rfl, ho7, hb7c⟩
             obtain ⟨A7, C7, rfl, _⟩ := slice_of_own ho7
             have ho7b := ho7.mono (base' := w6.heap.size) (by simp)
             have hb7 : Below w6.heap.size w6 w7 := Below.trans (by repeat (first | exact hb60 | refine Below.drew ?_ | refine Below.alloc ?_ (by first | omega | (simp; done) | (simp; omega)) _)) (hb7c.mono (by simp))
             have hs7 := hb7.size)
          | (refine step_app rowIns rfl (.tmp 54) (.tmp 56) rfl w6.heap.size _ 0 [] rfl ?_ _ 1 (insCells (pushI z)) rfl (Or.inr ?_) ?_ ?_ ?_ ?_
             · first | exact ho7b.alloc _ | exact ho7b
             · first | exact ins_src _ (pushI z) _ rfl | exact src_below (ins_src_drew _ (pushI z) _ rfl) hb7c (by intro ad h; simp at h; subst h; simp)
             · omega
             · omega
             · first | omega | (simp; omega)
             intro v8 w8 ho8 hg8 _
             have hb8 : Below w6.heap.size w6 w8 := by
               first
                 | exact hb7.trans (grown_any hs7 ho7b hg8)
                 | exact (hb7.alloc hs7 _).trans (grown_any (by simp; omega) (ho7b.alloc _) hg8))))
        all_goals
          go_wp2_with fail
          go_meet
          exact ⟨rfl, rfl, rfl, Lib.hid ho8, Lib.hid hb8⟩
      case rest =>
        obtain ⟨rfl, rfl, rfl, HO, HB7⟩ := hcut
        obtain ⟨A7, C7, rfl, _⟩ := slice_of_own HO.out
        have HB8 := Lib.hid (bl_trans HB6.out HB7.out)
        have hs7 := HB7.out.size
        go_wp2_with fail
        refine wp_loop_rounds 3 ?_
        rw [rounds_succ]
        go_wp2_with (at_builtin; refine wpList_append_one rowIns rfl _ _ rfl w6.heap.size _ 1 (insCells (pushI z)) rfl ?c0 (insCells nopR) rfl ?c1 _ rfl ?cg ?c2 ?c3 ?c4 ?_)
        case c0 => exact HO.out
        case c1 => exact insCells_one nopR
        case cg => simp
        case c2 => omega
        case c3 => omega
        case c4 => exact hs7
        intro v8 w8 ho8 hg8
        obtain ⟨A8, C8, rfl, _⟩ := slice_of_own ho8
        have HB9 := Lib.hid (HB7.out.trans (grown_below hs7 HO.out hg8))
        have HO8 := Lib.hid ho8
        have hs8 := HB9.out.size
        clear ho8 hg8
        go_wp2_with fail
        rw [rounds_succ]
        go_wp2_with (at_builtin; refine wpList_append_one rowIns rfl _ _ rfl w6.heap.size _ 2 (insCells (pushI z) ++ insCells nopR) rfl ?c0 (insCells nopR) rfl ?c1 _ rfl ?cg ?c2 ?c3 ?c4 ?_)
        case c0 => exact HO8.out
        case c1 => exact insCells_one nopR
        case cg => simp
        case c2 => omega
        case c3 => omega
        case c4 => exact hs8
        intro v9 w9 ho9 hg9
        obtain ⟨A9, C9, rfl, _⟩ := slice_of_own ho9
        have HB10 := Lib.hid (HB9.out.trans (grown_below hs8 HO8.out hg9))
        have HO9 := Lib.hid ho9
        have hs9 := HB10.out.size
        clear ho9 hg9
        go_wp2_with fail
        rw [rounds_succ]
        go_wp2_with (at_builtin; refine wpList_append_src rowIns rfl _ _ rfl w6.heap.size _ 3 (insCells (pushI z) ++ insCells nopR ++ insCells nopR) rfl HO9.out _ r.length (r.map insCells).flatten rfl (HS3.out _ (bl_trans HB6.out HB10.out)) ?c2 ?c3 hs9 ?_)
        case c2 => omega
        case c3 => omega
        intro v10 w10 ho10 hg10
        have hb11 := HB10.out.trans (grown_any hs9 HO9.out hg10)
        go_wp2_with fail
        go_ret2
        refine ⟨_, rfl, ?_, bl_trans HB6.out hb11⟩
        have := ho10.mono hs6
        rw [show 3 + r.length = r.length + 3 by omega] at this
        simpa using this
end Go.Proofs.YtimkingebjhemaaDoor
