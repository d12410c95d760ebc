/-
  The walk of frame.Both.
-/
import Derived.Test.YtpkhfcbkadkadaaGreatDoorFrm2
import Derived.Test.YtpkhfcbkadkadaaGreatDoorJoin2
import Derived.Deep.RegionHeld3
namespace Go.Proofs.YtpkhfcbkadkadaaGreatDoor
set_option linter.unusedVariables false
set_option linter.unusedSimpArgs false
open Go.RowKit Go.Shelf Go.Lib

/-! what is kept but for one block -/
theorem gb_refl (W : World) (g : Nat) : W.grownBy W (some g) := ⟨rfl, rfl, rfl, Nat.le_refl _, fun _ _ _ => rfl⟩
theorem gb_below {W0 w w' : World} {g : Nat} (h : W0.grownBy w (some g)) (hb : Below w.heap.size w w') : W0.grownBy w' (some g) :=
  ⟨hb.os.trans h.os, hb.tape.trans h.tape, hb.output.trans h.output, Nat.le_trans h.size hb.size, fun k hk hne => (hb.block k (Nat.lt_of_lt_of_le hk h.size)).trans (h.block k hk hne)⟩
theorem gb_alloc {W0 w : World} {g : Nat} (h : W0.grownBy w (some g)) (o : Obj) : W0.grownBy (w.alloc o) (some g) := gb_below h ((Below.refl _ _).alloc (Nat.le_refl _) o)
theorem gb_drew {W0 w : World} {g : Nat} (h : W0.grownBy w (some g)) : W0.grownBy w.drew (some g) := gb_below h ((Below.refl _ _).drew)
theorem gb_grown {W0 w w' : World} {g : Nat} {v : Value} (h : W0.grownBy w (some g)) (hg : w.grownBy w' v.ownBlock) (hv : ∀ k, v.ownBlock = some k → W0.heap.size ≤ k) : W0.grownBy w' (some g) :=
  ⟨hg.os.trans h.os, hg.tape.trans h.tape, hg.output.trans h.output, Nat.le_trans h.size hg.size, fun k hk hne => (hg.block k (Nat.lt_of_lt_of_le hk h.size) (fun e => by have := hv k e.symm; omega)).trans (h.block k hk hne)⟩
theorem gb_set {W0 w : World} {g : Nat} (h : W0.grownBy w (some g)) (j : Nat) (u : Value) : W0.grownBy (w.setCell ⟨g, j, none⟩ u) (some g) :=
  ⟨h.os, h.tape, h.output, by have := h.size; simpa [World.setCell] using this, fun k hk hne => (Below.heap_setCell w ⟨g, j, none⟩ u k (fun e => hne (by rw [e]))).trans (h.block k hk hne)⟩
theorem gb_cell {W0 w : World} {g : Nat} (h : W0.grownBy w (some g)) {a : Addr} (hlt : a.block < W0.heap.size) (hne : a.block ≠ g) : w.cell? a = W0.cell? a := World.cell?_of_block (h.block a.block hlt (by simpa using hne))
theorem gb_srow {W0 w : World} {g : Nat} (h : W0.grownBy w (some g)) {a : Option Addr} {cap : Nat} {A : List Nm} (hr : SRow W0 a cap A) (hne : ∀ ad, a = some ad → ad.block ≠ g) : SRow w a cap A := by
  obtain ⟨h1, h2 | ⟨b, off, rfl, hlt, hc⟩⟩ := hr
  · exact ⟨h1, Or.inl h2⟩
  · exact ⟨h1, Or.inr ⟨b, off, rfl, Nat.lt_of_lt_of_le hlt h.size, fun j x hx => by rw [gb_cell h (a := ⟨b, off + j, none⟩) hlt (hne ⟨b, off, none⟩ rfl)]; exact hc j x hx⟩⟩
theorem gb_to_below {W W0 w : World} {g : Nat} (hb : Below W.heap.size W W0) (h : W0.grownBy w (some g)) (hg : W.heap.size ≤ g) : Below W.heap.size W w :=
  hb.trans ⟨h.os, h.tape, h.output, h.size, fun k hk => h.block k (Nat.lt_of_lt_of_le hk hb.size) (fun e => by simp at e; omega)⟩
theorem blk_grown {W w' : World} {g : Nat} {T : TypeId} {cs : Array Value} {v : Value} (h : Blk W g T cs) (hg : W.grownBy w' v.ownBlock) (hv : v.ownBlock ≠ some g) : Blk w' g T cs := (hg.block g h.lt (fun e => hv e.symm)).trans h
theorem block_set1 {w : World} {K j : Nat} {cs : Array Value} {t : TypeId} {fr : Nat × Nat} (h : w.heap[K]? = some (.cells cs t fr)) (v : Value) : (w.setCell ⟨K, j, none⟩ v).heap[K]? = some (.cells (cs.setIfInBounds j v) t fr) := by
  show (w.heap.modify K _)[K]? = _
  rw [Array.getElem?_modify, if_pos rfl, h]
  rfl
theorem blk_set {W : World} {g : Nat} {T : TypeId} {cs : Array Value} (h : Blk W g T cs) (j : Nat) (u : Value) : Blk (W.setCell ⟨g, j, none⟩ u) g T (cs.setIfInBounds j u) := block_set1 h u
theorem own_set {w : World} {B : Nat} {e : TypeId} {size : Nat} {v : Value} {n : Nat} {xs : List Value} (h : w.ownsRow B e size v n xs) {g j : Nat} (hne : v.ownBlock ≠ some g) (u : Value) : (w.setCell ⟨g, j, none⟩ u).ownsRow B e size v n xs :=
  h.kept (row := some g) (gb_set (gb_refl w g) j u) (Or.inr hne)

theorem zip_take {f : Nm → Nm → Nm} : ∀ {A B : List Nm} {k : Nat} {x y : Nm}, A[k]? = some x → B[k]? = some y → (List.zipWith f A B).take (k + 1) = (List.zipWith f A B).take k ++ [f x y]
  | [], B, k, x, y, h, _ => by simp at h
  | a :: A, [], k, x, y, _, h => by simp at h
  | a :: A, b :: B, 0, x, y, h, h' => by
    simp at h h'; subst h; subst h'
    simp
  | a :: A, b :: B, k + 1, x, y, h, h' => by
    have ih := zip_take (f := f) (A := A) (B := B) (k := k) (x := x) (y := y) (by simpa using h) (by simpa using h')
    simp only [List.zipWith_cons_cons, List.take_succ_cons, List.cons_append, ih]

theorem one_src (W : World) (cs : List Value) (t : TypeId) (size g : Nat) (hg : g = W.heap.size) (hl : cs.length = size) (h1 : ∀ u ∈ cs, u.oneCell' = true) : SrcRow (W.alloc (.cells cs.toArray t)) size (.slice (some ⟨g, 0, none⟩) 1 1) 1 cs := by
  subst hg
  exact ⟨by omega, h1, Or.inr ⟨_, 1, rfl, fun j u hj => new_cells W cs t j u hj⟩⟩
theorem one_grown {W w3 : World} {cs : List Value} {size g b n c : Nat} (h : SrcRow W size (.slice (some ⟨g, 0, none⟩) 1 1) 1 cs) (hg : W.grownBy w3 (Value.slice (some ⟨b, 0, none⟩) n c).ownBlock) (hlt : g < W.heap.size) (hne : g ≠ b) : SrcRow w3 size (.slice (some ⟨g, 0, none⟩) 1 1) 1 cs :=
  h.moved (fun k hk => hg.block k (by simp [Value.ownBlock] at hk; omega) (by simp [Value.ownBlock] at hk ⊢; omega))
theorem one_drew {W : World} {cs : List Value} {size g : Nat} (h : SrcRow W size (.slice (some ⟨g, 0, none⟩) 1 1) 1 cs) : SrcRow W.drew size (.slice (some ⟨g, 0, none⟩) 1 1) 1 cs := h
theorem one_alloc {W : World} {cs : List Value} {size g : Nat} (h : SrcRow W size (.slice (some ⟨g, 0, none⟩) 1 1) 1 cs) (hlt : g < W.heap.size) (o : Obj) : SrcRow (W.alloc o) size (.slice (some ⟨g, 0, none⟩) 1 1) 1 cs :=
  h.moved (fun k hk => by simp [Value.ownBlock] at hk; subst hk; exact Below.heap_alloc W o g hlt)
theorem gb_grown0 {w w' : World} {g : Nat} (h : w.grownBy w' (some g)) : w.grownBy w' (some g) := h
theorem gb_blk {W0 w : World} {g j : Nat} {T : TypeId} {cs : Array Value} (h : W0.grownBy w (some g)) (hb : Blk W0 j T cs) (hne : j ≠ g) : Blk w j T cs := (h.block j hb.lt (by simpa using hne)).trans hb

/-- the loads of the row so far, by name: the region's tactic then takes them in whatever order -/
def ldLoc : Oper := { dst := some 39, op := Op.load 29 (Operand.tmp 38), type := 29, pos := "frame.go:46", after := #[{ on := 0, ground := Ground.data }], guard := none }
def ldSt : Oper := { dst := some 61, op := Op.load 29 (Operand.tmp 60), type := 29, pos := "frame.go:49", after := #[{ on := 0, ground := Ground.data }], guard := none }
theorem ldLoc_op : ldLoc.op = Op.load 29 (Operand.tmp 38) := rfl
theorem ldLoc_dst : ldLoc.dst = some 39 := rfl
theorem ldLoc_guard : ldLoc.guard = none := rfl
theorem ldSt_op : ldSt.op = Op.load 29 (Operand.tmp 60) := rfl
theorem ldSt_dst : ldSt.dst = some 61 := rfl
theorem ldSt_guard : ldSt.guard = none := rfl

def nilF : FAddr := ⟨none, 0, none, 0⟩
def BothRes (l : List ClassR) (a b : FrR) (w : World) (e : Ending) (w' : World) : Prop := Below w.heap.size w w' ∧
  ((¬ sameSh a b ∧ e = .returned (.tuple #[frV ⟨[], []⟩ nilF, .bool false])) ∨ (sameSh a b ∧ ∃ p, e = .returned (.tuple #[frV (joinF (wl l) a b) p, .bool true]) ∧ FrAt w' (joinF (wl l) a b) p))

set_option maxRecDepth 100000 in
set_option maxHeartbeats 8000000 in
theorem both_calls (l : List ClassR) (L : List CP) (m : Nat) (fa fb : FrR) (pa pb : FAddr) (w : World) (hW : WOk w m l L) (hfa : FrAt w fa pa) (hfb : FrAt w fb pb) (ha : chkErr (wl l) fa = 0) (hb : chkErr (wl l) fb = 0) :
    Calls Tryz.prog 42 #[.map (some m), frV fa pa, frV fb pb] w (BothRes l fa fb w) := by
  have HB0 := Lib.hid (fun o => (Below.refl w.heap.size w).alloc (Nat.le_refl _) o)
  obtain ⟨⟨n1, n2⟩, ka⟩ := chk_zero.1 ha
  have kb := (chk_zero.1 hb).2
  have HO := Lib.hid (fun x (hx : x ∈ fa.loc ++ fa.st) y (hy : y ∈ fb.loc ++ fb.st) W (hWW : Below w.heap.size w W) => (show OfAt m x y (joinN (wl l) x y) W from by
    have h := of_calls l L m (kd_spec (ka x hx)).1 (kd_spec (kb y hy)).1 W (hW.below hWW)
    rw [← (kd_spec (ka x hx)).2, ← (kd_spec (kb y hy)).2] at h
    exact h))
  clear ha hb ka kb hW
  obtain ⟨hfa1, hfa2⟩ := hfa
  obtain ⟨hfb1, hfb2⟩ := hfb
  obtain ⟨A1, A2⟩ := fa
  obtain ⟨B1, B2⟩ := fb
  obtain ⟨la, lc, sa, sc⟩ := pa
  obtain ⟨la', lc', sa', sc'⟩ := pb
  unfold frV BothRes joinF sameSh
  generalize joinN (wl l) = J at *
  dsimp only at *
  have HA1 := Lib.hid hfa1
  have HA2 := Lib.hid hfa2
  have HB1 := Lib.hid hfb1
  have HB2 := Lib.hid hfb2
  clear hfa1 hfa2 hfb1 hfb2
  by_cases e1 : A1.length = B1.length
  · by_cases e2 : A2.length = B2.length
    · have q1 : ((A1.length : Int) != (B1.length : Int)) = false := by rw [bne_eq_false_iff_eq]; omega
      have q2 : ((A2.length : Int) != (B2.length : Int)) = false := by rw [bne_eq_false_iff_eq]; omega
      have Z1 := Lib.hid (zip_len (f := J) e1)
      have Z2 := Lib.hid (zip_len (f := J) e2)
      have E1 := Lib.hid e1
      have E2 := Lib.hid e2
      have l1 : B1.length ≤ A1.length ∧ A1.length ≤ B1.length := by omega
      have l2 : B2.length ≤ A2.length ∧ A2.length ≤ B2.length := by omega
      clear e1 e2
      go_enter Tryz.func42, Tryz.ntmps42
      go_wp2_with fail
      have HX : ∃ W0 : World, W0 = ((((w.alloc (Obj.cells #[Value.slice la A1.length lc, Value.slice sa A2.length sc] 65)).alloc (Obj.cells #[Value.slice la' B1.length lc', Value.slice sa' B2.length sc'] 65)).alloc (Obj.cells #[Value.slice none 0 0, Value.slice none 0 0] 65)).alloc (Obj.cells #[Value.slice none 0 0, Value.slice none 0 0] 65)) := ⟨_, rfl⟩
      obtain ⟨W0, hW0⟩ := HX
      have HBW := Lib.hid (show Below w.heap.size w W0 by subst hW0; exact bl_alloc (bl_alloc (bl_alloc (bl_alloc (Below.refl _ _) _) _) _) _)
      have hd1 : Blk W0 (w.heap.size + 1) 65 #[Value.slice la' B1.length lc', Value.slice sa' B2.length sc'] := by
        subst hW0
        exact ((blk_new _ _ _ _ (by simp)).below ((Below.refl _ _).alloc (Nat.le_refl _) _)).below ((Below.refl _ _).alloc (Nat.le_refl _) _)
      have hd2 : Blk W0 (w.heap.size + 1 + 1) 65 #[Value.slice none 0 0, Value.slice none 0 0] := by
        subst hW0
        exact (blk_new _ _ _ _ (by simp)).below ((Below.refl _ _).alloc (Nat.le_refl _) _)
      have hd3 : Blk W0 (w.heap.size + 1 + 1 + 1) 65 #[Value.slice none 0 0, Value.slice none 0 0] := by
        subst hW0
        exact blk_new _ _ _ _ (by simp)
      have hd0 : Blk W0 w.heap.size 65 #[Value.slice la A1.length lc, Value.slice sa A2.length sc] := by
        subst hW0
        exact (((blk_new _ _ _ _ (by simp)).below ((Below.refl _ _).alloc (Nat.le_refl _) _)).below ((Below.refl _ _).alloc (Nat.le_refl _) _)).below ((Below.refl _ _).alloc (Nat.le_refl _) _)
      have hs0 : W0.heap.size = w.heap.size + 1 + 1 + 1 + 1 := by subst hW0; simp
      rw [← hW0]
      clear hW0
      have HD0 := Lib.hid hd0
      have HD1 := Lib.hid hd1
      have HD2 := Lib.hid hd2
      have HD3 := Lib.hid hd3
      clear hd0 hd1 hd2 hd3
      go_loopw [33] (fun i wr => ∃ k : Nat, k ≤ A1.length ∧ i = .int .i64 k ∧ W0.grownBy wr (some (w.heap.size + 1 + 1 + 1)) ∧ ∃ v, Blk wr (w.heap.size + 1 + 1 + 1) 65 #[v, Value.slice none 0 0] ∧ wr.ownsRow W0.heap.size 9 1 v k (((List.zipWith J A1 B1).take k).map strV)) (fun i _ => A1.length - (RowKit.intOf i).toNat)
      case atStart => exact ⟨0, by omega, rfl, gb_refl _ _, _, HD3.out, ⟨rfl, Or.inl ⟨rfl, rfl⟩⟩⟩
      case round =>
        obtain ⟨k, hk, rfl, hg, v, hv, ho⟩ := hrel
        have hbw := gb_to_below HBW.out hg (by omega)
        by_cases hlk : k < A1.length
        · obtain ⟨x, hx⟩ : ∃ x, A1[k]? = some x := ⟨_, List.getElem?_eq_getElem hlk⟩
          obtain ⟨y, hy⟩ : ∃ y, B1[k]? = some y := ⟨_, List.getElem?_eq_getElem (by omega)⟩
          obtain ⟨b1, off, rfl, hlt, c0⟩ := strs_cell (HA1.out.below hbw) hx
          obtain ⟨b2, off2, rfl, hlt2, d0⟩ := strs_cell HB1.out hy
          have hj0 : (0 : Int) ≤ (k : Int) := Int.natCast_nonneg _
          have hji : (k : Int) < (A1.length : Int) := by omega
          have hjb : (k : Int) < (B1.length : Int) := by omega
          have HS := Lib.hid (fun W' (hW' : W0.grownBy W' (some (w.heap.size + 1 + 1 + 1))) => (show W'.cell? ⟨w.heap.size + 1, 0, none⟩ = some (.slice (some ⟨b2, off2, none⟩) B1.length lc') ∧ W'.cell? ⟨b2, off2 + k, none⟩ = some (.string ⟨⟨y⟩⟩) from
            ⟨(gb_cell hW' (a := ⟨w.heap.size + 1, 0, none⟩) HD1.out.lt (by simp)).trans (HD1.out.cell 0), ((gb_to_below HBW.out hW' (by omega)).cell (p := ⟨b2, off2 + k, none⟩) hlt2).trans d0⟩))
          obtain ⟨s1, s2⟩ := HS.out _ hg
          have HOF := Lib.hid (fun W (hW : W0.grownBy W (some (w.heap.size + 1 + 1 + 1))) => HO.out x (by simp [List.mem_of_getElem? hx]) y (by simp [List.mem_of_getElem? hy]) W (gb_to_below HBW.out hW (by omega)))
          unfold OfAt at HOF
          have HG := Lib.hid hg
          have HV := Lib.hid hv
          have HOW := Lib.hid ho
          have HTK := Lib.hid (zip_take (f := J) hx hy)
          have g0 := hv.cell 0
          have gl := hv.lt
          have HONE := Lib.hid (show ∀ u ∈ ([strV (J x y)] : List Value), u.oneCell' = true by intro u hu; rw [List.mem_singleton.1 hu]; rfl)
          clear hx hy d0 hg hv ho hbw
          go_wp2_with fail
          rw [show ({ dst := some 39, op := Op.load 29 (Operand.tmp 38), type := 29, pos := "frame.go:46", after := #[{ on := 0, ground := Ground.data }], guard := none } : Oper) = ldLoc from rfl]
          have q1 := ldLoc_op
          have q2 := ldLoc_dst
          have q3 := ldLoc_guard
          go_region_held3 (fun W' => W'.cell? ⟨w.heap.size + 1, 0, none⟩ = some (.slice (some ⟨b2, off2, none⟩) B1.length lc') ∧ W'.cell? ⟨b2, off2 + k, none⟩ = some (.string ⟨⟨y⟩⟩))
            (first | (exact HS.out _ (by repeat (first | exact HG.out | exact hg5 | exact hg6 | refine gb_drew ?_ | refine gb_alloc ?_ _ | refine gb_set ?_ _ _))))
            ((first
            | (go_at_call 40
               refine (HOF.out _ (by exact gb_drew HG.out)).mono ?_
               rintro e w5 ⟨rfl, hb5⟩
               have hg5 := gb_below (gb_drew HG.out) hb5
               have hv5 := HV.out.drew.below hb5
               have ho5 := own_below (show wr.drew.ownsRow _ _ _ _ _ _ from HOW.out) hb5
               have g5 := hv5.cell 0
               have gl5 := hv5.lt
               have gs5 := hg5.size)
            | (refine step_app rowStr rfl (.tmp 39) (.tmp 48) rfl W0.heap.size _ k (((List.zipWith J A1 B1).take k).map strV) rfl ?_ _ 1 [strV (J x y)] rfl (Or.inr ?_) ?_ ?_ ?_ ?_
               · first | exact ho5.alloc _ | exact (ho5.alloc _).drew
               · first | exact one_src _ [strV (J x y)] _ 1 _ (by rfl) rfl HONE.out | exact one_drew (one_src _ [strV (J x y)] _ 1 _ (by rfl) rfl HONE.out) | exact one_src _ [strV (J x y)] _ 1 _ (by simp) rfl HONE.out
               · omega
               · omega
               · first | (simp; omega) | omega
               intro v6 w6 ho6 hgr6 hv6
               have hg6 : W0.grownBy w6 (some (w.heap.size + 1 + 1 + 1)) := gb_grown (gb_alloc hg5 _) hgr6 hv6
               have hne6 : v.ownBlock ≠ some (w.heap.size + 1 + 1 + 1) := fun e => by have := hv6 _ e; omega
               have hbk6 := blk_grown (hv5.below ((Below.refl _ _).alloc (Nat.le_refl _) _)) hgr6 hne6
               have g6 := hbk6.cell 0
               have gz6 := hbk6.frozen 0
               have gl6 := hbk6.lt
               obtain ⟨A6, C6, rfl, _⟩ := slice_of_own ho6)))
          all_goals
            have hg7 := Lib.hid (gb_set hg6 0 (.slice A6 (k + 1) C6))
            have hbk7 := Lib.hid (show Blk (w6.setCell ⟨w.heap.size + 1 + 1 + 1, 0, none⟩ (.slice A6 (k + 1) C6)) (w.heap.size + 1 + 1 + 1) 65 #[.slice A6 (k + 1) C6, .slice none 0 0] from blk_set hbk6 0 (.slice A6 (k + 1) C6))
            have ho7 := Lib.hid (own_set ho6 (g := w.heap.size + 1 + 1 + 1) (j := 0) (fun e => by have := (ho6.lt _ e).1; omega) (.slice A6 (k + 1) C6))
            generalize w6.setCell ⟨w.heap.size + 1 + 1 + 1, 0, none⟩ (.slice A6 (k + 1) C6) = w7 at *
            clear q1 q2 q3 hg5 hv5 ho5 g5 gl5 gs5 ho6 hgr6 hv6 hg6 hne6 hbk6 g6 gz6 gl6 HS s1 s2
            go_wp2_with fail
            go_roundw
            case rel => exact ⟨k + 1, by omega, by go_num, hg7.out, _, hbk7.out, by rw [HTK.out, List.map_append]; exact ho7.out⟩
            case measure => simp [RowKit.intOf]; omega
        · obtain rfl : k = A1.length := by omega
          rw [List.take_of_length_le (by rw [Z1.out]; exact Nat.le_refl _)] at ho
          have ho' : wr.ownsRow W0.heap.size 9 1 v (List.zipWith J A1 B1).length ((List.zipWith J A1 B1).map strV) := by rw [Z1.out]; exact ho
          obtain ⟨v1a, v1c, rfl, hr1⟩ := srow_of_own ho'
          have HN1 := Lib.hid (show ∀ ad, v1a = some ad → W0.heap.size ≤ ad.block from fun ad e => (ho.lt ad.block (by rw [e]; rfl)).1)
          obtain ⟨W1, hW1⟩ : ∃ W1, W1 = wr := ⟨wr, rfl⟩
          subst hW1
          have HR1 := Lib.hid hr1
          have HBW1 := Lib.hid hbw
          have HG1 := Lib.hid hg
          have HE0 := Lib.hid (gb_blk hg HD0.out (by omega))
          have HE1 := Lib.hid (gb_blk hg HD1.out (by omega))
          have HE2 := Lib.hid (gb_blk hg HD2.out (by omega))
          have HE3 := Lib.hid hv
          have f0 := HE0.out.cell 1
          have f1 := HE0.out.lt
          have hl1 := hg.size
          clear ho ho' hr1 hbw hg hv hlk
          go_wp2_with fail
          go_loopw [55] (fun i wr => ∃ k : Nat, k ≤ A2.length ∧ i = .int .i64 k ∧ W1.grownBy wr (some (w.heap.size + 1 + 1 + 1)) ∧ ∃ v, Blk wr (w.heap.size + 1 + 1 + 1) 65 #[.slice v1a (List.zipWith J A1 B1).length v1c, v] ∧ wr.ownsRow W1.heap.size 9 1 v k (((List.zipWith J A2 B2).take k).map strV)) (fun i _ => A2.length - (RowKit.intOf i).toNat)
          case atStart => exact ⟨0, by omega, rfl, gb_refl _ _, _, HE3.out, ⟨rfl, Or.inl ⟨rfl, rfl⟩⟩⟩
          case round =>
            obtain ⟨k, hk, rfl, hg, v, hv, ho⟩ := hrel
            have hbw := gb_to_below HBW1.out hg (by omega)
            by_cases hlk : k < A2.length
            · obtain ⟨x, hx⟩ : ∃ x, A2[k]? = some x := ⟨_, List.getElem?_eq_getElem hlk⟩
              obtain ⟨y, hy⟩ : ∃ y, B2[k]? = some y := ⟨_, List.getElem?_eq_getElem (by omega)⟩
              obtain ⟨b1, off, rfl, hlt, c0⟩ := strs_cell (HA2.out.below hbw) hx
              obtain ⟨b2, off2, rfl, hlt2, d0⟩ := strs_cell HB2.out hy
              have hj0 : (0 : Int) ≤ (k : Int) := Int.natCast_nonneg _
              have hji : (k : Int) < (A2.length : Int) := by omega
              have hjb : (k : Int) < (B2.length : Int) := by omega
              have HS := Lib.hid (fun W' (hW' : W1.grownBy W' (some (w.heap.size + 1 + 1 + 1))) => (show W'.cell? ⟨w.heap.size + 1, 1, none⟩ = some (.slice (some ⟨b2, off2, none⟩) B2.length sc') ∧ W'.cell? ⟨b2, off2 + k, none⟩ = some (.string ⟨⟨y⟩⟩) from
                ⟨(gb_cell hW' (a := ⟨w.heap.size + 1, 1, none⟩) HE1.out.lt (by simp)).trans (HE1.out.cell 1), ((gb_to_below HBW1.out hW' (by omega)).cell (p := ⟨b2, off2 + k, none⟩) hlt2).trans d0⟩))
              obtain ⟨s1, s2⟩ := HS.out _ hg
              have HOF := Lib.hid (fun W (hW : W1.grownBy W (some (w.heap.size + 1 + 1 + 1))) => HO.out x (by simp [List.mem_of_getElem? hx]) y (by simp [List.mem_of_getElem? hy]) W (gb_to_below HBW1.out hW (by omega)))
              unfold OfAt at HOF
              have HG := Lib.hid hg
              have HV := Lib.hid hv
              have HOW := Lib.hid ho
              have HTK := Lib.hid (zip_take (f := J) hx hy)
              have g0 := hv.cell 1
              have gl := hv.lt
              have HONE := Lib.hid (show ∀ u ∈ ([strV (J x y)] : List Value), u.oneCell' = true by intro u hu; rw [List.mem_singleton.1 hu]; rfl)
              clear hx hy d0 hg hv ho hbw
              go_wp2_with fail
              rw [show ({ dst := some 61, op := Op.load 29 (Operand.tmp 60), type := 29, pos := "frame.go:49", after := #[{ on := 0, ground := Ground.data }], guard := none } : Oper) = ldSt from rfl]
              have q1 := ldSt_op
              have q2 := ldSt_dst
              have q3 := ldSt_guard
              go_region_held3 (fun W' => W'.cell? ⟨w.heap.size + 1, 1, none⟩ = some (.slice (some ⟨b2, off2, none⟩) B2.length sc') ∧ W'.cell? ⟨b2, off2 + k, none⟩ = some (.string ⟨⟨y⟩⟩))
                (first | (exact HS.out _ (by repeat (first | exact HG.out | exact hg5 | exact hg6 | refine gb_drew ?_ | refine gb_alloc ?_ _ | refine gb_set ?_ _ _))))
                ((first
                | (go_at_call 40
                   refine (HOF.out _ (by exact gb_drew HG.out)).mono ?_
                   rintro e w5 ⟨rfl, hb5⟩
                   have hg5 := gb_below (gb_drew HG.out) hb5
                   have hv5 := HV.out.drew.below hb5
                   have ho5 := own_below (show wr.drew.ownsRow _ _ _ _ _ _ from HOW.out) hb5
                   have g5 := hv5.cell 1
                   have gl5 := hv5.lt
                   have gs5 := hg5.size)
                | (refine step_app rowStr rfl (.tmp 61) (.tmp 70) rfl W1.heap.size _ k (((List.zipWith J A2 B2).take k).map strV) rfl ?_ _ 1 [strV (J x y)] rfl (Or.inr ?_) ?_ ?_ ?_ ?_
                   · first | exact ho5.alloc _ | exact (ho5.alloc _).drew
                   · first | exact one_src _ [strV (J x y)] _ 1 _ (by rfl) rfl HONE.out | exact one_drew (one_src _ [strV (J x y)] _ 1 _ (by rfl) rfl HONE.out) | exact one_src _ [strV (J x y)] _ 1 _ (by simp) rfl HONE.out
                   · omega
                   · omega
                   · first | (simp; omega) | omega
                   intro v6 w6 ho6 hgr6 hv6
                   have hg6 : W1.grownBy w6 (some (w.heap.size + 1 + 1 + 1)) := gb_grown (gb_alloc hg5 _) hgr6 hv6
                   have hne6 : v.ownBlock ≠ some (w.heap.size + 1 + 1 + 1) := fun e => by have := hv6 _ e; omega
                   have hbk6 := blk_grown (hv5.below ((Below.refl _ _).alloc (Nat.le_refl _) _)) hgr6 hne6
                   have g6 := hbk6.cell 1
                   have gz6 := hbk6.frozen 1
                   have gl6 := hbk6.lt
                   obtain ⟨A6, C6, rfl, _⟩ := slice_of_own ho6)))
              all_goals
                have hg7 := Lib.hid (gb_set hg6 1 (.slice A6 (k + 1) C6))
                have hbk7 := Lib.hid (show Blk (w6.setCell ⟨w.heap.size + 1 + 1 + 1, 1, none⟩ (.slice A6 (k + 1) C6)) (w.heap.size + 1 + 1 + 1) 65 #[.slice v1a (List.zipWith J A1 B1).length v1c, .slice A6 (k + 1) C6] from blk_set hbk6 1 (.slice A6 (k + 1) C6))
                have ho7 := Lib.hid (own_set ho6 (g := w.heap.size + 1 + 1 + 1) (j := 1) (fun e => by have := (ho6.lt _ e).1; omega) (.slice A6 (k + 1) C6))
                generalize w6.setCell ⟨w.heap.size + 1 + 1 + 1, 1, none⟩ (.slice A6 (k + 1) C6) = w7 at *
                clear q1 q2 q3 hg5 hv5 ho5 g5 gl5 gs5 ho6 hgr6 hv6 hg6 hne6 hbk6 g6 gz6 gl6 HS s1 s2
                go_wp2_with fail
                go_roundw
                case rel => exact ⟨k + 1, by omega, by go_num, hg7.out, _, hbk7.out, by rw [HTK.out, List.map_append]; exact ho7.out⟩
                case measure => simp [RowKit.intOf]; omega
            · obtain rfl : k = A2.length := by omega
              rw [List.take_of_length_le (by rw [Z2.out]; exact Nat.le_refl _)] at ho
              have ho' : wr.ownsRow W1.heap.size 9 1 v (List.zipWith J A2 B2).length ((List.zipWith J A2 B2).map strV) := by rw [Z2.out]; exact ho
              obtain ⟨v2a, v2c, rfl, hr2⟩ := srow_of_own ho'
              have HR2 := Lib.hid hr2
              have HN2 := Lib.hid (show ∀ ad, v2a = some ad → W1.heap.size ≤ ad.block from fun ad e => (ho.lt ad.block (by rw [e]; rfl)).1)
              have HR1' := Lib.hid (gb_srow hg HR1.out (fun ad e => by have := HN1.out ad e; omega))
              have HBW := Lib.hid hbw
              have HE2' := Lib.hid (gb_blk hg HE2.out (by omega))
              have g0 := hv.cell 0
              have g1 := hv.cell 1
              have gl := hv.lt
              clear ho ho' hr2 hg hv hbw
              have y0 := HE2'.out.cell 0
              have y1 := HE2'.out.cell 1
              have y2 := HE2'.out.frozen 0
              have y3 := HE2'.out.frozen 1
              have y4 := HE2'.out.lt
              go_wp2_with fail
              have hb7 := blk_set (blk_set HE2'.out 0 (.slice v1a A1.length v1c)) 1 (.slice v2a A2.length v2c)
              have hg7 := gb_set (gb_set (gb_refl wr (w.heap.size + 1 + 1)) 0 (.slice v1a A1.length v1c)) 1 (.slice v2a A2.length v2c)
              generalize (wr.setCell ⟨w.heap.size + 1 + 1, 0, none⟩ (.slice v1a A1.length v1c)).setCell ⟨w.heap.size + 1 + 1, 1, none⟩ (.slice v2a A2.length v2c) = w7 at *
              have r0 : w7.cell? ⟨w.heap.size + 1 + 1, 0, none⟩ = some (.slice v1a A1.length v1c) := hb7.cell 0
              have r1 : w7.cell? ⟨w.heap.size + 1 + 1, 1, none⟩ = some (.slice v2a A2.length v2c) := hb7.cell 1
              have hbz := below_grown HBW.out hg7 (by omega) HBW.out.size
              refine bodyPost_ret (v := .tuple #[frV ⟨List.zipWith J A1 B1, List.zipWith J A2 B2⟩ ⟨v1a, v1c, v2a, v2c⟩, .bool true]) (by simp [results, Tryz.results42, go_sem, r0, r1, frV, Z1.out, Z2.out]) rfl ⟨hbz, Or.inr ⟨⟨E1.out, E2.out⟩, _, rfl, ?_, ?_⟩⟩
              · exact gb_srow hg7 HR1'.out (fun ad e => by have := HN1.out ad e; omega)
              · exact gb_srow hg7 HR2.out (fun ad e => by have := HN2.out ad e; omega)
    · have q2 : ((A2.length : Int) != (B2.length : Int)) = true := by rw [bne_iff_ne]; omega
      have q1 : ((A1.length : Int) != (B1.length : Int)) = false := by rw [bne_eq_false_iff_eq]; omega
      have HN := Lib.hid (show ¬ (A1.length = B1.length ∧ A2.length = B2.length) from fun h => e2 h.2)
      have hbb := Lib.hid (fun o1 o2 o3 => bl_alloc (bl_alloc (bl_alloc (Below.refl w.heap.size w) o1) o2) o3)
      clear e1 e2
      go_enter Tryz.func42, Tryz.ntmps42
      go_wp2_with fail
      exact bodyPost_ret (v := .tuple #[frV ⟨[], []⟩ nilF, .bool false]) (by simp [results, Tryz.results42, go_sem, frV, nilF]) rfl ⟨hbb.out _ _ _, Or.inl ⟨HN.out, rfl⟩⟩
  · have q1 : ((A1.length : Int) != (B1.length : Int)) = true := by rw [bne_iff_ne]; omega
    have HN := Lib.hid (show ¬ (A1.length = B1.length ∧ A2.length = B2.length) from fun h => e1 h.1)
    have hbb := Lib.hid (fun o1 o2 o3 => bl_alloc (bl_alloc (bl_alloc (Below.refl w.heap.size w) o1) o2) o3)
    clear e1
    go_enter Tryz.func42, Tryz.ntmps42
    go_wp2_with fail
    exact bodyPost_ret (v := .tuple #[frV ⟨[], []⟩ nilF, .bool false]) (by simp [results, Tryz.results42, go_sem, frV, nilF]) rfl ⟨hbb.out _ _ _, Or.inl ⟨HN.out, rfl⟩⟩
end Go.Proofs.YtpkhfcbkadkadaaGreatDoor
