/-
  The walk of heap.Array.
-/
import Derived.Test.YtanjggdmgeedlaaGreatDoorHeap8
namespace Go.Proofs.YtanjggdmgeedlaaGreatDoor
set_option linter.unusedVariables false
set_option linter.unusedSimpArgs false
open Go.RowKit Go.Shelf Go.Lib

/-- More, both ways, at a row and a block that are apart -/
theorem more_at (l : List ClassR) (X : List ThingR) (qs : List HA) (A : Option Addr) (C : Nat) (b : Nat) (r : Nm) (g n : Nat) (B : Nat) (w0 w : World) (hb : Below B w0 w) (hB : B ≤ w.heap.size) (hT : OwnT w B (.slice A X.length C) X qs) (hn : n ≤ 10) (hr : DT r)
    (hg : Blk w g 37 (valsL (List.replicate n ⟨0, 0⟩)).toArray) (hBg : B ≤ g) (hap : (∀ k, (Value.slice A X.length C).ownBlock = some k → k ≠ g) ∧ ∀ (k : Nat) (x : ThingR) (q : HA), X[k]? = some x → qs[k]? = some q → ∀ m, (Value.slice q.1 x.has.length q.2).ownBlock = some m → m ≠ g) :
    Calls Tryz.prog 29 #[.map (some b), .agg #[.slice A X.length C], .agg #[.string ⟨⟨91 :: r⟩⟩, .slice (some ⟨g, 0, none⟩) n n]] w (MoreRes X ⟨91 :: r, List.replicate n (zeroV r)⟩ qs B w0) := by
  by_cases h50 : 50 ≤ X.length
  · exact more_full X qs A C b _ _ B w0 w hb hB h50 _
  · exact more_arr (wl l) X qs A C b r g n B w0 w hb hB (by omega) hT hn hr hg hBg (fun e => hap.1 g e rfl) (fun k x q hx hq e => hap.2 k x q hx hq g e rfl)

theorem made_zero : ∀ n, n ≤ 10 → (madeCells (Value.agg #[.int .i64 0, .int .i64 0]).cells (n * 2)).toList = valsL (List.replicate n ⟨0, 0⟩)
  | 0, _ => by kernel_rfl
  | 1, _ => by kernel_rfl
  | 2, _ => by kernel_rfl
  | 3, _ => by kernel_rfl
  | 4, _ => by kernel_rfl
  | 5, _ => by kernel_rfl
  | 6, _ => by kernel_rfl
  | 7, _ => by kernel_rfl
  | 8, _ => by kernel_rfl
  | 9, _ => by kernel_rfl
  | 10, _ => by kernel_rfl
  | n + 11, h => by omega
theorem info_val : (Tryz.prog.info? 37).map (fun i => (i.zero, i.size, i.bytes)) = some (some (.agg #[.int .i64 0, .int .i64 0]), 2, 16) := by kernel_rfl
theorem made_vals (n : Nat) (hn : n ≤ 10) : ∃ F : World → World, ∀ W, (Instr.makeSlice 31 (.int .i64 n) (.int .i64 n)).run Tryz.prog W = .ok (.slice (some ⟨W.heap.size, 0, none⟩) n n) (F W) ∧
    Blk (F W) W.heap.size 37 (valsL (List.replicate n ⟨0, 0⟩)).toArray ∧ W.grownBy (F W) none := by
  have h : ∀ W : World, ∃ W', (Instr.makeSlice 31 (.int .i64 n) (.int .i64 n)).run Tryz.prog W = .ok (.slice (some ⟨W.heap.size, 0, none⟩) n n) W' ∧
    Blk W' W.heap.size 37 (valsL (List.replicate n ⟨0, 0⟩)).toArray ∧ W.grownBy W' none := by
    intro W
    cases hh : Tryz.prog.info? 37 with
    | none => have := info_val; rw [hh] at this; cases this
    | some i =>
      have hi := info_val
      rw [hh] at hi
      simp only [Option.map_some, Option.some.injEq, Prod.mk.injEq] at hi
      obtain ⟨w', h1, h2, h3⟩ := run_make_full (P := Tryz.prog) W W.heap.size 31 37 i _ 2 Tryz.underlying31 hh hi.1 hi.2.1 .i64 .i64 n (by rw [hi.2.2]; omega) (by unfold maxLen; omega) (Nat.le_refl _)
      refine ⟨w', h1, ?_, h3⟩
      rcases h2.2 with ⟨hv, _⟩ | ⟨g, cap, cur, hv, _, hgg, hle, _, hsz, htk⟩
      · cases hv
      · simp only [Value.slice.injEq, Option.some.injEq, Addr.mk.injEq, and_true, true_and] at hv
        obtain ⟨rfl, rfl⟩ := hv
        rw [List.take_of_length_le (by simp; omega), made_zero n hn] at htk
        unfold Blk
        rw [hgg, ← htk]
  exact ⟨fun W => (h W).choose, fun W => (h W).choose_spec⟩

theorem has_len {l : List ClassR} (hg : Good l) {x : ThingR} (h : formErr (wl l) x = 0) : x.has.length ≤ 1000 := by
  obtain ⟨d, bs, he, hok, hrf, hlen, h10⟩ := form_kd h
  rcases ty_cases he hok hrf h10 with ⟨n, hn⟩ | ⟨r, hr⟩
  · rw [typesH_L hn] at hlen
    unfold typesF at hlen
    rw [List.length_map] at hlen
    have := slotsF_len hg n
    omega
  · have := hr.2.1
    omega
/-- the joined text, by name: the region's tactic then takes it in whatever order -/
def ctOp : Oper := { dst := some 49, op := Op.binOp BinOp.add 9 (Operand.const (Value.string { data := #[91] })) (Operand.tmp 48) 9, type := 9, pos := "heap.go:157", after := #[{ on := 3, ground := Ground.data }], guard := none }
theorem ctOp_op : ctOp.op = Op.binOp BinOp.add 9 (Operand.const (Value.string { data := #[91] })) (Operand.tmp 48) 9 := rfl
theorem ctOp_dst : ctOp.dst = some 49 := rfl
theorem ctOp_guard : ctOp.guard = none := rfl
def ArrOk (l : List ClassR) (X : List ThingR) (k : Nm) : Prop := Good l ∧ rightErr (wl l) X = 0 ∧ TypeOk (91 :: k) ∧ kindErr (wl l) k = 0 ∧ X.length < 50
def ArrRes (l : List ClassR) (X : List ThingR) (k : Nm) (n : Int) (w : World) (e : Ending) (w' : World) : Prop := Below w.heap.size w w' ∧ ((∃ z, z ≠ 0 ∧ e = .returned (.tuple #[.agg #[.slice none 0 0], .int .i64 0, errV z])) ∨
  (ArrOk l X k ∧ ∃ m : Nat, n = m ∧ m ≤ 10 ∧ ∃ v qs, e = .returned (.tuple #[.agg #[v], .int .i64 ((X.length : Int) + 1), .nilIface]) ∧ OwnT w' w.heap.size v (X ++ [⟨91 :: k, List.replicate m (zeroV k)⟩]) qs))

set_option maxRecDepth 100000 in
set_option maxHeartbeats 8000000 in
theorem array_calls (l : List ClassR) (cs : List CAddr) (a0 : Option Addr) (c0 : Nat) (X : List ThingR) (ps : List HA) (a : Option Addr) (cap : Nat) (k : Nm) (n : Int) (w : World) (hC : ClassesAt w a0 c0 l cs) (hF : FormsAt w) (hB : ClsOk l) (hT : ThingsAt w a cap X ps) (hH : HpB X) (hk : k.length ≤ 1048576) :
    Calls Tryz.prog 10 #[.slice a0 l.length c0, .agg #[.slice a X.length cap], .string ⟨⟨k⟩⟩, .int .i64 n] w (ArrRes l X k n w) := by
  obtain ⟨w1, hw1⟩ : ∃ w1, w1 = (w.alloc (.cells #[.slice a X.length cap] 25)).alloc (.cells #[.slice none 0 0] 25) := ⟨_, rfl⟩
  have HD5 := Lib.hid (show Blk w1 w.heap.size 25 #[.slice a X.length cap] by rw [hw1]; exact (blk_new _ _ _ _ rfl).alloc _)
  have HD8 := Lib.hid (show Blk w1 (w.heap.size + 1) 25 #[.slice none 0 0] by rw [hw1]; exact blk_new _ _ _ _ (by simp))
  have hb1 : Below w.heap.size w w1 := by rw [hw1]; exact bl_alloc (bl_alloc (Below.refl _ _) _) _
  have hs1 : w1.heap.size = w.heap.size + 1 + 1 := by rw [hw1]; simp
  have HB1 := Lib.hid hb1
  have HR := Lib.hid (hread_calls l cs a0 c0 X ps a cap w1 (hC.below hb1) (hF.below hb1) hB (hT.below hb1) hH)
  have HT := Lib.hid hT
  have HHB := Lib.hid hH
  have hkm : (91 :: k).length ≤ maxLen := by simp [maxLen]; omega
  clear hC hF hB hT hH hb1
  go_enter Tryz.func10, Tryz.ntmps10
  go_wp2_with fail
  rw [← hw1]
  clear hw1
  refine HR.out.mono ?_
  rintro e w2 ⟨hb2, ⟨hz, rfl⟩ | ⟨hz, b, rfl, hW⟩⟩
  · have HZ := Lib.hid hz
    obtain ⟨z, hze⟩ : ∃ z, z = readErr l := ⟨_, rfl⟩
    rw [← hze] at HZ ⊢
    have e8 := (HD8.out.below hb2).cell 0
    have e9 := (HD8.out.below hb2).frozen 0
    have e10 := (HD8.out.below hb2).lt
    have y0 := (blk_set (HD8.out.below hb2) 0 (.slice none 0 0)).cell 0
    have HB9 := Lib.hid ((bl_trans HB1.out hb2).setCell (p := ⟨w.heap.size + 1, 0, none⟩) (by show w.heap.size ≤ w.heap.size + 1; omega) (.slice none 0 0))
    clear hb2 hz hze HR
    go_wp2_with fail
    exact bodyPost_ret (v := .tuple #[.agg #[.slice none 0 0], .int .i64 0, errV z]) (by simp [results, Tryz.results10, go_sem, y0]) rfl ⟨HB9.out, Or.inl ⟨z, HZ.out, rfl⟩⟩
  · have HGD := Lib.hid hW.good
    have HW := Lib.hid hW
    have HB2 := Lib.hid hb2
    clear hz hW HR
    by_cases hr : rightErr (wl l) X = 0
    · rw [hr, errOf_zero]
      by_cases hk2 : TypeOk (91 :: k)
      · have HCK := Lib.hid (fun w => check_ok (91 :: k) hk2 w)
        have HKD := Lib.hid (fun W (hw : Below w2.heap.size w2 W) => kind_calls l (wcp l cs) b k W (HW.out.below hw) (by omega))
        by_cases hkz : kindErr (wl l) k = 0
        · rw [hkz, errOf_zero] at HKD
          have HOK := Lib.hid (show X.length < 50 → ArrOk l X k from fun h => ⟨HGD.out, hr, hk2, hkz, h⟩)
          have HRZ := Lib.hid (right_zero.1 hr)
          have HDT := Lib.hid (show DT k from by
            obtain ⟨d, bs, e, hd, hn⟩ := type_kd.1 hk2
            cases d with
            | zero =>
              cases bs with
              | int => simp [Kd.text, Bse.text] at e
              | long => simp [Kd.text, Bse.text] at e
              | cls m => simp [Kd.text, Bse.text] at e
            | succ d =>
              rw [arr_one] at e
              simp only [List.cons.injEq, true_and] at e
              exact dt_ok (type_kd.2 ⟨d, bs, e, by omega, hn⟩))
          clear hb2 hr hk2 hkz
          go_wp2_with fail
          refine (HCK.out _).mono ?_
          rintro e w3 ⟨rfl, hb3⟩
          have HB3 := Lib.hid hb3
          clear hb3
          go_wp2_with fail
          refine (HKD.out _ HB3.out).mono ?_
          rintro e wr ⟨rfl, hb4⟩
          have HB4 := Lib.hid (bl_trans HB2.out (bl_trans HB3.out hb4))
          clear hb4
          by_cases hn : n < 0 ∨ 10 < n
          · have q0 : n < 0 ∨ (¬ n < 0 ∧ (10 : Int) < n) := by omega
            have e8 := (HD8.out.below HB4.out).cell 0
            have e9 := (HD8.out.below HB4.out).frozen 0
            have e10 := (HD8.out.below HB4.out).lt
            have y0 := (blk_set (HD8.out.below HB4.out) 0 (.slice none 0 0)).cell 0
            have HB9 := Lib.hid ((bl_trans HB1.out HB4.out).setCell (p := ⟨w.heap.size + 1, 0, none⟩) (by show w.heap.size ≤ w.heap.size + 1; omega) (.slice none 0 0))
            rcases q0 with q1 | ⟨q1, q2⟩
            · go_wp2_with fail
              exact bodyPost_ret (v := .tuple #[.agg #[.slice none 0 0], .int .i64 0, errV 2]) (by simp [results, Tryz.results10, go_sem, y0]) rfl ⟨HB9.out, Or.inl ⟨2, by decide, rfl⟩⟩
            · go_wp2_with fail
              exact bodyPost_ret (v := .tuple #[.agg #[.slice none 0 0], .int .i64 0, errV 2]) (by simp [results, Tryz.results10, go_sem, y0]) rfl ⟨HB9.out, Or.inl ⟨2, by decide, rfl⟩⟩
          · obtain ⟨m, rfl⟩ : ∃ m : Nat, n = m := ⟨n.toNat, by omega⟩
            have hm : m ≤ 10 := by omega
            have q1 : ¬ (m : Int) < 0 := by omega
            have q2 : decide ((10 : Int) < (m : Int)) = false := decide_eq_false (by omega)
            clear hn
            obtain ⟨F, hF⟩ := made_vals m hm
            have hmk := fun W => (hF W).1
            have HKR := Lib.hid (HD5.out.below HB4.out)
            have HK8 := Lib.hid (HD8.out.below HB4.out)
            have HW1 := Lib.hid (bl_trans HB1.out HB4.out)
            have HCP := Lib.hid (fun W (hw : Below wr.heap.size wr W) => copy_calls X ps a cap W (HT.out.below (bl_trans HW1.out hw)) HRZ.out.1 HHB.out (fun x hx => has_len HGD.out (HRZ.out.2.1 x hx)))
            have HFB := Lib.hid (fun W => (show Below W.heap.size W (F W) from (Below.refl _ _).grown (hF W).2.2 (Nat.le_refl _) (by intro k hk; cases hk)))
            have HFA := Lib.hid (show Below wr.heap.size wr (F wr.drew) from bl_trans (Below.refl wr.heap.size wr).drew (HFB.out wr.drew))
            have HKF := Lib.hid (HKR.out.below HFA.out)
            have hFl : wr.heap.size < (F wr.drew).heap.size := (hF wr.drew).2.1.lt
            have HMA := Lib.hid (fun A5 C5 qs w5 (hot : OwnT w5 (F wr.drew).heap.size (.slice A5 X.length C5) X qs) (hb5 : Below (F wr.drew).heap.size (F wr.drew) w5) => more_at l X qs A5 C5 b k wr.heap.size m wr.heap.size wr w5 (bl_trans HFA.out hb5) (bl_trans HFA.out hb5).size (hot.down (by omega)) hm HDT.out ((hF wr.drew).2.1.below hb5) (Nat.le_refl _) ⟨fun j e => by have := (hot.row.lt j e).1; omega, fun i x q hx hq j e => by have := ((hot.has i x q hx hq).lt j e).1; omega⟩)
            have HMB := Lib.hid (fun A5 C5 qs w5 (hot : OwnT w5 wr.drew.heap.size (.slice A5 X.length C5) X qs) (hb5 : Below wr.drew.heap.size wr.drew w5) => more_at l X qs A5 C5 b k w5.heap.size m wr.heap.size wr (F w5) (bl_trans (bl_trans (Below.refl wr.heap.size wr).drew hb5) (HFB.out w5)) (bl_trans (bl_trans (Below.refl wr.heap.size wr).drew hb5) (HFB.out w5)).size ((hot.below (HFB.out w5)).down (Nat.le_refl _)) hm HDT.out (hF w5).2.1 hb5.size ⟨fun j e => by have := (hot.row.lt j e).2; omega, fun i x q hx hq j e => by have := ((hot.has i x q hx hq).lt j e).2; omega⟩)
            have HS := Lib.hid (fun W' (hW' : Blk W' w.heap.size 25 #[.slice a X.length cap]) => (show W'.cell? ⟨w.heap.size, 0, none⟩ = some (.slice a X.length cap) from hW'.cell 0))
            have hne8 : w.heap.size ≠ w.heap.size + 1 := by omega
            clear hF hFl
            by_cases h50 : X.length < 50
            · have HOK2 := Lib.hid (HOK.out h50)
              go_upto_region 11 with fail
              rw [show ({ dst := some 49, op := Op.binOp BinOp.add 9 (Operand.const (Value.string { data := #[91] })) (Operand.tmp 48) 9, type := 9, pos := "heap.go:157", after := #[{ on := 3, ground := Ground.data }], guard := none } : Oper) = ctOp from rfl]
              have t1 := ctOp_op
              have t2 := ctOp_dst
              have t3 := ctOp_guard
              go_region_held3 (fun W' => W'.cell? ⟨w.heap.size, 0, none⟩ = some (.slice a X.length cap))
                (first | (exact HS.out _ HKR.out) | (exact HS.out _ HKR.out.drew) | (exact HS.out _ HKF.out) | (exact HS.out _ hk5) | (exact HS.out _ hk5F) | (exact HS.out _ hk6) | (exact HS.out _ (blk_ne hk6 hne8 _)))
                ((first
                | (go_at_call 30
                   refine (HCP.out (F wr.drew) HFA.out).mono ?_
                   rintro e w5 ⟨v, qs, rfl, hot, hb5⟩
                   obtain ⟨A5, C5, rfl, _⟩ := slice_of_own hot.row
                   have hmo := HMA.out A5 C5 qs w5 hot hb5
                   have hk5 := HKF.out.below hb5)
                | (go_at_call 30
                   refine (HCP.out wr.drew (Below.refl _ _).drew).mono ?_
                   rintro e w5 ⟨v, qs, rfl, hot, hb5⟩
                   obtain ⟨A5, C5, rfl, _⟩ := slice_of_own hot.row
                   have hmo := HMB.out A5 C5 qs w5 hot hb5
                   have hk5 := HKR.out.drew.below hb5
                   have hk5F := hk5.below (HFB.out w5))
                | (go_at_call 29
                   refine hmo.mono ?_
                   rintro e w6 ⟨hb6, ⟨hge, _⟩ | ⟨_, v6, q6, rfl, hot6⟩⟩
                   case inl => omega
                   obtain ⟨A6, C6, rfl, _⟩ := slice_of_own hot6.row
                   have hk6 := HKR.out.below hb6
                   have h86 := HK8.out.below hb6
                   have z0 := h86.cell 0
                   have z1 := h86.frozen 0
                   have z2 := h86.lt)))
              all_goals
                have hln : (X ++ [(⟨91 :: k, List.replicate m (zeroV k)⟩ : ThingR)]).length = X.length + 1 := by simp
                have hot7 : OwnT w6 wr.heap.size (.slice A6 (X.length + 1) C6) (X ++ [⟨91 :: k, List.replicate m (zeroV k)⟩]) (qs ++ [q6]) := by rw [← hln]; exact hot6
                have HO9 := Lib.hid ((hot7.put (j := 0) h86 (by decide) (by decide) (.slice A6 (X.length + 1) C6)).down (show w.heap.size ≤ wr.heap.size from HW1.out.size))
                have y0 := (blk_set h86 0 (.slice A6 (X.length + 1) C6)).cell 0
                have HB9 := Lib.hid ((bl_trans HW1.out hb6).setCell (p := ⟨w.heap.size + 1, 0, none⟩) (by show w.heap.size ≤ w.heap.size + 1; omega) (.slice A6 (X.length + 1) C6))
                clear z0 z1 z2 HS hmk t1 t2 t3 hot6 hot7 hln h86 hk6 hb6
                generalize w6.setCell ⟨w.heap.size + 1, 0, none⟩ (.slice A6 (X.length + 1) C6) = w9 at *
                go_wp2_with fail
                exact bodyPost_ret (v := .tuple #[.agg #[.slice A6 (X.length + 1) C6], .int .i64 ((X.length : Int) + 1), .nilIface]) (by simp [results, Tryz.results10, go_sem, y0]) rfl ⟨HB9.out, Or.inr ⟨HOK2.out, m, rfl, hm, _, _, rfl, HO9.out⟩⟩
            · have h50' : 50 ≤ X.length := by omega
              go_upto_region 11 with fail
              rw [show ({ dst := some 49, op := Op.binOp BinOp.add 9 (Operand.const (Value.string { data := #[91] })) (Operand.tmp 48) 9, type := 9, pos := "heap.go:157", after := #[{ on := 3, ground := Ground.data }], guard := none } : Oper) = ctOp from rfl]
              have t1 := ctOp_op
              have t2 := ctOp_dst
              have t3 := ctOp_guard
              go_region_held3 (fun W' => W'.cell? ⟨w.heap.size, 0, none⟩ = some (.slice a X.length cap))
                (first | (exact HS.out _ HKR.out) | (exact HS.out _ HKR.out.drew) | (exact HS.out _ HKF.out) | (exact HS.out _ hk5) | (exact HS.out _ hk5F) | (exact HS.out _ hk6) | (exact HS.out _ (blk_ne hk6 hne8 _)))
                ((first
                | (go_at_call 30
                   refine (HCP.out (F wr.drew) HFA.out).mono ?_
                   rintro e w5 ⟨v, qs, rfl, hot, hb5⟩
                   obtain ⟨A5, C5, rfl, _⟩ := slice_of_own hot.row
                   have hmo := HMA.out A5 C5 qs w5 hot hb5
                   have hk5 := HKF.out.below hb5)
                | (go_at_call 30
                   refine (HCP.out wr.drew (Below.refl _ _).drew).mono ?_
                   rintro e w5 ⟨v, qs, rfl, hot, hb5⟩
                   obtain ⟨A5, C5, rfl, _⟩ := slice_of_own hot.row
                   have hmo := HMB.out A5 C5 qs w5 hot hb5
                   have hk5 := HKR.out.drew.below hb5
                   have hk5F := hk5.below (HFB.out w5))
                | (go_at_call 29
                   refine hmo.mono ?_
                   rintro e w6 ⟨hb6, ⟨_, rfl⟩ | ⟨hlt, _⟩⟩
                   case inr => omega
                   have hk6 := HKR.out.below hb6
                   have h86 := HK8.out.below hb6
                   have z0 := h86.cell 0
                   have z1 := h86.frozen 0
                   have z2 := h86.lt)))
              all_goals
                have y0 := (blk_set h86 0 (.slice none 0 0)).cell 0
                have HB9 := Lib.hid ((bl_trans HW1.out hb6).setCell (p := ⟨w.heap.size + 1, 0, none⟩) (by show w.heap.size ≤ w.heap.size + 1; omega) (.slice none 0 0))
                generalize w6.setCell ⟨w.heap.size + 1, 0, none⟩ (.slice none 0 0) = w9 at *
                clear z0 z1 z2 HS hmk t1 t2 t3
                go_wp2_with fail
                exact bodyPost_ret (v := .tuple #[.agg #[.slice none 0 0], .int .i64 0, errV 4]) (by simp [results, Tryz.results10, go_sem, y0]) rfl ⟨HB9.out, Or.inl ⟨4, by decide, rfl⟩⟩
        · rw [errOf_ne hkz] at HKD
          have HZ := Lib.hid hkz
          generalize kindErr (wl l) k = z at *
          clear hb2 hr hk2 hkz
          go_wp2_with fail
          refine (HCK.out _).mono ?_
          rintro e w3 ⟨rfl, hb3⟩
          have HB3 := Lib.hid hb3
          clear hb3
          go_wp2_with fail
          refine (HKD.out _ HB3.out).mono ?_
          rintro e w4 ⟨rfl, hb4⟩
          have HB4 := Lib.hid (bl_trans HB2.out (bl_trans HB3.out hb4))
          clear hb4
          have e8 := (HD8.out.below HB4.out).cell 0
          have e9 := (HD8.out.below HB4.out).frozen 0
          have e10 := (HD8.out.below HB4.out).lt
          have y0 := (blk_set (HD8.out.below HB4.out) 0 (.slice none 0 0)).cell 0
          have HB9 := Lib.hid ((bl_trans HB1.out HB4.out).setCell (p := ⟨w.heap.size + 1, 0, none⟩) (by show w.heap.size ≤ w.heap.size + 1; omega) (.slice none 0 0))
          go_wp2_with fail
          exact bodyPost_ret (v := .tuple #[.agg #[.slice none 0 0], .int .i64 0, errV z]) (by simp [results, Tryz.results10, go_sem, y0]) rfl ⟨HB9.out, Or.inl ⟨z, HZ.out, rfl⟩⟩
      · have HCK := Lib.hid (fun w => check_bad (91 :: k) hk2 (by simp; omega) w)
        clear hb2 hr hk2
        go_wp2_with fail
        refine (HCK.out _).mono ?_
        rintro e w3 ⟨rfl, hb3⟩
        have HB3 := Lib.hid (bl_trans HB2.out hb3)
        clear hb3
        have e8 := (HD8.out.below HB3.out).cell 0
        have e9 := (HD8.out.below HB3.out).frozen 0
        have e10 := (HD8.out.below HB3.out).lt
        have y0 := (blk_set (HD8.out.below HB3.out) 0 (.slice none 0 0)).cell 0
        have HB9 := Lib.hid ((bl_trans HB1.out HB3.out).setCell (p := ⟨w.heap.size + 1, 0, none⟩) (by show w.heap.size ≤ w.heap.size + 1; omega) (.slice none 0 0))
        go_wp2_with fail
        exact bodyPost_ret (v := .tuple #[.agg #[.slice none 0 0], .int .i64 0, errV 1]) (by simp [results, Tryz.results10, go_sem, y0]) rfl ⟨HB9.out, Or.inl ⟨1, by decide, rfl⟩⟩
    · rw [errOf_ne hr]
      have HZ := Lib.hid hr
      generalize rightErr (wl l) X = z at *
      have e8 := (HD8.out.below hb2).cell 0
      have e9 := (HD8.out.below hb2).frozen 0
      have e10 := (HD8.out.below hb2).lt
      have y0 := (blk_set (HD8.out.below hb2) 0 (.slice none 0 0)).cell 0
      have HB9 := Lib.hid ((bl_trans HB1.out hb2).setCell (p := ⟨w.heap.size + 1, 0, none⟩) (by show w.heap.size ≤ w.heap.size + 1; omega) (.slice none 0 0))
      clear hb2 hr
      go_wp2_with fail
      exact bodyPost_ret (v := .tuple #[.agg #[.slice none 0 0], .int .i64 0, errV z]) (by simp [results, Tryz.results10, go_sem, y0]) rfl ⟨HB9.out, Or.inl ⟨z, HZ.out, rfl⟩⟩
end Go.Proofs.YtanjggdmgeedlaaGreatDoor
