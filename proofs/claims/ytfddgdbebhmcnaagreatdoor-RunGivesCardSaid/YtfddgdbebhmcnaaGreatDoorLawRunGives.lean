/-
  RunGives: a method that returns its argument returns it in two steps: the walk of the law.
-/
import Derived.Test.YtfddgdbebhmcnaaGreatDoorRe
import Derived.Test.YtfddgdbebhmcnaaGreatDoorWr
import Derived.Test.YtfddgdbebhmcnaaGreatDoorFrame
namespace Go.Proofs.YtfddgdbebhmcnaaGreatDoor
set_option linter.unusedVariables false
set_option linter.unusedSimpArgs false
open Go.RowKit Go.Shelf Go.Lib

/-- the call of the method in its world -/
theorem id_call (t : Nm) (ht : numB t = true) (v : ValR) (hv : ArgOk v t) (gk gm ga : Nat) (q : MAddr) (w : World) (hF : FormsAt w) (hk : Blk w gk 31 (classCells (oneC (idM t)) (oneA gm q)).toArray) (hm : Blk w gm 39 (mArr (idM t) q)) (hc : MethAt w (idM t) q) (ha : Blk w ga 42 (vCells v).toArray) :
    Calls Tryz.prog 13 #[.slice (some ⟨gk, 0, none⟩) 1 1, .string ⟨⟨[65]⟩⟩, .string ⟨⟨[105, 100]⟩⟩, .string ⟨⟨(idM t).ty⟩⟩, .slice (some ⟨ga, 0, none⟩) 1 1, .int .i64 2] w fun e w' => e = .returned (.tuple #[toldV v.kind v.n [] 2, .nilIface]) ∧ Below w.heap.size w w' := by
  obtain ⟨hg, hl⟩ := id_ck ht
  have htl : t.length ≤ 1 := by
    unfold numB at ht
    rw [Bool.or_eq_true, beq_iff_eq, beq_iff_eq] at ht
    rcases ht with rfl | rfl <;> simp
  exact rcall_calls [oneC (idM t)] [oneA gm q] (some ⟨gk, 0, none⟩) 1 [65] [v] (some ⟨ga, 0, none⟩, 1) 2 w (one_at hk hm hc) hF (id_cls ht) (rows_of_blk (L := [vCells v]) (by simpa using ha) (Nat.le_refl _) (by intro c hc; rw [List.mem_singleton.1 hc]; rfl)) (one_ck hg hl) (by simp)
    (oneC (idM t), oneA gm q) (one_find _ _) (idM t) [] rfl rfl [t] t (id_ty ht) (by simp [idM]; omega) rfl (fun j x y hx hy => by
      match j with
      | 0 => simp at hx hy; subst hx hy; exact hv
      | j + 1 => simp at hx)
    (by omega) (by omega) 1 rfl (by omega) (by simp) (Or.inl (by simp)) v.kind v.n [] 2
    (fun w5 w6 K c' lb cs cc b lq q' _ hW hM hmac => id_run t v w5 w6 K c' lb cs cc b _ [65] q' lq hmac hM.1)

set_option maxRecDepth 100000 in
set_option maxHeartbeats 8000000 in
theorem runGives_go (n : Int) (long : Bool) (w : World) (hF : FormsAt w) (h0 : -9223372036854775808 ≤ n) (h1 : n ≤ 9223372036854775807) :
    Calls Tryz.prog 6 #[.int .i64 n, .bool long] w fun e w' => e = .returned (.bool true) ∧ Below w.heap.size w w' := by
  have HF := Lib.hid hF
  have HWR := Lib.hid (fun W => wrap_calls n W h0 h1)
  clear hF h0 h1
  go_enter Tryz.func6, Tryz.ntmps6
  go_wp2_with fail
  refine (named_true _).mono ?_
  rintro e w1 ⟨rfl, hb1⟩
  have HB1 := Lib.hid hb1
  clear hb1
  go_wp2_with fail
  refine (HWR.out _).mono ?_
  rintro e w2 ⟨rfl, rfl⟩
  cases long with
  | true =>
    have hkey : ∃ w6, w6 = (((((w1.alloc (.cells #[.int .i64 2, .int .i64 n] 42)).alloc (.cells #[.int .i64 4, .int .i64 0, .int .i64 0, .string ⟨#[]⟩, .string ⟨#[]⟩, .string ⟨#[]⟩, .int .i64 27, .int .i64 0, .int .i64 0, .string ⟨#[]⟩, .string ⟨#[]⟩, .string ⟨#[]⟩] 35)).alloc (.cells #[.string ⟨#[105, 100]⟩, .string ⟨⟨[40, 74, 41, 74]⟩⟩, .bool true, .bool false, .bool false, .int .i64 1, .slice (some ⟨w1.heap.size + 1, 0, none⟩) 2 2, .slice none 0 0] 39)).alloc (.cells #[.string ⟨#[105, 100]⟩, .string ⟨⟨[40, 74, 41, 74]⟩⟩, .bool true, .bool false, .bool false, .int .i64 1, .slice (some ⟨w1.heap.size + 1, 0, none⟩) 2 2, .slice none 0 0] 39)).alloc (.cells #[.string ⟨#[65]⟩, .string ⟨#[79, 98, 106, 101, 99, 116]⟩, .slice none 0 0, .bool false, .slice none 0 0, .slice (some ⟨w1.heap.size + 1 + 1 + 1, 0, none⟩) 1 1] 31)).alloc (.cells #[.int .i64 2, .int .i64 n] 42) := ⟨_, rfl⟩
    obtain ⟨w6, hw6⟩ := hkey
    have hb6 : Below w1.heap.size w1 w6 := by rw [hw6]; exact bl_alloc (bl_alloc (bl_alloc (bl_alloc (bl_alloc (bl_alloc (Below.refl _ _) _) _) _) _) _) _
    have hV := (show Blk w6 w1.heap.size 42 #[.int .i64 2, .int .i64 n] by rw [hw6]; exact (((((blk_new _ _ _ _ rfl).alloc _).alloc _).alloc _).alloc _).alloc _)
    have hI := (show Blk w6 (w1.heap.size + 1) 35 ((idM [74]).code.map insCells).flatten.toArray by rw [hw6]; exact ((((blk_new _ _ _ _ (by simp)).alloc _).alloc _).alloc _).alloc _)
    have hM := (show Blk w6 (w1.heap.size + 1 + 1 + 1) 39 (mArr (idM [74]) ⟨some ⟨w1.heap.size + 1, 0, none⟩, 2, none, 0⟩) by rw [hw6]; exact ((blk_new _ _ _ _ (by simp)).alloc _).alloc _)
    have hK := (show Blk w6 (w1.heap.size + 1 + 1 + 1 + 1) 31 (classCells (oneC (idM [74])) (oneA (w1.heap.size + 1 + 1 + 1) ⟨some ⟨w1.heap.size + 1, 0, none⟩, 2, none, 0⟩)).toArray by rw [hw6]; exact (blk_new _ _ _ _ (by simp)).alloc _)
    have hA := (show Blk w6 (w1.heap.size + 1 + 1 + 1 + 1 + 1) 42 #[.int .i64 2, .int .i64 n] by rw [hw6]; exact blk_new _ _ _ _ (by simp))
    have hma : MethAt w6 (idM [74]) ⟨some ⟨w1.heap.size + 1, 0, none⟩, 2, none, 0⟩ := ⟨rows_of_blk hI (Nat.le_refl _) (by intro c hc; obtain ⟨x, _, rfl⟩ := List.mem_map.1 hc; rfl), ⟨Nat.le_refl _, Or.inl rfl⟩⟩
    have HCL := Lib.hid (id_call [74] (by decide) ⟨2, n⟩ (Or.inr ⟨rfl, rfl⟩) (w1.heap.size + 1 + 1 + 1 + 1) (w1.heap.size + 1 + 1 + 1) (w1.heap.size + 1 + 1 + 1 + 1 + 1) ⟨some ⟨w1.heap.size + 1, 0, none⟩, 2, none, 0⟩ w6 (HF.out.below (bl_trans HB1.out hb6)) hK hM hma hA)
    have HV := Lib.hid hV
    have HB6 := Lib.hid (bl_trans HB1.out hb6)
    have hty : (idM [74]).ty = [40, 74, 41, 74] := rfl
    rw [hty] at HCL
    clear hb6 hV hI hM hK hA hma hty
    go_upto_region 10 with fail
    go_wp2_with fail
    rw [← hw6]
    clear hw6
    refine HCL.out.mono ?_
    rintro e w7 ⟨rfl, hb7⟩
    have HB7 := Lib.hid (bl_trans HB6.out hb7)
    have v0 := (HV.out.below hb7).cell 0
    have v1 := (HV.out.below hb7).cell 1
    have v2 := (HV.out.below hb7).lt
    unfold toldV
    clear hb7
    go_wp2_with fail
    go_ret
    exact ⟨rfl, bl_alloc HB7.out _⟩
  | false =>
    have hkey : ∃ w6, w6 = (((((w1.alloc (.cells #[.int .i64 1, .int .i64 (wrap32 n)] 42)).alloc (.cells #[.int .i64 4, .int .i64 0, .int .i64 0, .string ⟨#[]⟩, .string ⟨#[]⟩, .string ⟨#[]⟩, .int .i64 27, .int .i64 0, .int .i64 0, .string ⟨#[]⟩, .string ⟨#[]⟩, .string ⟨#[]⟩] 35)).alloc (.cells #[.string ⟨#[105, 100]⟩, .string ⟨⟨[40, 73, 41, 73]⟩⟩, .bool true, .bool false, .bool false, .int .i64 1, .slice (some ⟨w1.heap.size + 1, 0, none⟩) 2 2, .slice none 0 0] 39)).alloc (.cells #[.string ⟨#[105, 100]⟩, .string ⟨⟨[40, 73, 41, 73]⟩⟩, .bool true, .bool false, .bool false, .int .i64 1, .slice (some ⟨w1.heap.size + 1, 0, none⟩) 2 2, .slice none 0 0] 39)).alloc (.cells #[.string ⟨#[65]⟩, .string ⟨#[79, 98, 106, 101, 99, 116]⟩, .slice none 0 0, .bool false, .slice none 0 0, .slice (some ⟨w1.heap.size + 1 + 1 + 1, 0, none⟩) 1 1] 31)).alloc (.cells #[.int .i64 1, .int .i64 (wrap32 n)] 42) := ⟨_, rfl⟩
    obtain ⟨w6, hw6⟩ := hkey
    have hb6 : Below w1.heap.size w1 w6 := by rw [hw6]; exact bl_alloc (bl_alloc (bl_alloc (bl_alloc (bl_alloc (bl_alloc (Below.refl _ _) _) _) _) _) _) _
    have hV := (show Blk w6 w1.heap.size 42 #[.int .i64 1, .int .i64 (wrap32 n)] by rw [hw6]; exact (((((blk_new _ _ _ _ rfl).alloc _).alloc _).alloc _).alloc _).alloc _)
    have hI := (show Blk w6 (w1.heap.size + 1) 35 ((idM [73]).code.map insCells).flatten.toArray by rw [hw6]; exact ((((blk_new _ _ _ _ (by simp)).alloc _).alloc _).alloc _).alloc _)
    have hM := (show Blk w6 (w1.heap.size + 1 + 1 + 1) 39 (mArr (idM [73]) ⟨some ⟨w1.heap.size + 1, 0, none⟩, 2, none, 0⟩) by rw [hw6]; exact ((blk_new _ _ _ _ (by simp)).alloc _).alloc _)
    have hK := (show Blk w6 (w1.heap.size + 1 + 1 + 1 + 1) 31 (classCells (oneC (idM [73])) (oneA (w1.heap.size + 1 + 1 + 1) ⟨some ⟨w1.heap.size + 1, 0, none⟩, 2, none, 0⟩)).toArray by rw [hw6]; exact (blk_new _ _ _ _ (by simp)).alloc _)
    have hA := (show Blk w6 (w1.heap.size + 1 + 1 + 1 + 1 + 1) 42 #[.int .i64 1, .int .i64 (wrap32 n)] by rw [hw6]; exact blk_new _ _ _ _ (by simp))
    have hma : MethAt w6 (idM [73]) ⟨some ⟨w1.heap.size + 1, 0, none⟩, 2, none, 0⟩ := ⟨rows_of_blk hI (Nat.le_refl _) (by intro c hc; obtain ⟨x, _, rfl⟩ := List.mem_map.1 hc; rfl), ⟨Nat.le_refl _, Or.inl rfl⟩⟩
    have HCL := Lib.hid (id_call [73] (by decide) ⟨1, (wrap32 n)⟩ (Or.inl ⟨rfl, rfl, by show wrap32 n = wrap32 (wrap32 n); unfold wrap32; omega⟩) (w1.heap.size + 1 + 1 + 1 + 1) (w1.heap.size + 1 + 1 + 1) (w1.heap.size + 1 + 1 + 1 + 1 + 1) ⟨some ⟨w1.heap.size + 1, 0, none⟩, 2, none, 0⟩ w6 (HF.out.below (bl_trans HB1.out hb6)) hK hM hma hA)
    have HV := Lib.hid hV
    have HB6 := Lib.hid (bl_trans HB1.out hb6)
    have hty : (idM [73]).ty = [40, 73, 41, 73] := rfl
    rw [hty] at HCL
    clear hb6 hV hI hM hK hA hma hty
    go_upto_region 10 with fail
    go_wp2_with fail
    rw [← hw6]
    clear hw6
    refine HCL.out.mono ?_
    rintro e w7 ⟨rfl, hb7⟩
    have HB7 := Lib.hid (bl_trans HB6.out hb7)
    have v0 := (HV.out.below hb7).cell 0
    have v1 := (HV.out.below hb7).cell 1
    have v2 := (HV.out.below hb7).lt
    unfold toldV
    clear hb7
    go_wp2_with fail
    go_ret
    exact ⟨rfl, bl_alloc HB7.out _⟩

theorem runGives.walk (a : Int) (ha : (Lit.int .i64 a).wf = true) (b : Bool) (w : World) (hL : laidMetH Tryz.prog Rows.runGivesRow.laid w) {S : Prop} (_ : S) :
    Calls Tryz.prog 6 #[.int .i64 a, .bool b] w fun e w' => e = .returned (.bool true) ∧ Below w.heap.size w w' := by
  have h : -9223372036854775808 ≤ a ∧ a ≤ 9223372036854775807 := by simpa [Lit.wf, IntKind.min, IntKind.max, IntKind.signed, IntKind.bits] using ha
  exact runGives_go a b w (forms_of_laid hL (by kernel_rfl)) h.1 h.2
end Go.Proofs.YtfddgdbebhmcnaaGreatDoor
