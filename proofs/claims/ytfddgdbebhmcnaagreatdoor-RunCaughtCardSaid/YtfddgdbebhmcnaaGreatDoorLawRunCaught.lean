import Derived.Test.YtfddgdbebhmcnaaGreatDoorRj
import Derived.Test.YtfddgdbebhmcnaaGreatDoorWr
import Derived.Test.YtfddgdbebhmcnaaGreatDoorFrame
import Derived.BigQuiet
namespace Go.Proofs.YtfddgdbebhmcnaaGreatDoor
set_option maxRecDepth 100000
set_option maxHeartbeats 8000000
set_option linter.unusedVariables false
set_option linter.unusedSimpArgs false
open Go.RowKit Go.Shelf Go.Lib
theorem runCaught_go (a b k : Int) (w : World) (hF : FormsAt w) (ha : -9223372036854775808 ≤ a ∧ a ≤ 9223372036854775807) (hb : -9223372036854775808 ≤ b ∧ b ≤ 9223372036854775807) (hk : -9223372036854775808 ≤ k ∧ k ≤ 9223372036854775807) :
   Calls Tryz.prog 7 #[.int .i64 a, .int .i64 b, .int .i64 k] w fun e w' => e = .returned (.bool true) ∧ Below w.heap.size w w' := by
 have HF := Hd hF
 have HWA := Hd (fun W => wrap_calls a W ha.1 ha.2)
 have HWB := Hd (fun W => wrap_calls b W hb.1 hb.2)
 have HWK := Hd (fun W => wrap_calls k W hk.1 hk.2)
 obtain ⟨x, hx⟩ : ∃ x, x = wrap32 a := ⟨_, rfl⟩
 obtain ⟨y, hy⟩ : ∃ y, y = wrap32 b := ⟨_, rfl⟩
 obtain ⟨z, hz⟩ : ∃ z, z = wrap32 k := ⟨_, rfl⟩
 have HX := Hd (show Is32 x by rw [hx]; exact is32_wrap a)
 have HY := Hd (show Is32 y by rw [hy]; exact is32_wrap b)
 have HZ := Hd (show Is32 z by rw [hz]; exact is32_wrap k)
 rw [← hx] at HWA
 rw [← hy] at HWB
 rw [← hz] at HWK
 clear hF ha hb hk hx hy hz
 go_enter Tryz.func7, Tryz.ntmps7
 go_wp2_with fail
 refine (named_true _).mono ?_
 rintro e w1 ⟨rfl, hb1⟩
 have HB1 := Hd hb1
 clear hb1
 go_wp2_with fail
 refine (HWA.out _).mono ?_
 rintro e w2 ⟨rfl, rfl⟩
 go_wp2_with fail
 refine (HWB.out _).mono ?_
 rintro e w2 ⟨rfl, rfl⟩
 go_upto_region 3 with fail
 refine (HWK.out _).mono ?_
 rintro e w2 ⟨rfl, rfl⟩
 obtain ⟨tk1, tn1, th1, s1, tk2, tn2, th2, s2, hC1, hC2, hR0, hR1⟩ := dv_two x y z HX.out HY.out HZ.out
 have HC1 := Hd hC1
 have HC2 := Hd hC2
 have HR0 := Hd hR0
 have HR1 := Hd hR1
 clear hC1 hC2 hR0 hR1
 obtain ⟨w6, hw6⟩ : ∃ w6, w6 = (((((w1.alloc (.cells #[.int .i64 2, .int .i64 x, .int .i64 0, .string ⟨#[73]⟩, .string ⟨#[]⟩, .string ⟨#[]⟩, .int .i64 2, .int .i64 y, .int .i64 0, .string ⟨#[73]⟩, .string ⟨#[]⟩, .string ⟨#[]⟩, .int .i64 9, .int .i64 4, .int .i64 0, .string ⟨#[73]⟩, .string ⟨#[]⟩, .string ⟨#[]⟩, .int .i64 27, .int .i64 0, .int .i64 0, .string ⟨#[]⟩, .string ⟨#[]⟩, .string ⟨#[]⟩, .int .i64 6, .int .i64 0, .int .i64 0, .string ⟨#[]⟩, .string ⟨#[]⟩, .string ⟨#[]⟩, .int .i64 2, .int .i64 z, .int .i64 0, .string ⟨#[73]⟩, .string ⟨#[]⟩, .string ⟨#[]⟩, .int .i64 27, .int .i64 0, .int .i64 0, .string ⟨#[]⟩, .string ⟨#[]⟩, .string ⟨#[]⟩] 35)).alloc
     (.cells #[.string ⟨#[102]⟩, .string ⟨#[40, 41, 73]⟩, .bool true, .bool false, .bool false, .int .i64 0, .slice (some ⟨w1.heap.size, 0, none⟩) 7 7, .slice none 0 0] 39)).alloc
     (.cells #[.string ⟨#[102]⟩, .string ⟨#[40, 41, 73]⟩, .bool true, .bool false, .bool false, .int .i64 0, .slice (some ⟨w1.heap.size, 0, none⟩) 7 7, .slice (some ⟨w1.heap.size + 1 + 1 + 1, 0, none⟩) 1 1] 39)).alloc
     (.cells #[.int .i64 2, .int .i64 3, .int .i64 4, .string ⟨#[70, 97, 117, 108, 116]⟩] 74)).alloc
     (.cells #[.string ⟨#[102]⟩, .string ⟨#[40, 41, 73]⟩, .bool true, .bool false, .bool false, .int .i64 0, .slice (some ⟨w1.heap.size, 0, none⟩) 7 7, .slice none 0 0] 39)).alloc
     (.cells #[.string ⟨#[65]⟩, .string ⟨#[79, 98, 106, 101, 99, 116]⟩, .slice none 0 0, .bool false, .slice none 0 0, .slice (some ⟨w1.heap.size + 1 + 1 + 1 + 1, 0, none⟩) 1 1] 31) := ⟨_, rfl⟩
 have hb6 : Below w1.heap.size w1 w6 := by rw [hw6]; exact bl_alloc (bl_alloc (bl_alloc (bl_alloc (bl_alloc (bl_alloc (Below.refl _ _) _) _) _) _) _) _
 have hI := (show Blk w6 w1.heap.size 35 ((dvCode x y z).map insCells).flatten.toArray by rw [hw6]; exact (((((blk_new _ _ _ _ rfl).alloc _).alloc _).alloc _).alloc _).alloc _)
 have hM2 := (show Blk w6 (w1.heap.size + 1 + 1) 39 #[.string ⟨#[102]⟩, .string ⟨#[40, 41, 73]⟩, .bool true, .bool false, .bool false, .int .i64 0, .slice (some ⟨w1.heap.size, 0, none⟩) 7 7, .slice (some ⟨w1.heap.size + 1 + 1 + 1, 0, none⟩) 1 1] by rw [hw6]; exact (((blk_new _ _ _ _ (by simp)).alloc _).alloc _).alloc _)
 have hH := (show Blk w6 (w1.heap.size + 1 + 1 + 1) 74 (([dvH]).map handCells).flatten.toArray by rw [hw6]; exact ((blk_new _ _ _ _ (by simp)).alloc _).alloc _)
 have hM := (show Blk w6 (w1.heap.size + 1 + 1 + 1 + 1) 39 (mArr (dvM x y z []) ⟨some ⟨w1.heap.size, 0, none⟩, 7, none, 0⟩) by rw [hw6]; exact (blk_new _ _ _ _ (by simp)).alloc _)
 have hK := (show Blk w6 (w1.heap.size + 1 + 1 + 1 + 1 + 1) 31 (classCells (oneC (dvM x y z [])) (oneA (w1.heap.size + 1 + 1 + 1 + 1) ⟨some ⟨w1.heap.size, 0, none⟩, 7, none, 0⟩)).toArray by rw [hw6]; exact blk_new _ _ _ _ (by simp))
 have hca : CodeAt w6 (some ⟨w1.heap.size, 0, none⟩) 7 (dvCode x y z) := rows_of_blk hI (Nat.le_refl _) (by intro c hc; obtain ⟨x, _, rfl⟩ := List.mem_map.1 hc; rfl)
 have hha : HandsAt w6 (some ⟨w1.heap.size + 1 + 1 + 1, 0, none⟩) 1 [dvH] := rows_of_blk hH (Nat.le_refl _) (by intro c hc; obtain ⟨x, _, rfl⟩ := List.mem_map.1 hc; rfl)
 have HCL := Hd (HC1.out (w1.heap.size + 1 + 1 + 1 + 1 + 1) (w1.heap.size + 1 + 1 + 1 + 1) ⟨some ⟨w1.heap.size, 0, none⟩, 7, none, 0⟩ w6 (HF.out.below (bl_trans HB1.out hb6)) hK hM ⟨hca, ⟨Nat.le_refl _, Or.inl rfl⟩⟩)
 have HM2 := Hd hM2
 have HCA := Hd hca
 have HHA := Hd hha
 have HB6 := Hd (bl_trans HB1.out hb6)
 clear hb6 hI hM hK hH hM2 hca hha
 go_wp2_with fail
 rw [← hw6]
 clear hw6
 refine HCL.out.mono ?_
 rintro e w7 ⟨rfl, hb7⟩
 have HB7 := Hd (bl_trans HB6.out hb7)
 have HM7 := Hd (HM2.out.below hb7)
 have HCA7 := Hd (HCA.out.below hb7)
 have HHA7 := Hd (HHA.out.below hb7)
 have m0 := HM7.out.cell 0
 have m1 := HM7.out.cell 1
 have m2 := HM7.out.cell 2
 have m3 := HM7.out.cell 3
 have m4 := HM7.out.cell 4
 have m5 := HM7.out.cell 5
 have m6 := HM7.out.cell 6
 have m7 := HM7.out.cell 7
 have m8 := HM7.out.lt
 clear hb7
 obtain ⟨w9, hw9⟩ : ∃ w9, w9 = ((w7.alloc (.cells #[.int .i64 tk1, .int .i64 tn1, .string ⟨⟨th1⟩⟩, .int .i64 s1] 44)).alloc
     (.cells #[.string ⟨#[102]⟩, .string ⟨#[40, 41, 73]⟩, .bool true, .bool false, .bool false, .int .i64 0, .slice (some ⟨w1.heap.size, 0, none⟩) 7 7, .slice (some ⟨w1.heap.size + 1 + 1 + 1, 0, none⟩) 1 1] 39)).alloc
     (.cells #[.string ⟨#[65]⟩, .string ⟨#[79, 98, 106, 101, 99, 116]⟩, .slice none 0 0, .bool false, .slice none 0 0, .slice (some ⟨w7.heap.size + 1, 0, none⟩) 1 1] 31) := ⟨_, rfl⟩
 have hb9 : Below w7.heap.size w7 w9 := by rw [hw9]; exact bl_alloc (bl_alloc (bl_alloc (Below.refl _ _) _) _) _
 have HT9 := Hd (show Blk w9 w7.heap.size 44 #[.int .i64 tk1, .int .i64 tn1, .string ⟨⟨th1⟩⟩, .int .i64 s1] by rw [hw9]; exact ((blk_new _ _ _ _ rfl).alloc _).alloc _)
 have hM := (show Blk w9 (w7.heap.size + 1) 39 (mArr (dvM x y z [dvH]) ⟨some ⟨w1.heap.size, 0, none⟩, 7, some ⟨w1.heap.size + 1 + 1 + 1, 0, none⟩, 1⟩) by rw [hw9]; exact (blk_new _ _ _ _ (by simp)).alloc _)
 have hK := (show Blk w9 (w7.heap.size + 1 + 1) 31 (classCells (oneC (dvM x y z [dvH])) (oneA (w7.heap.size + 1) ⟨some ⟨w1.heap.size, 0, none⟩, 7, some ⟨w1.heap.size + 1 + 1 + 1, 0, none⟩, 1⟩)).toArray by rw [hw9]; exact blk_new _ _ _ _ (by simp))
 have HCL9 := Hd (HC2.out (w7.heap.size + 1 + 1) (w7.heap.size + 1) ⟨some ⟨w1.heap.size, 0, none⟩, 7, some ⟨w1.heap.size + 1 + 1 + 1, 0, none⟩, 1⟩ w9 (HF.out.below (bl_trans HB7.out hb9)) hK hM ⟨HCA7.out.below hb9, HHA7.out.below hb9⟩)
 have HB9 := Hd (bl_trans HB7.out hb9)
 clear hb9 hM hK
 unfold toldV
 go_wp2_with fail
 rw [← hw9]
 clear hw9 m0 m1 m2 m3 m4 m5 m6 m7 m8 HM7 HCA7 HHA7
 refine HCL9.out.mono ?_
 rintro e w10 ⟨rfl, hb10⟩
 have HB10 := Hd (bl_trans HB9.out hb10)
 have HT10 := Hd (HT9.out.below hb10)
 have t0 := HT10.out.cell 0
 have t1 := HT10.out.cell 1
 have t2 := HT10.out.cell 2
 have t3 := HT10.out.cell 3
 have t4 := HT10.out.lt
 clear hb10
 unfold toldV
 by_cases hy0 : y = 0
 · obtain ⟨⟨rfl, rfl, rfl, rfl⟩, rfl, rfl, rfl, rfl⟩ := HR0.out hy0
   subst hy0
   go_wp2_with fail
   obtain ⟨w11, hw11⟩ : ∃ w11, w11 = w10.alloc (.cells #[.int .i64 1, .int .i64 tn2, .string ⟨⟨[]⟩⟩, .int .i64 6] 44) := ⟨_, rfl⟩
   have hb11 : Below w10.heap.size w10 w11 := by rw [hw11]; exact bl_alloc (Below.refl _ _) _
   have hU11 := (show Blk w11 w10.heap.size 44 #[.int .i64 1, .int .i64 tn2, .string ⟨⟨[]⟩⟩, .int .i64 6] by rw [hw11]; exact blk_new _ _ _ _ rfl)
   have hT11 := HT10.out.below hb11
   have HB11 := Hd (bl_trans HB10.out hb11)
   rw [← hw11]
   clear hw11 hb11 t0 t1 t2 t3 t4
   have t0 := hT11.cell 0
   have t1 := hT11.cell 1
   have t2 := hT11.cell 2
   have t3 := hT11.cell 3
   have t4 := hT11.lt
   have u0 := hU11.cell 0
   have u1 := hU11.cell 1
   have u2 := hU11.cell 2
   have u3 := hU11.cell 3
   have u4 := hU11.lt
   unfold fltN at t2
   clear hT11 hU11
   go_quiet (exact (HWK.out _).mono (fun e w1 h => by obtain ⟨rfl, rfl⟩ := h; exact ⟨rfl, _, rfl⟩))
   go_wp2_with fail
   go_ret
   exact ⟨rfl, below_dn HB11.out _⟩
 · obtain ⟨⟨rfl, rfl, rfl, rfl⟩, rfl, rfl, rfl, rfl⟩ := HR1.out hy0
   go_wp2_with fail
   refine (nmath_div x y hy0 HX.out HY.out _).mono ?_
   rintro e w11 ⟨rfl, rfl⟩
   go_wp2_with fail
   go_ret
   exact ⟨rfl, bl_alloc HB10.out _⟩
theorem runCaught.walk (a : Int) (ha : (Lit.int .i64 a).wf = true) (b : Int) (hb : (Lit.int .i64 b).wf = true) (k : Int) (hk : (Lit.int .i64 k).wf = true) (w : World) (hL : laidMetH Tryz.prog Rows.runCaughtRow.laid w) {S : Prop} (_ : S) :
   Calls Tryz.prog 7 #[.int .i64 a, .int .i64 b, .int .i64 k] w fun e w' => e = .returned (.bool true) ∧ Below w.heap.size w w' := by
 have h1 : -9223372036854775808 ≤ a ∧ a ≤ 9223372036854775807 := by simpa [Lit.wf, IntKind.min, IntKind.max, IntKind.signed, IntKind.bits] using ha
 have h2 : -9223372036854775808 ≤ b ∧ b ≤ 9223372036854775807 := by simpa [Lit.wf, IntKind.min, IntKind.max, IntKind.signed, IntKind.bits] using hb
 have h3 : -9223372036854775808 ≤ k ∧ k ≤ 9223372036854775807 := by simpa [Lit.wf, IntKind.min, IntKind.max, IntKind.signed, IntKind.bits] using hk
 exact runCaught_go a b k w (forms_of_laid hL (by kernel_rfl)) h1 h2 h3
end Go.Proofs.YtfddgdbebhmcnaaGreatDoor
