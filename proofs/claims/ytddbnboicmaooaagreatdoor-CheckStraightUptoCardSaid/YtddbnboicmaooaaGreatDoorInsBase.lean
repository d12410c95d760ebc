import Derived.Test.YtddbnboicmaooaaGreatDoorBase
import Derived.LaidSub
import Derived.Lib.LaidTab
namespace Go.Proofs.YtddbnboicmaooaaGreatDoor
set_option maxRecDepth 100000
set_option maxHeartbeats 16000000
set_option linter.unusedVariables false
set_option linter.unusedSimpArgs false
open Go.RowKit Go.Lib Go.ChangeShapes
def formsData : DataW Unit := .agg (formL.map fun p => .agg [.lit (.string p.1), .lit (.string p.2)])
def FormsAt (w : World) : Prop := ∀ (i : Nat) (p : List UInt8 × List UInt8), formL[i]? = some p → w.cell? ⟨0, i * 2, none⟩ = some (.string ⟨⟨p.1⟩⟩) ∧ w.cell? ⟨0, i * 2 + 1, none⟩ = some (.string ⟨⟨p.2⟩⟩)
theorem FormsAt.lt {w : World} (h : FormsAt w) : 0 < w.heap.size := by
 have h1 := (h 0 _ rfl).1
 exact World.block_lt_of_cell? w _ h1
theorem FormsAt.below {w w' : World} (h : FormsAt w) (hb : Below w.heap.size w w') : FormsAt w' := fun i p hp => by
 have hl := h.lt
 obtain ⟨h1, h2⟩ := h i p hp
 exact ⟨by rw [hb.cell (p := ⟨0, i * 2, none⟩) hl]; exact h1, by rw [hb.cell (p := ⟨0, i * 2 + 1, none⟩) hl]; exact h2⟩
theorem bytes_of {s : ByteArray} {l : List UInt8} (h : s.data.toList = l) : s = ⟨⟨l⟩⟩ := by
 subst h
 rfl
theorem forms_of_laid {laid : List (String × DataW Unit)} {W : World} (h : laidMetH Tryz.prog laid W) (hf : laid.filter (fun x => x.1 == "coffeehouse/ins.forms") = [("coffeehouse/ins.forms", formsData)]) : FormsAt W := by
 have h1 := h.filter (fun x => x.1 == "coffeehouse/ins.forms")
 rw [hf] at h1
 have h2 := (laidMetH_iff.1 h1).1
 have h3 : laidMet Tryz.prog [("coffeehouse/ins.forms", formsData)] W := h2
 obtain ⟨ps, ⟨g', t', cs, fuel, p, q, hg', ht', hvar, hd, _, _⟩, _⟩ := h3
 have hg : Tryz.prog.globalNamed "coffeehouse/ins.forms" = some 0 := by kernel_rfl
 obtain rfl := Option.some.inj (hg.symm.trans hg')
 have hty : (Tryz.prog.globals[0]?).map (·.type) = some 218 := by kernel_rfl
 obtain rfl := Option.some.inj (hty.symm.trans ht')
 obtain ⟨xs, m, _, hx, _, hlen, hat⟩ := DataW.trod_array (n := 29) Tryz.underlying218 hd
 have hce : Tryz.prog.cellsOf 162 = 2 := by kernel_rfl
 have hcs : Tryz.prog.cellsOf 9 = 1 := by kernel_rfl
 rw [hce] at hat
 have hxd : xs.map (·.1) = formL.map fun p => (.agg [.lit (.string p.1), .lit (.string p.2)] : DataW Unit) := by
   have := congrArg Prod.fst hx
   simp only [formsData, DataW.agg.injEq] at this
   exact this.symm
 intro i pr hp
 have hi : i < 29 := by
   have := (List.getElem?_eq_some_iff.1 hp).1
   exact this
 have h4 := hat i hi
 obtain ⟨y, hy⟩ : ∃ y, xs[i]? = some y := ⟨_, List.getElem?_eq_getElem (by omega)⟩
 rw [hy] at h4
 have hyd : y.1 = .agg [.lit (.string pr.1), .lit (.string pr.2)] := by
   have h5 : (xs.map (·.1))[i]? = some y.1 := by rw [List.getElem?_map, hy]; rfl
   rw [hxd, List.getElem?_map, hp] at h5
   exact (Option.some.inj h5).symm
 obtain ⟨zs, m2, _, hz, _, hzl, hzf⟩ := DataW.trod_struct Tryz.underlying162 h4
 have f0 : DataW.trod (fun _ => ()) Tryz.prog W 0 (fun _ => true) false m2 9 ((((cs.toList.drop (i * 2)).take 2).drop 0).take (Tryz.prog.cellsOf 9)) = zs[0]? := hzf 0 _ rfl
 have f1 : DataW.trod (fun _ => ()) Tryz.prog W 0 (fun _ => true) false m2 9 ((((cs.toList.drop (i * 2)).take 2).drop 1).take (Tryz.prog.cellsOf 9)) = zs[1]? := hzf 1 _ rfl
 rw [hcs] at f0 f1
 rw [hz] at hyd
 simp only [DataW.agg.injEq] at hyd
 have hz0 : ∃ z0, zs[0]? = some z0 := ⟨_, List.getElem?_eq_getElem (by rw [hzl]; decide)⟩
 have hz1 : ∃ z1, zs[1]? = some z1 := ⟨_, List.getElem?_eq_getElem (by rw [hzl]; decide)⟩
 obtain ⟨z0, e0⟩ := hz0
 obtain ⟨z1, e1⟩ := hz1
 rw [e0] at f0
 rw [e1] at f1
 obtain ⟨s0, c0, x0, _⟩ := DataW.trod_string Tryz.underlying9 f0
 obtain ⟨s1, c1, x1, _⟩ := DataW.trod_string Tryz.underlying9 f1
 have d0 : z0.1 = .lit (.string pr.1) := by
   have h5 : (zs.map (·.1))[0]? = some z0.1 := by rw [List.getElem?_map, e0]; rfl
   rw [hyd] at h5
   exact (Option.some.inj h5).symm
 have d1 : z1.1 = .lit (.string pr.2) := by
   have h5 : (zs.map (·.1))[1]? = some z1.1 := by rw [List.getElem?_map, e1]; rfl
   rw [hyd] at h5
   exact (Option.some.inj h5).symm
 rw [x0] at d0
 rw [x1] at d1
 simp only [DataW.lit.injEq, Lit.string.injEq] at d0 d1
 have g0 : cs[i * 2]? = some (.string s0) := by
   have := congrArg (·[0]?) c0
   simpa [List.getElem?_take, List.getElem?_drop, Nat.mul_comm] using this
 have g1 : cs[i * 2 + 1]? = some (.string s1) := by
   have := congrArg (·[0]?) c1
   simpa [List.getElem?_take, List.getElem?_drop, Nat.mul_comm] using this
 have v0 := World.var?_cell hg hvar (i * 2)
 have v1 := World.var?_cell hg hvar (i * 2 + 1)
 rw [g0] at v0
 rw [g1] at v1
 rw [bytes_of d0] at v0
 rw [bytes_of d1] at v1
 exact ⟨v0, v1⟩
open Go.Shelf
theorem of_in (n : Nat) (h1 : 1 ≤ n) (h2 : n ≤ 28) (w : World) (hF : FormsAt w) :
   Calls Tryz.prog 86 #[.int .i64 n] w fun e w' => e = .returned (.tuple #[.agg #[.string ⟨⟨wordL n⟩⟩, .string ⟨⟨needL n⟩⟩], .bool true]) ∧ Below w.heap.size w w' := by
 obtain ⟨c0, c1⟩ := hF n _ (form_get (by omega))
 have hlt := hF.lt
 have HF := Hd hF
 clear hF
 go_enter Tryz.func86, Tryz.ntmps86
 go_wp2_with fail
 exact bodyPost_ret (v := .tuple #[.agg #[.string ⟨⟨wordL n⟩⟩, .string ⟨⟨needL n⟩⟩], .bool true]) (by simp [results, Tryz.results86, go_sem]) rfl ⟨rfl, (Below.refl _ _).alloc (Nat.le_refl _) _⟩
theorem of_out (op : Int) (h : op < 1 ∨ 28 < op) (w : World) :
   Calls Tryz.prog 86 #[.int .i64 op] w fun e w' => e = .returned (.tuple #[.agg #[.string ⟨#[]⟩, .string ⟨#[]⟩], .bool false]) ∧ Below w.heap.size w w' := by
 rcases h with h | h
 all_goals
   go_enter Tryz.func86, Tryz.ntmps86
   go_wp2_with fail
   exact bodyPost_ret (v := .tuple #[.agg #[.string ⟨#[]⟩, .string ⟨#[]⟩], .bool false]) (by simp [results, Tryz.results86, go_sem]) rfl ⟨rfl, (Below.refl _ _).alloc (Nat.le_refl _) _⟩
theorem index_ge (l : List UInt8) (c : UInt8) : -1 ≤ indexByte l c := by
 induction l with
 | nil => simp [indexByte]
 | cons x y ih =>
   rw [indexByte]
   split
   · omega
   · split <;> omega
theorem index_mem (nd : List UInt8) (c : UInt8) : decide (0 ≤ indexByte nd c) = decide (c ∈ nd) := by
 induction nd with
 | nil => rfl
 | cons b r ih =>
   rw [indexByte]
   by_cases e : b = c
   · subst e; simp
   · have e1 : (b == c) = false := by simpa using e
     have e2 : ¬ c = b := fun q => e q.symm
     rw [Bool.eq_iff_iff] at ih ⊢
     simp only [decide_eq_true_eq, List.mem_cons, e1, e2, false_or, Bool.false_eq_true, if_false] at ih ⊢
     rw [← ih]
     have := index_ge r c
     split
     · rename_i h; rw [eq_of_beq h]
     · rename_i h
       have hn : indexByte r c ≠ -1 := fun q => h (by rw [q]; rfl)
       omega
theorem contains_one (nd : List UInt8) (c : UInt8) (w : World) : Calls Tryz.prog 88 #[.string ⟨⟨nd⟩⟩, .string ⟨#[c]⟩] w fun e w' => e = .returned (.bool (decide (c ∈ nd))) ∧ w = w' :=
 (Tryz.strings_Contains_one ⟨⟨nd⟩⟩ c w).mono fun e w' ⟨h1, h2⟩ => ⟨by rw [h1]; exact ret_bool (index_mem nd c), h2.symm⟩
theorem needs_calls (nd : List UInt8) (c : UInt8) (b : Nat) (w : World) (hc : w.cell? ⟨b, 1, none⟩ = some (.string ⟨⟨nd⟩⟩)) :
   Calls Tryz.prog 87 #[.string ⟨#[c]⟩, .pointer (some ⟨b, 0, none⟩)] w fun e w' => e = .returned (.bool (decide (c ∈ nd))) ∧ w = w' := by
 go_enter Tryz.func87, Tryz.ntmps87
 go_wp2_with fail
 refine (contains_one nd c _).mono ?_
 rintro e w1 ⟨rfl, rfl⟩
 go_wp2_with fail
 go_ret
 exact ⟨rfl, rfl⟩
theorem wrap64_32 (a : Int) : wrap64 (wrap32 a) = wrap32 a := by
 refine IntWalk.wrap64_in _ ?_
 unfold wrap32
 omega
theorem jumps_calls (op : Int) (w : World) : Calls Tryz.prog 153 #[.int .i64 op] w fun e w' => e = .returned (.bool (jumpsB op)) ∧ w' = w := by
 go_enter Tryz.func153, Tryz.ntmps153
 go_wp2_with fail
 all_goals go_ret
 all_goals refine ⟨ret_bool ?_, rfl⟩
 all_goals (rw [Bool.eq_iff_iff]; simp only [jumpsB, Bool.or_eq_true, Bool.and_eq_true, decide_eq_true_eq, beq_iff_eq, true_iff]; omega)
theorem ranged_2 (a b : Int) (ty cl nm : List UInt8) (w : World) : Calls Tryz.prog 89 #[insV ⟨2, a, b, ty, cl, nm⟩] w fun e w' => e = .returned (.bool (rangedB ⟨2, a, b, ty, cl, nm⟩)) ∧ Below w.heap.size w w' := by
 unfold insV
 by_cases ht : ty = [73]
 · subst ht
   have hr : rangedB ⟨2, a, b, [73], cl, nm⟩ = (a == wrap32 a) := by simp [rangedB]
   have e1 : wrap64 (wrap32 a) = wrap32 a := wrap64_32 a
   rw [hr]
   clear hr
   go_enter Tryz.func89, Tryz.ntmps89
   go_wp2_with fail
   go_ret
   exact ⟨rfl, (Below.refl _ _).alloc (Nat.le_refl _) _⟩
 · have hr : rangedB ⟨2, a, b, ty, cl, nm⟩ = true := by simp [rangedB, ht]
   have e1 : (ty == [73]) = false := by rw [beq_eq_false_iff_ne]; exact ht
   rw [hr]
   clear hr ht
   go_enter Tryz.func89, Tryz.ntmps89
   go_wp2_with fail
   go_ret
   exact ⟨rfl, (Below.refl _ _).alloc (Nat.le_refl _) _⟩
theorem ranged_45 (op a b : Int) (ty cl nm : List UInt8) (h : op = 4 ∨ op = 5) (w : World) : Calls Tryz.prog 89 #[insV ⟨op, a, b, ty, cl, nm⟩] w fun e w' => e = .returned (.bool (rangedB ⟨op, a, b, ty, cl, nm⟩)) ∧ Below w.heap.size w w' := by
 unfold insV
 rcases h with rfl | rfl
 all_goals go_enter Tryz.func89, Tryz.ntmps89
 all_goals go_wp2_with fail
 all_goals go_ret
 all_goals refine ⟨ret_bool ?_, (Below.refl _ _).alloc (Nat.le_refl _) _⟩
 all_goals (rw [Bool.eq_iff_iff]; simp [rangedB]; omega)
theorem ranged_9 (a b : Int) (ty cl nm : List UInt8) (w : World) : Calls Tryz.prog 89 #[insV ⟨9, a, b, ty, cl, nm⟩] w fun e w' => e = .returned (.bool (rangedB ⟨9, a, b, ty, cl, nm⟩)) ∧ Below w.heap.size w w' := by
 unfold insV
 go_enter Tryz.func89, Tryz.ntmps89
 go_wp2_with fail
 all_goals go_ret
 all_goals refine ⟨ret_bool ?_, (Below.refl _ _).alloc (Nat.le_refl _) _⟩
 all_goals (rw [Bool.eq_iff_iff]; simp [rangedB]; omega)
theorem ranged_rest (op a b : Int) (ty cl nm : List UInt8) (h2 : (op == 2) = false) (h4 : (op == 4) = false) (h5 : (op == 5) = false) (h9 : (op == 9) = false) (w : World) : Calls Tryz.prog 89 #[insV ⟨op, a, b, ty, cl, nm⟩] w fun e w' => e = .returned (.bool (rangedB ⟨op, a, b, ty, cl, nm⟩)) ∧ Below w.heap.size w w' := by
 have HJ := Hd (fun w => jumps_calls op w)
 have e2 : op ≠ 2 := by simpa using h2
 have e4 : op ≠ 4 := by simpa using h4
 have e5 : op ≠ 5 := by simpa using h5
 have e9 : op ≠ 9 := by simpa using h9
 have HE := Hd (And.intro e2 (And.intro e4 (And.intro e5 e9)))
 clear e2 e4 e5 e9
 unfold insV
 cases hj : jumpsB op
 · have HJJ := Hd hj
   go_enter Tryz.func89, Tryz.ntmps89
   go_wp2_with fail
   refine (HJ.out _).mono ?_
   rintro e w1 ⟨rfl, rfl⟩
   go_wp2_with fail
   all_goals go_ret
   all_goals refine ⟨ret_bool ?_, (Below.refl _ _).alloc (Nat.le_refl _) _⟩
   all_goals (obtain ⟨e2, e4, e5, e9⟩ := HE.out; have := HJJ.out; rw [Bool.eq_iff_iff]; simp_all [rangedB])
 · have HJJ := Hd hj
   go_enter Tryz.func89, Tryz.ntmps89
   go_wp2_with fail
   refine (HJ.out _).mono ?_
   rintro e w1 ⟨rfl, rfl⟩
   go_wp2_with fail
   all_goals go_ret
   all_goals refine ⟨ret_bool ?_, (Below.refl _ _).alloc (Nat.le_refl _) _⟩
   all_goals (obtain ⟨e2, e4, e5, e9⟩ := HE.out; have := HJJ.out; rw [Bool.eq_iff_iff]; simp_all [rangedB]; try omega)
theorem ranged_calls (x : InsR) (w : World) : Calls Tryz.prog 89 #[insV x] w fun e w' => e = .returned (.bool (rangedB x)) ∧ Below w.heap.size w w' := by
 obtain ⟨op, a, b, ty, cl, nm⟩ := x
 by_cases h2 : op = 2
 · subst h2; exact ranged_2 a b ty cl nm w
 by_cases h45 : op = 4 ∨ op = 5
 · exact ranged_45 op a b ty cl nm h45 w
 by_cases h9 : op = 9
 · subst h9; exact ranged_9 a b ty cl nm w
 exact ranged_rest op a b ty cl nm (by simpa using h2) (by simpa using fun h => h45 (Or.inl h)) (by simpa using fun h => h45 (Or.inr h)) (by simpa using h9) w
theorem number_calls (t : List UInt8) (w : World) : Calls Tryz.prog 154 #[.string ⟨⟨t⟩⟩] w fun e w' => e = .returned (.bool (numB t)) ∧ w = w' := by
 by_cases h1 : t = [73]
 · subst h1
   go_enter Tryz.func154, Tryz.ntmps154
   go_wp2_with fail
   go_ret
   exact ⟨rfl, rfl⟩
 by_cases h2 : t = [74]
 · subst h2
   go_enter Tryz.func154, Tryz.ntmps154
   go_wp2_with fail
   go_ret
   exact ⟨rfl, rfl⟩
 have q1 : (t == [73]) = false := by rw [beq_eq_false_iff_ne]; exact h1
 have q2 : (t == [74]) = false := by rw [beq_eq_false_iff_ne]; exact h2
 have HN : Hid (numB t = false) := by unfold numB; rw [q1, q2]; rfl
 clear h1 h2
 go_enter Tryz.func154, Tryz.ntmps154
 go_wp2_with fail
 go_ret
 exact ⟨ret_bool HN.out.symm, rfl⟩
def TypedAt (x : InsR) (w : World) : Prop := Calls Tryz.prog 90 #[insV x] w fun e w' => e = .returned (.bool (typedB x)) ∧ Below w.heap.size w w'
theorem typed_num (op a b : Int) (ty cl nm : List UInt8) (h : op = 2 ∨ op = 9 ∨ op = 10) (w : World) : TypedAt ⟨op, a, b, ty, cl, nm⟩ w := by
 have ht : typedB ⟨op, a, b, ty, cl, nm⟩ = numB ty := by unfold typedB; rw [if_pos h]
 unfold TypedAt
 rw [ht]
 clear ht
 unfold insV
 rcases h with rfl | rfl | rfl
 all_goals
   go_enter Tryz.func90, Tryz.ntmps90
   go_wp2_with fail
   refine (number_calls ty _).mono ?_
   rintro e w1 ⟨rfl, rfl⟩
   go_wp2_with fail
   go_ret
   exact ⟨rfl, (Below.refl _ _).alloc (Nat.le_refl _) _⟩
theorem typed_arr (op a b : Int) (ty cl nm : List UInt8) (hl : ty.length ≤ 8388608) (h : op = 18 ∨ op = 20 ∨ op = 21) (w : World) : TypedAt ⟨op, a, b, ty, cl, nm⟩ w := by
 classical
 have ht : typedB ⟨op, a, b, ty, cl, nm⟩ = (decide (TypeOk ty) && decide (TypeOk (91 :: ty))) := by
   unfold typedB; simp only; rw [if_neg (by omega), if_pos h]
 unfold TypedAt
 by_cases h1 : TypeOk ty
 · have H1 := Hd (fun w => check_ok ty h1 w)
   by_cases h2 : TypeOk (91 :: ty)
   · have H2 := Hd (fun w => check_ok (91 :: ty) h2 w)
     have hr : typedB ⟨op, a, b, ty, cl, nm⟩ = true := by rw [ht]; simp [h1, h2]
     rw [hr]
     clear ht hr h1 h2
     unfold insV
     rcases h with rfl | rfl | rfl
     all_goals
       go_enter Tryz.func90, Tryz.ntmps90
       go_wp2_with fail
       refine (H1.out _).mono ?_
       rintro e w1 ⟨rfl, hb1⟩
       obtain ⟨hc, hf⟩ := bcell hb1
       go_wp2_with fail
       refine (H2.out _).mono ?_
       rintro e w2 ⟨rfl, hb2⟩
       go_wp2_with fail
       go_ret
       exact ⟨rfl, new_below (bl_trans hb1 hb2)⟩
   · have H2 := Hd (fun w => check_bad (91 :: ty) h2 (by simp only [List.length_cons]; omega) w)
     have hr : typedB ⟨op, a, b, ty, cl, nm⟩ = false := by rw [ht]; simp [h2]
     rw [hr]
     clear ht hr h1 h2
     unfold insV
     rcases h with rfl | rfl | rfl
     all_goals
       go_enter Tryz.func90, Tryz.ntmps90
       go_wp2_with fail
       refine (H1.out _).mono ?_
       rintro e w1 ⟨rfl, hb1⟩
       obtain ⟨hc, hf⟩ := bcell hb1
       go_wp2_with fail
       refine (H2.out _).mono ?_
       rintro e w2 ⟨rfl, hb2⟩
       go_wp2_with fail
       go_ret
       exact ⟨rfl, new_below (bl_trans hb1 hb2)⟩
 · have H1 := Hd (fun w => check_bad ty h1 (by omega) w)
   have hr : typedB ⟨op, a, b, ty, cl, nm⟩ = false := by rw [ht]; simp [h1]
   rw [hr]
   clear ht hr h1
   unfold insV
   rcases h with rfl | rfl | rfl
   all_goals
     go_enter Tryz.func90, Tryz.ntmps90
     go_wp2_with fail
     refine (H1.out _).mono ?_
     rintro e w1 ⟨rfl, hb1⟩
     go_wp2_with fail
     go_ret
     exact ⟨rfl, new_below hb1⟩
theorem typed_cast (op a b : Int) (ty cl nm : List UInt8) (hl : ty.length ≤ 8388608) (h : op = 22 ∨ op = 23) (w : World) : TypedAt ⟨op, a, b, ty, cl, nm⟩ w := by
 classical
 have ht : typedB ⟨op, a, b, ty, cl, nm⟩ = (decide (TypeOk ty) && !(numB ty)) := by
   unfold typedB; simp only; rw [if_neg (by omega), if_neg (by omega), if_pos h]
 unfold TypedAt
 by_cases h1 : TypeOk ty
 · have H1 := Hd (fun w => check_ok ty h1 w)
   have hr : typedB ⟨op, a, b, ty, cl, nm⟩ = !(numB ty) := by rw [ht]; simp [h1]
   rw [hr]
   clear ht hr h1
   unfold insV
   rcases h with rfl | rfl
   all_goals
     go_enter Tryz.func90, Tryz.ntmps90
     go_wp2_with fail
     refine (H1.out _).mono ?_
     rintro e w1 ⟨rfl, hb1⟩
     obtain ⟨hc, hf⟩ := bcell hb1
     go_wp2_with fail
     refine (number_calls ty _).mono ?_
     rintro e w2 ⟨rfl, rfl⟩
     go_wp2_with fail
     go_ret
     exact ⟨rfl, new_below hb1⟩
 · have H1 := Hd (fun w => check_bad ty h1 (by omega) w)
   have hr : typedB ⟨op, a, b, ty, cl, nm⟩ = false := by rw [ht]; simp [h1]
   rw [hr]
   clear ht hr h1
   unfold insV
   rcases h with rfl | rfl
   all_goals
     go_enter Tryz.func90, Tryz.ntmps90
     go_wp2_with fail
     refine (H1.out _).mono ?_
     rintro e w1 ⟨rfl, hb1⟩
     go_wp2_with fail
     go_ret
     exact ⟨rfl, new_below hb1⟩
theorem typed_call (op a b : Int) (ty cl nm : List UInt8) (hl : ty.length ≤ 8388608) (h : op = 24 ∨ op = 25) (w : World) : TypedAt ⟨op, a, b, ty, cl, nm⟩ w := by
 classical
 have ht : typedB ⟨op, a, b, ty, cl, nm⟩ = decide (∃ A g, MethodOk ty A g) := by
   unfold typedB; simp only; rw [if_neg (by omega), if_neg (by omega), if_neg (by omega), if_pos h]
 unfold TypedAt
 have HT := Hd ht
 clear ht
 unfold insV
 rcases h with rfl | rfl
 all_goals
   go_enter Tryz.func90, Tryz.ntmps90
   go_wp2_with fail
   refine (method_calls ty hl _).mono ?_
   rintro e w1 ⟨hb1, ⟨rfl, hno⟩ | ⟨v, A, g, rfl, hA, hown⟩⟩
   · have HN := Hd hno
     clear hno
     go_wp2_with fail
     go_ret
     refine ⟨ret_bool ?_, new_below hb1⟩
     rw [HT.out, eq_comm, decide_eq_false_iff_not]
     exact fun ⟨A, g, h⟩ => HN.out A g h
   · have HN := Hd hA
     clear hA hown
     go_wp2_with fail
     go_ret
     refine ⟨ret_bool ?_, new_below hb1⟩
     rw [HT.out, eq_comm, decide_eq_true_eq]
     exact ⟨A, g, HN.out⟩
theorem typed_rest (op a b : Int) (ty cl nm : List UInt8) (h : ¬ (op = 2 ∨ op = 9 ∨ op = 10) ∧ ¬ (op = 18 ∨ op = 20 ∨ op = 21) ∧ ¬ (op = 22 ∨ op = 23) ∧ ¬ (op = 24 ∨ op = 25)) (w : World) : TypedAt ⟨op, a, b, ty, cl, nm⟩ w := by
 have ht : typedB ⟨op, a, b, ty, cl, nm⟩ = true := by
   unfold typedB; simp only; rw [if_neg h.1, if_neg h.2.1, if_neg h.2.2.1, if_neg h.2.2.2]
 unfold TypedAt
 rw [ht]
 have e1 : (op == 2) = false := by rw [beq_eq_false_iff_ne]; omega
 have e2 : (op == 9) = false := by rw [beq_eq_false_iff_ne]; omega
 have e3 : (op == 10) = false := by rw [beq_eq_false_iff_ne]; omega
 have e4 : (op == 18) = false := by rw [beq_eq_false_iff_ne]; omega
 have e5 : (op == 20) = false := by rw [beq_eq_false_iff_ne]; omega
 have e6 : (op == 21) = false := by rw [beq_eq_false_iff_ne]; omega
 have e7 : (op == 22) = false := by rw [beq_eq_false_iff_ne]; omega
 have e8 : (op == 23) = false := by rw [beq_eq_false_iff_ne]; omega
 have e9 : (op == 24) = false := by rw [beq_eq_false_iff_ne]; omega
 have e10 : (op == 25) = false := by rw [beq_eq_false_iff_ne]; omega
 clear ht h
 unfold insV
 go_enter Tryz.func90, Tryz.ntmps90
 go_wp2_with fail
 go_ret
 exact ⟨rfl, (Below.refl _ _).alloc (Nat.le_refl _) _⟩
theorem typed_calls (x : InsR) (hl : x.ty.length ≤ 8388608) (w : World) : Calls Tryz.prog 90 #[insV x] w fun e w' => e = .returned (.bool (typedB x)) ∧ Below w.heap.size w w' := by
 obtain ⟨op, a, b, ty, cl, nm⟩ := x
 by_cases h1 : op = 2 ∨ op = 9 ∨ op = 10
 · exact typed_num op a b ty cl nm h1 w
 by_cases h2 : op = 18 ∨ op = 20 ∨ op = 21
 · exact typed_arr op a b ty cl nm hl h2 w
 by_cases h3 : op = 22 ∨ op = 23
 · exact typed_cast op a b ty cl nm hl h3 w
 by_cases h4 : op = 24 ∨ op = 25
 · exact typed_call op a b ty cl nm hl h4 w
 exact typed_rest op a b ty cl nm ⟨h1, h2, h3, h4⟩ w
def errOf (n : Int) : Value := if n = 0 then .nilIface else errV n
def CheckAt (x : InsR) (w : World) : Prop := Calls Tryz.prog 43 #[insV x] w fun e w' => e = .returned (errOf (insErr x)) ∧ Below w.heap.size w w'
theorem insCheck_out (x : InsR) (h : x.op < 1 ∨ 28 < x.op) (w : World) : CheckAt x w := by
 have hr : insErr x = 1 := by unfold insErr; rw [if_pos h]
 unfold CheckAt
 rw [hr]
 clear hr
 obtain ⟨op, a, b, ty, cl, nm⟩ := x
 unfold insV
 simp only at h ⊢
 have HO := Hd (fun w => of_out op h w)
 clear h
 go_enter Tryz.func43, Tryz.ntmps43
 go_wp2_with fail
 refine (HO.out _).mono ?_
 rintro e w1 ⟨rfl, hb1⟩
 go_wp2_with fail
 go_ret
 exact ⟨rfl, (new_below hb1).alloc (Nat.le_trans (by simp) hb1.size) _⟩
theorem name_calls (l : List UInt8) (w : World) : Calls Tryz.prog 35 #[.string ⟨⟨l⟩⟩] w fun e w' => e = .returned (if nameOk l then .nilIface else errV 1) ∧ Below w.heap.size w w' := by
 cases h : nameOk l
 · exact name_bad ⟨⟨l⟩⟩ w h
 · exact name_ok ⟨⟨l⟩⟩ w h
def Boxed (w W : World) (n : Nat) (a b : Int) (ty cl nm nd : List UInt8) (g : Nat) : Prop :=
 Below w.heap.size w W ∧ w.heap.size < W.heap.size ∧ w.heap.size < g ∧ g < W.heap.size ∧ W.cell? ⟨w.heap.size, 0, none⟩ = some (.int .i64 n) ∧ W.cell? ⟨w.heap.size, 1, none⟩ = some (.int .i64 a) ∧ W.cell? ⟨w.heap.size, 2, none⟩ = some (.int .i64 b) ∧
 W.cell? ⟨w.heap.size, 3, none⟩ = some (.string ⟨⟨ty⟩⟩) ∧ W.cell? ⟨w.heap.size, 4, none⟩ = some (.string ⟨⟨cl⟩⟩) ∧ W.cell? ⟨w.heap.size, 5, none⟩ = some (.string ⟨⟨nm⟩⟩) ∧ W.cell? ⟨g, 1, none⟩ = some (.string ⟨⟨nd⟩⟩)
theorem Boxed.below {w W W' : World} {n g : Nat} {a b : Int} {ty cl nm nd : List UInt8} (h : Boxed w W n a b ty cl nm nd g) (hb : Below W.heap.size W W') : Boxed w W' n a b ty cl nm nd g := by
 obtain ⟨h1, h2, h2a, h2b, c0, c1, c2, c3, c4, c5, c6⟩ := h
 refine ⟨bl_trans h1 hb, Nat.lt_of_lt_of_le h2 hb.size, h2a, Nat.lt_of_lt_of_le h2b hb.size, ?_, ?_, ?_, ?_, ?_, ?_, ?_⟩
 · rw [hb.cell (p := ⟨w.heap.size, 0, none⟩) h2]; exact c0
 · rw [hb.cell (p := ⟨w.heap.size, 1, none⟩) h2]; exact c1
 · rw [hb.cell (p := ⟨w.heap.size, 2, none⟩) h2]; exact c2
 · rw [hb.cell (p := ⟨w.heap.size, 3, none⟩) h2]; exact c3
 · rw [hb.cell (p := ⟨w.heap.size, 4, none⟩) h2]; exact c4
 · rw [hb.cell (p := ⟨w.heap.size, 5, none⟩) h2]; exact c5
 · rw [hb.cell (p := ⟨g, 1, none⟩) h2b]; exact c6
theorem boxed_start {w w1 : World} {n : Nat} {a b : Int} {ty cl nm wd nd : List UInt8} (hb : Below (w.alloc (.cells #[.int .i64 n, .int .i64 a, .int .i64 b, .string ⟨⟨ty⟩⟩, .string ⟨⟨cl⟩⟩, .string ⟨⟨nm⟩⟩] 40)).heap.size (w.alloc (.cells #[.int .i64 n, .int .i64 a, .int .i64 b, .string ⟨⟨ty⟩⟩, .string ⟨⟨cl⟩⟩, .string ⟨⟨nm⟩⟩] 40)) w1) :
   Boxed w (w1.alloc (.cells #[.string ⟨⟨wd⟩⟩, .string ⟨⟨nd⟩⟩] 162)) n a b ty cl nm nd w1.heap.size := by
 have hs : w.heap.size + 1 ≤ w1.heap.size := by have := hb.size; simpa using this
 have hc : ∀ j : Nat, (w1.alloc (.cells #[.string ⟨⟨wd⟩⟩, .string ⟨⟨nd⟩⟩] 162)).cell? ⟨w.heap.size, j, none⟩ = (#[.int .i64 n, .int .i64 a, .int .i64 b, .string ⟨⟨ty⟩⟩, .string ⟨⟨cl⟩⟩, .string ⟨⟨nm⟩⟩] : Array Value)[j]? := by
   intro j
   rw [World.cell?_alloc_lt w1 _ ⟨w.heap.size, j, none⟩ (by show w.heap.size < w1.heap.size; omega), hb.cell (p := ⟨w.heap.size, j, none⟩) (by simp), World.cell?_alloc_new]
 refine ⟨((new_below hb).alloc (by omega) _), by simp; omega, by omega, by simp, ?_, ?_, ?_, ?_, ?_, ?_, ?_⟩
 · rw [hc]; rfl
 · rw [hc]; rfl
 · rw [hc]; rfl
 · rw [hc]; rfl
 · rw [hc]; rfl
 · rw [hc]; rfl
 · rw [World.cell?_alloc_new]; rfl
end Go.Proofs.YtddbnboicmaooaaGreatDoor
