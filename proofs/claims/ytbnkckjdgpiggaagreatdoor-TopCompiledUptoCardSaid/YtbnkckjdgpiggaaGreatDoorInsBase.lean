import Derived.Test.YtbnkckjdgpiggaaGreatDoorBase
import Derived.LaidSub
import Derived.Lib.LaidTab
namespace Go.Proofs.YtbnkckjdgpiggaaGreatDoor
set_option maxRecDepth 100000
set_option maxHeartbeats 16000000
set_option linter.unusedVariables false
set_option linter.unusedSimpArgs false
open Go.RowKit
def z6 (x : zal) : List Value := [.int .i64 x.op, .int .i64 x.a, .int .i64 x.b, .string ⟨⟨x.ty⟩⟩, .string ⟨⟨x.cl⟩⟩, .string ⟨⟨x.nm⟩⟩]
theorem ze9 (x : zal) : ∀ u ∈ z6 x, u.oneCell' = true := by
 intro u hu
 simp only [z6, List.mem_cons, List.mem_nil_iff, or_false] at hu
 rcases hu with rfl | rfl | rfl | rfl | rfl | rfl <;> rfl
def zcy (w : World) (a : Option Addr) (cap : Nat) (l : List zal) : Prop := za6 w 6 a cap (l.map z6)
theorem zcy.below {w w' : World} {a : Option Addr} {cap : Nat} {l : List zal} (h : zcy w a cap l) (hb : Below w.heap.size w w') : zcy w' a cap l := za6.below h hb
theorem zcy.cells {w : World} {a : Option Addr} {cap : Nat} {l : List zal} (h : zcy w a cap l) {k : Nat} {x : zal} (hx : l[k]? = some x) : ∃ b off, a = some ⟨b, off, none⟩ /\ b < w.heap.size /\
   w.cell? ⟨b, off + k * 6, none⟩ = some (.int .i64 x.op) /\ w.cell? ⟨b, off + k * 6 + 1, none⟩ = some (.int .i64 x.a) /\ w.cell? ⟨b, off + k * 6 + 2, none⟩ = some (.int .i64 x.b) /\
   w.cell? ⟨b, off + k * 6 + 3, none⟩ = some (.string ⟨⟨x.ty⟩⟩) /\ w.cell? ⟨b, off + k * 6 + 4, none⟩ = some (.string ⟨⟨x.cl⟩⟩) /\ w.cell? ⟨b, off + k * 6 + 5, none⟩ = some (.string ⟨⟨x.nm⟩⟩) := by
 obtain ⟨_, h2 | ⟨b, off, rfl, hlt, hc⟩⟩ := h
 . have : l = [] := by simpa using h2
   subst this; simp at hx
 . have hk : (l.map z6)[k]? = some (z6 x) := by rw [List.getElem?_map, hx]; rfl
   have hh := hc k _ hk
   exact ⟨b, off, rfl, hlt, hh 0 _ rfl, hh 1 _ rfl, hh 2 _ rfl, hh 3 _ rfl, hh 4 _ rfl, hh 5 _ rfl⟩
theorem zsv {w : World} {B : Nat} {v : Value} {l : List zal} (h : w.ownsRow B 40 6 v l.length (l.map z6).flatten) : ∃ a cap, v = .slice a l.length cap /\ zcy w a cap l := by
 have h' : w.ownsRow B 40 6 v (l.map z6).length (l.map z6).flatten := by rw [List.length_map]; exact h
 obtain ⟨a, cap, h1, h2⟩ := zh5 h' (by intro c hc; obtain ⟨x, _, rfl⟩ := List.mem_map.1 hc; rfl)
 exact ⟨a, cap, by rw [h1, List.length_map], h2⟩
theorem zmo (L : List zal) (x : zal) : ((L ++ [x]).map z6).flatten = (L.map z6).flatten ++ z6 x := by simp
theorem zdu : zld Tryz.prog 35 9 1 16 := zld.mk' (z := .string ByteArray.empty) Tryz.underlying35 (by kernel_rfl) rfl (by decide)
theorem zmy : zld Tryz.prog 41 40 6 72 := zld.mk' (z := .agg #[.int .i64 0, .int .i64 0, .int .i64 0, .string ByteArray.empty, .string ByteArray.empty, .string ByteArray.empty]) Tryz.underlying41 (by kernel_rfl) rfl (by decide)
open Go.Lib Go.ChangeShapes
def zmr : DataW Unit := .agg (zvi.map fun p => .agg [.lit (.string p.1), .lit (.string p.2)])
def zaw (w : World) : Prop := ∀ (i : Nat) (p : List UInt8 × List UInt8), zvi[i]? = some p -> w.cell? ⟨3, i * 2, none⟩ = some (.string ⟨⟨p.1⟩⟩) /\ w.cell? ⟨3, i * 2 + 1, none⟩ = some (.string ⟨⟨p.2⟩⟩)
theorem zaw.lt {w : World} (h : zaw w) : 3 < w.heap.size := by
 have h1 := (h 0 _ rfl).1
 exact World.block_lt_of_cell? w _ h1
theorem zaw.below {w w' : World} (h : zaw w) (hb : Below w.heap.size w w') : zaw w' := fun i p hp => by
 have hl := h.lt
 obtain ⟨h1, h2⟩ := h i p hp
 exact ⟨by rw [hb.cell (p := ⟨3, i * 2, none⟩) hl]; exact h1, by rw [hb.cell (p := ⟨3, i * 2 + 1, none⟩) hl]; exact h2⟩
theorem ztz {s : ByteArray} {l : List UInt8} (h : s.data.toList = l) : s = ⟨⟨l⟩⟩ := by
 subst h
 rfl
theorem zpd {laid : List (String × DataW Unit)} {W : World} (h : laidMetH Tryz.prog laid W) (hf : laid.filter (fun x => x.1 == "coffeehouse/ins.forms") = [("coffeehouse/ins.forms", zmr)]) : zaw W := by
 have h1 := h.filter (fun x => x.1 == "coffeehouse/ins.forms")
 rw [hf] at h1
 have h2 := (laidMetH_iff.1 h1).1
 have h3 : laidMet Tryz.prog [("coffeehouse/ins.forms", zmr)] W := h2
 obtain ⟨ps, ⟨g', t', cs, fuel, p, q, hg', ht', hvar, hd, _, _⟩, _⟩ := h3
 have hg : Tryz.prog.globalNamed "coffeehouse/ins.forms" = some 3 := by kernel_rfl
 obtain rfl := Option.some.inj (hg.symm.trans hg')
 have hty : (Tryz.prog.globals[3]?).map (·.type) = some 299 := by kernel_rfl
 obtain rfl := Option.some.inj (hty.symm.trans ht')
 obtain ⟨xs, m, _, hx, _, hlen, hat⟩ := DataW.trod_array (n := 29) Tryz.underlying299 hd
 have hce : Tryz.prog.cellsOf 288 = 2 := by kernel_rfl
 have hcs : Tryz.prog.cellsOf 9 = 1 := by kernel_rfl
 rw [hce] at hat
 have hxd : xs.map (·.1) = zvi.map fun p => (.agg [.lit (.string p.1), .lit (.string p.2)] : DataW Unit) := by
   have := congrArg Prod.fst hx
   simp only [zmr, DataW.agg.injEq] at this
   exact this.symm
 intro i pr hp
 have hi : i < 29 := by
   have := (List.getElem?_eq_some_iff.1 hp).1
   exact this
 have h4 := hat i hi
 obtain ⟨y, hy⟩ : ∃ y, xs[i]? = some y := ⟨_, List.getElem?_eq_getElem (by omega)⟩
 rw [hy] at h4
 have hyd : y.1 = .agg [.lit (.string pr.1), .lit (.string pr.2)] := by
   have h5 : (xs.map (·.1))[i]? = some y.1 := by rw [List.getElem?_map, hy]; rfl
   rw [hxd, List.getElem?_map, hp] at h5
   exact (Option.some.inj h5).symm
 obtain ⟨zs, m2, _, hz, _, hzl, hzf⟩ := DataW.trod_struct Tryz.underlying288 h4
 have f0 : DataW.trod (fun _ => ()) Tryz.prog W 0 (fun _ => true) false m2 9 ((((cs.toList.drop (i * 2)).take 2).drop 0).take (Tryz.prog.cellsOf 9)) = zs[0]? := hzf 0 _ rfl
 have f1 : DataW.trod (fun _ => ()) Tryz.prog W 0 (fun _ => true) false m2 9 ((((cs.toList.drop (i * 2)).take 2).drop 1).take (Tryz.prog.cellsOf 9)) = zs[1]? := hzf 1 _ rfl
 rw [hcs] at f0 f1
 rw [hz] at hyd
 simp only [DataW.agg.injEq] at hyd
 have hz0 : ∃ z0, zs[0]? = some z0 := ⟨_, List.getElem?_eq_getElem (by rw [hzl]; decide)⟩
 have hz1 : ∃ z1, zs[1]? = some z1 := ⟨_, List.getElem?_eq_getElem (by rw [hzl]; decide)⟩
 obtain ⟨z0, e0⟩ := hz0
 obtain ⟨z1, e1⟩ := hz1
 rw [e0] at f0
 rw [e1] at f1
 obtain ⟨s0, c0, x0, _⟩ := DataW.trod_string Tryz.underlying9 f0
 obtain ⟨s1, c1, x1, _⟩ := DataW.trod_string Tryz.underlying9 f1
 have d0 : z0.1 = .lit (.string pr.1) := by
   have h5 : (zs.map (·.1))[0]? = some z0.1 := by rw [List.getElem?_map, e0]; rfl
   rw [hyd] at h5
   exact (Option.some.inj h5).symm
 have d1 : z1.1 = .lit (.string pr.2) := by
   have h5 : (zs.map (·.1))[1]? = some z1.1 := by rw [List.getElem?_map, e1]; rfl
   rw [hyd] at h5
   exact (Option.some.inj h5).symm
 rw [x0] at d0
 rw [x1] at d1
 simp only [DataW.lit.injEq, Lit.string.injEq] at d0 d1
 have g0 : cs[i * 2]? = some (.string s0) := by
   have := congrArg (·[0]?) c0
   simpa [List.getElem?_take, List.getElem?_drop, Nat.mul_comm] using this
 have g1 : cs[i * 2 + 1]? = some (.string s1) := by
   have := congrArg (·[0]?) c1
   simpa [List.getElem?_take, List.getElem?_drop, Nat.mul_comm] using this
 have v0 := World.var?_cell hg hvar (i * 2)
 have v1 := World.var?_cell hg hvar (i * 2 + 1)
 rw [g0] at v0
 rw [g1] at v1
 rw [ztz d0] at v0
 rw [ztz d1] at v1
 exact ⟨v0, v1⟩
open Go.Shelf
theorem z6a (n : Nat) (h1 : 1 <= n) (h2 : n <= 28) (w : World) (hF : zaw w) :
   Calls Tryz.prog 229 #[.int .i64 n] w fun e w' => e = .returned (.tuple #[.agg #[.string ⟨⟨zm7 n⟩⟩, .string ⟨⟨zgh n⟩⟩], .bool true]) /\ Below w.heap.size w w' := by
 obtain ⟨c0, c1⟩ := hF n _ (z1f (by omega))
 have hlt := hF.lt
 have HF := Hq hF
 clear hF
 go_enter Tryz.func229, Tryz.ntmps229
 go_wp2_with fail
 exact bodyPost_ret (v := .tuple #[.agg #[.string ⟨⟨zm7 n⟩⟩, .string ⟨⟨zgh n⟩⟩], .bool true]) (by simp [results, Tryz.results229, go_sem]) rfl ⟨rfl, (Below.refl _ _).alloc (Nat.le_refl _) _⟩
theorem z1i (l : List UInt8) (c : UInt8) : -1 <= indexByte l c := by
 induction l with
 | nil => simp [indexByte]
 | cons x y ih =>
   rw [indexByte]
   split
   . omega
   . split <;> omega
theorem zya (nd : List UInt8) (c : UInt8) : decide (0 <= indexByte nd c) = decide (c ∈ nd) := by
 induction nd with
 | nil => rfl
 | cons b r ih =>
   rw [indexByte]
   by_cases e : b = c
   . subst e; simp
   . have e1 : (b == c) = false := by simpa using e
     have e2 : ¬ c = b := fun q => e q.symm
     rw [Bool.eq_iff_iff] at ih |-
     simp only [decide_eq_true_eq, List.mem_cons, e1, e2, false_or, Bool.false_eq_true, if_false] at ih |-
     rw [<- ih]
     have := z1i r c
     split
     . rename_i h; rw [eq_of_beq h]
     . rename_i h
       have hn : indexByte r c ≠ -1 := fun q => h (by rw [q]; rfl)
       omega
theorem zqx (nd : List UInt8) (c : UInt8) (w : World) : Calls Tryz.prog 231 #[.string ⟨⟨nd⟩⟩, .string ⟨#[c]⟩] w fun e w' => e = .returned (.bool (decide (c ∈ nd))) /\ w = w' :=
 (Tryz.strings_Contains_one ⟨⟨nd⟩⟩ c w).mono fun e w' ⟨h1, h2⟩ => ⟨by rw [h1]; exact zaa (zya nd c), h2.symm⟩
theorem zf (nd : List UInt8) (c : UInt8) (b : Nat) (w : World) (hc : w.cell? ⟨b, 1, none⟩ = some (.string ⟨⟨nd⟩⟩)) :
   Calls Tryz.prog 230 #[.string ⟨#[c]⟩, .pointer (some ⟨b, 0, none⟩)] w fun e w' => e = .returned (.bool (decide (c ∈ nd))) /\ w = w' := by
 go_enter Tryz.func230, Tryz.ntmps230
 go_wp2_with fail
 refine (zqx nd c _).mono ?_
 rintro e w1 ⟨rfl, rfl⟩
 go_wp2_with fail
 go_ret
 exact ⟨rfl, rfl⟩
theorem zz1 (a : Int) : wrap64 (wrap32 a) = wrap32 a := by
 refine IntWalk.wrap64_in _ ?_
 unfold wrap32
 omega
theorem zla (op : Int) (w : World) : Calls Tryz.prog 165 #[.int .i64 op] w fun e w' => e = .returned (.bool (zcb op)) /\ w' = w := by
 go_enter Tryz.func165, Tryz.ntmps165
 go_wp2_with fail
 all_goals go_ret
 all_goals refine ⟨zaa ?_, rfl⟩
 all_goals (rw [Bool.eq_iff_iff]; simp only [zcb, Bool.or_eq_true, Bool.and_eq_true, decide_eq_true_eq, beq_iff_eq, true_iff]; omega)
theorem z1e (a b : Int) (ty cl nm : List UInt8) (w : World) : Calls Tryz.prog 232 #[zfe ⟨2, a, b, ty, cl, nm⟩] w fun e w' => e = .returned (.bool (za5 ⟨2, a, b, ty, cl, nm⟩)) /\ Below w.heap.size w w' := by
 unfold zfe
 by_cases ht : ty = [73]
 . subst ht
   have hr : za5 ⟨2, a, b, [73], cl, nm⟩ = (a == wrap32 a) := by simp [za5]
   have e1 : wrap64 (wrap32 a) = wrap32 a := zz1 a
   rw [hr]
   clear hr
   go_enter Tryz.func232, Tryz.ntmps232
   go_wp2_with fail
   go_ret
   exact ⟨rfl, (Below.refl _ _).alloc (Nat.le_refl _) _⟩
 . have hr : za5 ⟨2, a, b, ty, cl, nm⟩ = true := by simp [za5, ht]
   have e1 : (ty == [73]) = false := by rw [beq_eq_false_iff_ne]; exact ht
   rw [hr]
   clear hr ht
   go_enter Tryz.func232, Tryz.ntmps232
   go_wp2_with fail
   go_ret
   exact ⟨rfl, (Below.refl _ _).alloc (Nat.le_refl _) _⟩
theorem zy6 (op a b : Int) (ty cl nm : List UInt8) (h : op = 4 \/ op = 5) (w : World) : Calls Tryz.prog 232 #[zfe ⟨op, a, b, ty, cl, nm⟩] w fun e w' => e = .returned (.bool (za5 ⟨op, a, b, ty, cl, nm⟩)) /\ Below w.heap.size w w' := by
 unfold zfe
 rcases h with rfl | rfl
 all_goals go_enter Tryz.func232, Tryz.ntmps232
 all_goals go_wp2_with fail
 all_goals go_ret
 all_goals refine ⟨zaa ?_, (Below.refl _ _).alloc (Nat.le_refl _) _⟩
 all_goals (rw [Bool.eq_iff_iff]; simp [za5]; omega)
theorem z25 (a b : Int) (ty cl nm : List UInt8) (w : World) : Calls Tryz.prog 232 #[zfe ⟨9, a, b, ty, cl, nm⟩] w fun e w' => e = .returned (.bool (za5 ⟨9, a, b, ty, cl, nm⟩)) /\ Below w.heap.size w w' := by
 unfold zfe
 go_enter Tryz.func232, Tryz.ntmps232
 go_wp2_with fail
 all_goals go_ret
 all_goals refine ⟨zaa ?_, (Below.refl _ _).alloc (Nat.le_refl _) _⟩
 all_goals (rw [Bool.eq_iff_iff]; simp [za5]; omega)
theorem zsi (op a b : Int) (ty cl nm : List UInt8) (h2 : (op == 2) = false) (h4 : (op == 4) = false) (h5 : (op == 5) = false) (h9 : (op == 9) = false) (w : World) : Calls Tryz.prog 232 #[zfe ⟨op, a, b, ty, cl, nm⟩] w fun e w' => e = .returned (.bool (za5 ⟨op, a, b, ty, cl, nm⟩)) /\ Below w.heap.size w w' := by
 have HJ := Hq (fun w => zla op w)
 have e2 : op ≠ 2 := by simpa using h2
 have e4 : op ≠ 4 := by simpa using h4
 have e5 : op ≠ 5 := by simpa using h5
 have e9 : op ≠ 9 := by simpa using h9
 have HE := Hq (And.intro e2 (And.intro e4 (And.intro e5 e9)))
 clear e2 e4 e5 e9
 unfold zfe
 cases hj : zcb op
 . have HJJ := Hq hj
   go_enter Tryz.func232, Tryz.ntmps232
   go_wp2_with fail
   refine (HJ.out _).mono ?_
   rintro e w1 ⟨rfl, rfl⟩
   go_wp2_with fail
   all_goals go_ret
   all_goals refine ⟨zaa ?_, (Below.refl _ _).alloc (Nat.le_refl _) _⟩
   all_goals (obtain ⟨e2, e4, e5, e9⟩ := HE.out; have := HJJ.out; rw [Bool.eq_iff_iff]; simp_all [za5])
 . have HJJ := Hq hj
   go_enter Tryz.func232, Tryz.ntmps232
   go_wp2_with fail
   refine (HJ.out _).mono ?_
   rintro e w1 ⟨rfl, rfl⟩
   go_wp2_with fail
   all_goals go_ret
   all_goals refine ⟨zaa ?_, (Below.refl _ _).alloc (Nat.le_refl _) _⟩
   all_goals (obtain ⟨e2, e4, e5, e9⟩ := HE.out; have := HJJ.out; rw [Bool.eq_iff_iff]; simp_all [za5]; try omega)
theorem zg1 (x : zal) (w : World) : Calls Tryz.prog 232 #[zfe x] w fun e w' => e = .returned (.bool (za5 x)) /\ Below w.heap.size w w' := by
 obtain ⟨op, a, b, ty, cl, nm⟩ := x
 by_cases h2 : op = 2
 . subst h2; exact z1e a b ty cl nm w
 by_cases h45 : op = 4 \/ op = 5
 . exact zy6 op a b ty cl nm h45 w
 by_cases h9 : op = 9
 . subst h9; exact z25 a b ty cl nm w
 exact zsi op a b ty cl nm (by simpa using h2) (by simpa using fun h => h45 (Or.inl h)) (by simpa using fun h => h45 (Or.inr h)) (by simpa using h9) w
theorem ze3 (t : List UInt8) (w : World) : Calls Tryz.prog 98 #[.string ⟨⟨t⟩⟩] w fun e w' => e = .returned (.bool (zjf t)) /\ w = w' := by
 by_cases h1 : t = [73]
 . subst h1
   go_enter Tryz.func98, Tryz.ntmps98
   go_wp2_with fail
   go_ret
   exact ⟨rfl, rfl⟩
 by_cases h2 : t = [74]
 . subst h2
   go_enter Tryz.func98, Tryz.ntmps98
   go_wp2_with fail
   go_ret
   exact ⟨rfl, rfl⟩
 have q1 : (t == [73]) = false := by rw [beq_eq_false_iff_ne]; exact h1
 have q2 : (t == [74]) = false := by rw [beq_eq_false_iff_ne]; exact h2
 have HN : Hid (zjf t = false) := by unfold zjf; rw [q1, q2]; rfl
 clear h1 h2
 go_enter Tryz.func98, Tryz.ntmps98
 go_wp2_with fail
 go_ret
 exact ⟨zaa HN.out.symm, rfl⟩
def zff (x : zal) (w : World) : Prop := Calls Tryz.prog 233 #[zfe x] w fun e w' => e = .returned (.bool (zbc x)) /\ Below w.heap.size w w'
theorem zxl (op a b : Int) (ty cl nm : List UInt8) (h : op = 2 \/ op = 9 \/ op = 10) (w : World) : zff ⟨op, a, b, ty, cl, nm⟩ w := by
 have ht : zbc ⟨op, a, b, ty, cl, nm⟩ = zjf ty := by unfold zbc; rw [if_pos h]
 unfold zff
 rw [ht]
 clear ht
 unfold zfe
 rcases h with rfl | rfl | rfl
 all_goals
   go_enter Tryz.func233, Tryz.ntmps233
   go_wp2_with fail
   refine (ze3 ty _).mono ?_
   rintro e w1 ⟨rfl, rfl⟩
   go_wp2_with fail
   go_ret
   exact ⟨rfl, (Below.refl _ _).alloc (Nat.le_refl _) _⟩
theorem zx3 (op a b : Int) (ty cl nm : List UInt8) (hl : ty.length <= 8388608) (h : op = 18 \/ op = 20 \/ op = 21) (w : World) : zff ⟨op, a, b, ty, cl, nm⟩ w := by
 classical
 have ht : zbc ⟨op, a, b, ty, cl, nm⟩ = (decide (zi ty) && decide (zi (91 :: ty))) := by
   unfold zbc; simp only; rw [if_neg (by omega), if_pos h]
 unfold zff
 by_cases h1 : zi ty
 . have H1 := Hq (fun w => zc1 ty h1 w)
   by_cases h2 : zi (91 :: ty)
   . have H2 := Hq (fun w => zc1 (91 :: ty) h2 w)
     have hr : zbc ⟨op, a, b, ty, cl, nm⟩ = true := by rw [ht]; simp [h1, h2]
     rw [hr]
     clear ht hr h1 h2
     unfold zfe
     rcases h with rfl | rfl | rfl
     all_goals
       go_enter Tryz.func233, Tryz.ntmps233
       go_wp2_with fail
       refine (H1.out _).mono ?_
       rintro e w1 ⟨rfl, hb1⟩
       obtain ⟨hc, hf⟩ := z5r hb1
       go_wp2_with fail
       refine (H2.out _).mono ?_
       rintro e w2 ⟨rfl, hb2⟩
       go_wp2_with fail
       go_ret
       exact ⟨rfl, zq (zc hb1 hb2)⟩
   . have H2 := Hq (fun w => zdi (91 :: ty) h2 (by simp only [List.length_cons]; omega) w)
     have hr : zbc ⟨op, a, b, ty, cl, nm⟩ = false := by rw [ht]; simp [h2]
     rw [hr]
     clear ht hr h1 h2
     unfold zfe
     rcases h with rfl | rfl | rfl
     all_goals
       go_enter Tryz.func233, Tryz.ntmps233
       go_wp2_with fail
       refine (H1.out _).mono ?_
       rintro e w1 ⟨rfl, hb1⟩
       obtain ⟨hc, hf⟩ := z5r hb1
       go_wp2_with fail
       refine (H2.out _).mono ?_
       rintro e w2 ⟨rfl, hb2⟩
       go_wp2_with fail
       go_ret
       exact ⟨rfl, zq (zc hb1 hb2)⟩
 . have H1 := Hq (fun w => zdi ty h1 (by omega) w)
   have hr : zbc ⟨op, a, b, ty, cl, nm⟩ = false := by rw [ht]; simp [h1]
   rw [hr]
   clear ht hr h1
   unfold zfe
   rcases h with rfl | rfl | rfl
   all_goals
     go_enter Tryz.func233, Tryz.ntmps233
     go_wp2_with fail
     refine (H1.out _).mono ?_
     rintro e w1 ⟨rfl, hb1⟩
     go_wp2_with fail
     go_ret
     exact ⟨rfl, zq hb1⟩
theorem zw3 (op a b : Int) (ty cl nm : List UInt8) (hl : ty.length <= 8388608) (h : op = 22 \/ op = 23) (w : World) : zff ⟨op, a, b, ty, cl, nm⟩ w := by
 classical
 have ht : zbc ⟨op, a, b, ty, cl, nm⟩ = (decide (zi ty) && !(zjf ty)) := by
   unfold zbc; simp only; rw [if_neg (by omega), if_neg (by omega), if_pos h]
 unfold zff
 by_cases h1 : zi ty
 . have H1 := Hq (fun w => zc1 ty h1 w)
   have hr : zbc ⟨op, a, b, ty, cl, nm⟩ = !(zjf ty) := by rw [ht]; simp [h1]
   rw [hr]
   clear ht hr h1
   unfold zfe
   rcases h with rfl | rfl
   all_goals
     go_enter Tryz.func233, Tryz.ntmps233
     go_wp2_with fail
     refine (H1.out _).mono ?_
     rintro e w1 ⟨rfl, hb1⟩
     obtain ⟨hc, hf⟩ := z5r hb1
     go_wp2_with fail
     refine (ze3 ty _).mono ?_
     rintro e w2 ⟨rfl, rfl⟩
     go_wp2_with fail
     go_ret
     exact ⟨rfl, zq hb1⟩
 . have H1 := Hq (fun w => zdi ty h1 (by omega) w)
   have hr : zbc ⟨op, a, b, ty, cl, nm⟩ = false := by rw [ht]; simp [h1]
   rw [hr]
   clear ht hr h1
   unfold zfe
   rcases h with rfl | rfl
   all_goals
     go_enter Tryz.func233, Tryz.ntmps233
     go_wp2_with fail
     refine (H1.out _).mono ?_
     rintro e w1 ⟨rfl, hb1⟩
     go_wp2_with fail
     go_ret
     exact ⟨rfl, zq hb1⟩
theorem zv4 (op a b : Int) (ty cl nm : List UInt8) (hl : ty.length <= 8388608) (h : op = 24 \/ op = 25) (w : World) : zff ⟨op, a, b, ty, cl, nm⟩ w := by
 classical
 have ht : zbc ⟨op, a, b, ty, cl, nm⟩ = decide (∃ A g, zk ty A g) := by
   unfold zbc; simp only; rw [if_neg (by omega), if_neg (by omega), if_neg (by omega), if_pos h]
 unfold zff
 have HT := Hq ht
 clear ht
 unfold zfe
 rcases h with rfl | rfl
 all_goals
   go_enter Tryz.func233, Tryz.ntmps233
   go_wp2_with fail
   refine (zat ty hl _).mono ?_
   rintro e w1 ⟨hb1, ⟨rfl, hno⟩ | ⟨v, A, g, rfl, hA, hown⟩⟩
   . have HN := Hq hno
     clear hno
     go_wp2_with fail
     go_ret
     refine ⟨zaa ?_, zq hb1⟩
     rw [HT.out, eq_comm, decide_eq_false_iff_not]
     exact fun ⟨A, g, h⟩ => HN.out A g h
   . have HN := Hq hA
     clear hA hown
     go_wp2_with fail
     go_ret
     refine ⟨zaa ?_, zq hb1⟩
     rw [HT.out, eq_comm, decide_eq_true_eq]
     exact ⟨A, g, HN.out⟩
theorem zw5 (op a b : Int) (ty cl nm : List UInt8) (h : ¬ (op = 2 \/ op = 9 \/ op = 10) /\ ¬ (op = 18 \/ op = 20 \/ op = 21) /\ ¬ (op = 22 \/ op = 23) /\ ¬ (op = 24 \/ op = 25)) (w : World) : zff ⟨op, a, b, ty, cl, nm⟩ w := by
 have ht : zbc ⟨op, a, b, ty, cl, nm⟩ = true := by
   unfold zbc; simp only; rw [if_neg h.1, if_neg h.2.1, if_neg h.2.2.1, if_neg h.2.2.2]
 unfold zff
 rw [ht]
 have e1 : (op == 2) = false := by rw [beq_eq_false_iff_ne]; omega
 have e2 : (op == 9) = false := by rw [beq_eq_false_iff_ne]; omega
 have e3 : (op == 10) = false := by rw [beq_eq_false_iff_ne]; omega
 have e4 : (op == 18) = false := by rw [beq_eq_false_iff_ne]; omega
 have e5 : (op == 20) = false := by rw [beq_eq_false_iff_ne]; omega
 have e6 : (op == 21) = false := by rw [beq_eq_false_iff_ne]; omega
 have e7 : (op == 22) = false := by rw [beq_eq_false_iff_ne]; omega
 have e8 : (op == 23) = false := by rw [beq_eq_false_iff_ne]; omega
 have e9 : (op == 24) = false := by rw [beq_eq_false_iff_ne]; omega
 have e10 : (op == 25) = false := by rw [beq_eq_false_iff_ne]; omega
 clear ht h
 unfold zfe
 go_enter Tryz.func233, Tryz.ntmps233
 go_wp2_with fail
 go_ret
 exact ⟨rfl, (Below.refl _ _).alloc (Nat.le_refl _) _⟩
theorem zic (x : zal) (hl : x.ty.length <= 8388608) (w : World) : Calls Tryz.prog 233 #[zfe x] w fun e w' => e = .returned (.bool (zbc x)) /\ Below w.heap.size w w' := by
 obtain ⟨op, a, b, ty, cl, nm⟩ := x
 by_cases h1 : op = 2 \/ op = 9 \/ op = 10
 . exact zxl op a b ty cl nm h1 w
 by_cases h2 : op = 18 \/ op = 20 \/ op = 21
 . exact zx3 op a b ty cl nm hl h2 w
 by_cases h3 : op = 22 \/ op = 23
 . exact zw3 op a b ty cl nm hl h3 w
 by_cases h4 : op = 24 \/ op = 25
 . exact zv4 op a b ty cl nm hl h4 w
 exact zw5 op a b ty cl nm ⟨h1, h2, h3, h4⟩ w
def zaj (n : Int) : Value := if n = 0 then .nilIface else zby n
def zf2 (x : zal) (w : World) : Prop := Calls Tryz.prog 218 #[zfe x] w fun e w' => e = .returned (zaj (zar x)) /\ Below w.heap.size w w'
theorem zbn (l : List UInt8) (w : World) : Calls Tryz.prog 64 #[.string ⟨⟨l⟩⟩] w fun e w' => e = .returned (if zr l then .nilIface else zby 1) /\ Below w.heap.size w w' := by
 cases h : zr l
 . exact zks ⟨⟨l⟩⟩ w h
 . exact zo7 ⟨⟨l⟩⟩ w h
def z2b (w W : World) (n : Nat) (a b : Int) (ty cl nm nd : List UInt8) (g : Nat) : Prop :=
 Below w.heap.size w W /\ w.heap.size < W.heap.size /\ w.heap.size < g /\ g < W.heap.size /\ W.cell? ⟨w.heap.size, 0, none⟩ = some (.int .i64 n) /\ W.cell? ⟨w.heap.size, 1, none⟩ = some (.int .i64 a) /\ W.cell? ⟨w.heap.size, 2, none⟩ = some (.int .i64 b) /\
 W.cell? ⟨w.heap.size, 3, none⟩ = some (.string ⟨⟨ty⟩⟩) /\ W.cell? ⟨w.heap.size, 4, none⟩ = some (.string ⟨⟨cl⟩⟩) /\ W.cell? ⟨w.heap.size, 5, none⟩ = some (.string ⟨⟨nm⟩⟩) /\ W.cell? ⟨g, 1, none⟩ = some (.string ⟨⟨nd⟩⟩)
theorem z2b.below {w W W' : World} {n g : Nat} {a b : Int} {ty cl nm nd : List UInt8} (h : z2b w W n a b ty cl nm nd g) (hb : Below W.heap.size W W') : z2b w W' n a b ty cl nm nd g := by
 obtain ⟨h1, h2, h2a, h2b, c0, c1, c2, c3, c4, c5, c6⟩ := h
 refine ⟨zc h1 hb, Nat.lt_of_lt_of_le h2 hb.size, h2a, Nat.lt_of_lt_of_le h2b hb.size, ?_, ?_, ?_, ?_, ?_, ?_, ?_⟩
 . rw [hb.cell (p := ⟨w.heap.size, 0, none⟩) h2]; exact c0
 . rw [hb.cell (p := ⟨w.heap.size, 1, none⟩) h2]; exact c1
 . rw [hb.cell (p := ⟨w.heap.size, 2, none⟩) h2]; exact c2
 . rw [hb.cell (p := ⟨w.heap.size, 3, none⟩) h2]; exact c3
 . rw [hb.cell (p := ⟨w.heap.size, 4, none⟩) h2]; exact c4
 . rw [hb.cell (p := ⟨w.heap.size, 5, none⟩) h2]; exact c5
 . rw [hb.cell (p := ⟨g, 1, none⟩) h2b]; exact c6
theorem zh1 {w w1 : World} {n : Nat} {a b : Int} {ty cl nm wd nd : List UInt8} (hb : Below (w.alloc (.cells #[.int .i64 n, .int .i64 a, .int .i64 b, .string ⟨⟨ty⟩⟩, .string ⟨⟨cl⟩⟩, .string ⟨⟨nm⟩⟩] 40)).heap.size (w.alloc (.cells #[.int .i64 n, .int .i64 a, .int .i64 b, .string ⟨⟨ty⟩⟩, .string ⟨⟨cl⟩⟩, .string ⟨⟨nm⟩⟩] 40)) w1) :
   z2b w (w1.alloc (.cells #[.string ⟨⟨wd⟩⟩, .string ⟨⟨nd⟩⟩] 288)) n a b ty cl nm nd w1.heap.size := by
 have hs : w.heap.size + 1 <= w1.heap.size := by have := hb.size; simpa using this
 have hc : ∀ j : Nat, (w1.alloc (.cells #[.string ⟨⟨wd⟩⟩, .string ⟨⟨nd⟩⟩] 288)).cell? ⟨w.heap.size, j, none⟩ = (#[.int .i64 n, .int .i64 a, .int .i64 b, .string ⟨⟨ty⟩⟩, .string ⟨⟨cl⟩⟩, .string ⟨⟨nm⟩⟩] : Array Value)[j]? := by
   intro j
   rw [World.cell?_alloc_lt w1 _ ⟨w.heap.size, j, none⟩ (by show w.heap.size < w1.heap.size; omega), hb.cell (p := ⟨w.heap.size, j, none⟩) (by simp), World.cell?_alloc_new]
 refine ⟨((zq hb).alloc (by omega) _), by simp; omega, by omega, by simp, ?_, ?_, ?_, ?_, ?_, ?_, ?_⟩
 . rw [hc]; rfl
 . rw [hc]; rfl
 . rw [hc]; rfl
 . rw [hc]; rfl
 . rw [hc]; rfl
 . rw [hc]; rfl
 . rw [World.cell?_alloc_new]; rfl
end Go.Proofs.YtbnkckjdgpiggaaGreatDoor
