import Derived.Test.YtfddgdbebhmcnaaGreatDoorRe
import Derived.Test.YtfddgdbebhmcnaaGreatDoorRi
import Derived.Test.YtfddgdbebhmcnaaGreatDoorRd
import Derived.Test.YtfddgdbebhmcnaaGreatDoorRg
import Derived.Test.YtfddgdbebhmcnaaGreatDoorWr
import Derived.Test.YtfddgdbebhmcnaaGreatDoorFrame
namespace Go.Proofs.YtfddgdbebhmcnaaGreatDoor
set_option linter.unusedVariables false
set_option linter.unusedSimpArgs false
open Go.RowKit
theorem does_thing (L : List ClassR) (a b : Nm) : doesK L (.ty 0 (.cls a)) (.ty 0 (.cls b)) = (decide (a = b) || (every L a).contains b) := by
 simp [doesK, doesT, Bse.isRef, Bse.cl]
def dvCode (x y k : Int) : List InsR := [⟨2, x, 0, [73], [], []⟩, ⟨2, y, 0, [73], [], []⟩, ⟨9, 4, 0, [73], [], []⟩, ⟨27, 0, 0, [], [], []⟩, ⟨6, 0, 0, [], [], []⟩, ⟨2, k, 0, [73], [], []⟩, ⟨27, 0, 0, [], [], []⟩]
def dvM (x y k : Int) (hs : List HandR) : MethR := ⟨[102], [40, 41, 73], true, false, false, 0, dvCode x y k, hs⟩
def dvH : HandR := ⟨2, 3, 4, fltN⟩
section
variable {x y k : Int} {hs : List HandR}
theorem dv_ty : MethodOk (dvM x y k hs).ty [] [73] := ⟨by simp [dvM], by simp, by simp, Or.inr (num_type rfl)⟩
theorem dv_hand : ∀ h ∈ [dvH], hand1 7 h = 0 := by
 intro h hh
 rw [List.mem_singleton.1 hh]
 unfold hand1
 rw [if_neg (by decide), if_neg (by decide)]
theorem dv_err (hx : wrap32 x = x) (hy : wrap32 y = y) (hk : wrap32 k = k) (hh : hs = [] ∨ hs = [dvH]) : methErr (dvM x y k hs) [] = 0 := by
 have hty := dv_ty (x := x) (y := y) (k := k) (hs := hs)
 have hm : mtyErr (dvM x y k hs).ty = 0 := by unfold mtyErr; rw [if_pos ⟨_, _, hty⟩]
 have ha : argsOf (dvM x y k hs) = 0 := by unfold argsOf; rw [if_neg (by simp [hm]), if_pos (show (dvM x y k hs).stat = true from rfl), argsN_of hty]; rfl
 have hf : FlowOk (dvM x y k hs).code := by
   refine ⟨by simp [dvM, dvCode], fun i hi => ?_, fun i hi => ?_, rfl⟩
   · simp only [dvM, dvCode, List.mem_cons, List.not_mem_nil, or_false] at hi
     rcases hi with rfl | rfl | rfl | rfl | rfl | rfl | rfl <;> simp [insErr, needL, rangedB, typedB, jumpsB, numB, hx, hy, hk]
   · simp only [dvM, dvCode, List.mem_cons, List.not_mem_nil, or_false] at hi
     rcases hi with rfl | rfl | rfl | rfl | rfl | rfl | rfl <;> simp [jumpsB]
 unfold methErr
 rw [if_neg (by simp only [dvM]; decide), if_neg (by simp [hm]), if_neg (by simp), if_neg (by simp [dvM])]
 unfold bodyErr
 rw [if_neg (by simp [dvM]), if_neg (by rw [(flowErr_zero _).2 hf]; simp), if_neg (by rw [ha]; simp [dvM]), if_neg (by simp [dvM, dvCode, locB])]
 rcases hh with rfl | rfl
 · simp [handErr, dvM, firstNZ]
 · have h7 : hand1 7 dvH = 0 := dv_hand dvH (by simp)
   simp [handErr, dvM, dvCode, firstNZ, h7]
theorem dv_mok (hx : wrap32 x = x) (hy : wrap32 y = y) (hk : wrap32 k = k) (hh : hs = [] ∨ hs = [dvH]) : MOk (dvM x y k hs) := methErr_ok (dv_err hx hy hk hh) rfl
theorem dv_args : argsL (dvM x y k hs) = [] ∧ givesL (dvM x y k hs) = [73] := args_of dv_ty
theorem dv_first : firstF [65] (dvM x y k hs) = ⟨[], []⟩ := by
 unfold firstF givenL
 rw [(dv_args (x := x) (y := y) (k := k) (hs := hs)).1]
 simp [dvM]
variable {L : List ClassR} {c : Nm}
theorem dv_push {a : Int} {A : List Nm} (h : A.length < 8) : afterF L c [73] ⟨2, a, 0, [73], [], []⟩ ⟨[], A⟩ = some ⟨[], A ++ [[73]]⟩ := by
 unfold afterF plainF heapF
 simp [putF, h]
theorem dv_math : afterF L c [73] ⟨9, 4, 0, [73], [], []⟩ ⟨[], [[73], [73]]⟩ = some ⟨[], [[73]]⟩ := by
 have h1 := take_num (L := L) (t := [73]) (f := ⟨[], [[73], [73]]⟩) (A := [[73]]) rfl rfl
 have h2 := take_num (L := L) (t := [73]) (f := ⟨[], [[73]]⟩) (A := []) rfl rfl
 unfold afterF plainF heapF mathF
 simp [h1, h2, putO, putF]
theorem dv_give : afterF L c [73] ⟨27, 0, 0, [], [], []⟩ ⟨[], [[73]]⟩ = some ⟨[], []⟩ := by
 have h2 := take_num (L := L) (t := [73]) (f := ⟨[], [[73]]⟩) (A := []) rfl rfl
 unfold afterF plainF heapF
 simp [h2]
theorem dv_pop {t : Nm} : afterF L c [73] ⟨6, 0, 0, [], [], []⟩ ⟨[], [t]⟩ = some ⟨[], []⟩ := by
 unfold afterF plainF heapF
 simp [popF]
theorem dv_cau {l : List ClassR} {f : FrR} : cFn (wl l) dvH f = some ⟨f.loc, [thing fltN]⟩ := by
 have h : kindErr (wl l) (thing fltN) = 0 := flt_kd l
 have hd : doesX (wl l) (thing fltN) (thing fltN) = true := by
   unfold doesX
   rw [show thing fltN = (Kd.ty 0 (.cls fltN)).text from rfl, kd_text (show (Kd.ty 0 (.cls fltN)).Ok (wl l) from ⟨by omega, by decide, look_some.2 (by simp [wl, objC, fltC])⟩)]
   rw [does_thing]
   simp
 unfold cFn caughtF
 rw [if_neg (by show ¬ kindErr (wl l) (thing fltN) ≠ 0; rw [h]; simp)]
 exact if_pos hd
theorem dv_skip {z : Nat} (hz : z ≠ 2) (hh : hs = [] ∨ hs = [dvH]) : ∀ h ∈ (dvM x y k hs).hs, (z : Int) < h.lo ∨ h.hi ≤ (z : Int) := by
 intro h hm
 rcases hh with rfl | rfl
 · simp [dvM] at hm
 · have : h = dvH := by simpa [dvM] using hm
   subst this
   show (z : Int) < 2 ∨ (3 : Int) ≤ z
   omega
theorem dv_look (hx : wrap32 x = x) (hy : wrap32 y = y) (hk : wrap32 k = k) (hh : hs = [] ∨ hs = [dvH]) : lookedF (wl [oneC (dvM x y k hs)]) [65] (dvM x y k hs) ≠ none := by
 obtain ⟨ha, hg⟩ := dv_args (x := x) (y := y) (k := k) (hs := hs)
 have hf := dv_first (x := x) (y := y) (k := k) (hs := hs)
 have hk2 := (kd_num2 (wl [oneC (dvM x y k hs)]) (t := [73]) rfl).1
 unfold lookedF
 rw [if_neg (by rw [hf]; simp [kindsErr]), if_neg (by rw [hg]; rintro ⟨_, e⟩; exact e hk2), hf]
 have hG := one_good (dv_err hx hy hk hh)
 have hM := dv_mok hx hy hk hh
 have H := lk_step (c := [65]) hG hM
 have hF : KOk (wl [oneC (dvM x y k hs)]) ⟨[], []⟩ := by
   have := first_kok (c := [65]) hM (L := wl [oneC (dvM x y k hs)]) (by rw [hf]; simp [kindsErr])
   rwa [hf] at this
 have hn : 0 < (dvM x y k hs).code.length := by simp [dvM, dvCode]
 obtain ⟨e1, o1, _⟩ := res_some H (start_ok hF hn) (z := 0) (r := []) rfl
   (lk_next (m := dvM x y k hs) (z := 0) (f := ⟨[], []⟩) (out := ⟨[], [[73]]⟩) (x := ⟨2, x, 0, [73], [], []⟩) (by simp [startF, updF]) (dv_skip (by omega) hh) rfl (by rw [hg]; exact dv_push (A := []) (by simp)) rfl (by simp [startF, updF]))
 obtain ⟨e2, o2, _⟩ := res_some H o1 (z := 1) (r := []) rfl
   (lk_next (m := dvM x y k hs) (z := 1) (f := ⟨[], [[73]]⟩) (out := ⟨[], [[73], [73]]⟩) (x := ⟨2, y, 0, [73], [], []⟩) (by simp [updF]) (dv_skip (by omega) hh) rfl (by rw [hg]; exact dv_push (A := [[73]]) (by simp)) rfl (by simp [startF, updF]))
 rw [e1, e2]
 rcases hh with rfl | rfl
 · obtain ⟨e3, o3, _⟩ := res_some H o2 (z := 2) (r := []) rfl
     (lk_next (m := dvM x y k []) (z := 2) (f := ⟨[], [[73], [73]]⟩) (out := ⟨[], [[73]]⟩) (x := ⟨9, 4, 0, [73], [], []⟩) (by simp [updF]) (by simp [dvM]) rfl (by rw [hg]; exact dv_math) rfl (by simp [startF, updF]))
   obtain ⟨e4, _, _⟩ := res_some H o3 (z := 3) (r := []) rfl
     (lk_end (m := dvM x y k []) (z := 3) (f := ⟨[], [[73]]⟩) (out := ⟨[], []⟩) (x := ⟨27, 0, 0, [], [], []⟩) (by simp [updF]) (by simp [dvM]) rfl (by rw [hg]; exact dv_give) rfl)
   rw [e3, e4, res_nil rfl]
   simp
 · obtain ⟨fr, hfr⟩ : ∃ fr, fr = updF (updF (startF ⟨[], []⟩).fr ((0 + 1 : Nat) : Int) ⟨[], [[73]]⟩) ((1 + 1 : Nat) : Int) ⟨[], [[73], [73]]⟩ := ⟨_, rfl⟩
   have f2 : fr ((2 : Nat) : Int) = some ⟨[], [[73], [73]]⟩ := by rw [hfr]; simp [updF]
   have f3 : fr ((3 : Nat) : Int) = none := by rw [hfr]; simp [startF, updF]
   have f4 : fr ((4 : Nat) : Int) = none := by rw [hfr]; simp [startF, updF]
   have f5 : fr ((5 : Nat) : Int) = none := by rw [hfr]; simp [startF, updF]
   have f6 : fr ((6 : Nat) : Int) = none := by rw [hfr]; simp [startF, updF]
   have l2 : lkFn (wl [oneC (dvM x y k [dvH])]) [65] (dvM x y k [dvH]) 2 ⟨fr, []⟩ = some ⟨updF (updF fr ((4 : Nat) : Int) ⟨[], [thing fltN]⟩) ((3 : Nat) : Int) ⟨[], [[73]]⟩, [4, 3]⟩ := by
     unfold lkFn lookF
     rw [show (LkSt.mk fr []).fr ((2 : Nat) : Int) = some ⟨[], [[73], [73]]⟩ from f2]
     simp only [Option.elim_some]
     have h1 : hsF (wl [oneC (dvM x y k [dvH])]) (cFn (wl [oneC (dvM x y k [dvH])])) 2 ⟨[], [[73], [73]]⟩ (dvM x y k [dvH]).hs ⟨fr, []⟩ = some ⟨updF fr ((4 : Nat) : Int) ⟨[], [thing fltN]⟩, [4]⟩ := by
       show hsF _ _ 2 _ [dvH] _ = _
       unfold hsF
       rw [if_neg (by decide), dv_cau]
       simp only [Option.elim_some]
       rw [show dvH.at_.toNat = 4 from rfl, meetF_new (s := ⟨fr, []⟩) (z := 4) f4]
       rfl
     rw [h1]
     simp only [Option.elim_some]
     rw [show (dvM x y k [dvH]).code[2]? = some ⟨9, 4, 0, [73], [], []⟩ from rfl]
     simp only [Option.elim_some]
     rw [hg, dv_math]
     simp only [Option.elim_some]
     rw [show aft (dvM x y k [dvH]).code 2 = [3] from rfl]
     unfold nxF
     rw [meetF_new (s := ⟨updF fr ((4 : Nat) : Int) ⟨[], [thing fltN]⟩, [4]⟩) (z := 3) (by dsimp only; rw [updF_other _ _ _ (by decide)]; exact f3)]
     rfl
   rw [← hfr] at o2
   obtain ⟨e3, o3, _⟩ := res_some H o2 (z := 2) (r := []) rfl l2
   obtain ⟨e4, o4, _⟩ := res_some H o3 (z := 4) (r := [3]) rfl
     (lk_next (m := dvM x y k [dvH]) (z := 4) (f := ⟨[], [thing fltN]⟩) (out := ⟨[], []⟩) (x := ⟨6, 0, 0, [], [], []⟩) (by simp [updF]) (dv_skip (by omega) (Or.inr rfl)) rfl (by rw [hg]; exact dv_pop) rfl (by dsimp only; rw [updF_other _ _ _ (by decide), updF_other _ _ _ (by decide)]; exact f5))
   obtain ⟨e5, o5, _⟩ := res_some H o4 (z := 3) (r := [5]) rfl
     (lk_end (m := dvM x y k [dvH]) (z := 3) (f := ⟨[], [[73]]⟩) (out := ⟨[], []⟩) (x := ⟨27, 0, 0, [], [], []⟩) (by simp [updF]) (dv_skip (by omega) (Or.inr rfl)) rfl (by rw [hg]; exact dv_give) rfl)
   obtain ⟨e6, o6, _⟩ := res_some H o5 (z := 5) (r := []) rfl
     (lk_next (m := dvM x y k [dvH]) (z := 5) (f := ⟨[], []⟩) (out := ⟨[], [[73]]⟩) (x := ⟨2, k, 0, [73], [], []⟩) (by simp [updF]) (dv_skip (by omega) (Or.inr rfl)) rfl (by rw [hg]; exact dv_push (A := []) (by simp)) rfl (by dsimp only; rw [updF_other _ _ _ (by decide), updF_other _ _ _ (by decide), updF_other _ _ _ (by decide)]; exact f6))
   obtain ⟨e7, _, _⟩ := res_some H o6 (z := 6) (r := []) rfl
     (lk_end (m := dvM x y k [dvH]) (z := 6) (f := ⟨[], [[73]]⟩) (out := ⟨[], []⟩) (x := ⟨27, 0, 0, [], [], []⟩) (by simp [updF]) (dv_skip (by omega) (Or.inr rfl)) rfl (by rw [hg]; exact dv_give) rfl)
   rw [← hfr, e3, e4, e5, e6, e7, res_nil rfl]
   simp
end
open Go.Shelf Go.Lib Go.Sort
abbrev nilS : Value := .slice none 0 0
section
variable {W0 : World} {K c lb cs cc b : Nat} {cl : Nm} {m : MethR} {q : MAddr} {lq : HA}
theorem trace_run (n f : Nat) (pc : Nat → Nat) (st : Nat → List ValR) (fuel : Int) (tk tn : Int) (th : Nm) (w : World) (hn0 : 0 < n) (hn : n ≤ 2000) (hfu : (n : Int) ≤ fuel) (h0 : ∃ sq, MacAt W0 w K c lb cs cc b nilS 0 cl m q (pc 0) [] (st 0) lq sq)
   (hmid : ∀ i, i + 1 < n → ∀ W sq hv, (i ≤ f → hv = nilS) → MacAt W0 W K c lb cs cc b hv ((i : Int) + 1) cl m q (pc i) [] (st i) lq sq → Calls Tryz.prog 68 #[.pointer (some ⟨K, 0, none⟩)] W fun e w' => e = .returned (.tuple #[]) ∧ (∃ sq' hv', (i + 1 ≤ f → hv' = nilS) ∧ MacAt W0 w' K c lb cs cc b hv' ((i : Int) + 1) cl m q (pc (i + 1)) [] (st (i + 1)) lq sq') ∧ KeepT W w')
   (hlast : ∀ W sq hv, (n - 1 ≤ f → hv = nilS) → MacAt W0 W K c lb cs cc b hv n cl m q (pc (n - 1)) [] (st (n - 1)) lq sq → Calls Tryz.prog 68 #[.pointer (some ⟨K, 0, none⟩)] W fun e w' => e = .returned (.tuple #[]) ∧ ((∃ hv' cv, Blk w' K 94 (macArr b hv' cv tk tn th n true)) ∧ Below W0.heap.size W0 w') ∧ KeepT W w') :
   Calls Tryz.prog 34 #[.pointer (some ⟨K, 0, none⟩), .int .i64 fuel] w fun e w' => e = .returned .nilIface ∧ (∃ hv cv, Blk w' K 94 (macArr b hv cv tk tn th n true)) ∧ KeepT w w' ∧ Below W0.heap.size W0 w' := by
 have key := run_calls n fuel K (fun i W => (i < n → ∃ sq hv, (i ≤ f → hv = nilS) ∧ MacAt W0 W K c lb cs cc b hv (i : Int) cl m q (pc i) [] (st i) lq sq) ∧ (i = n → (∃ hv cv, Blk W K 94 (macArr b hv cv tk tn th n true)) ∧ Below W0.heap.size W0 W)) w
   (fun i W W' h hb => ⟨fun e => by obtain ⟨sq, hv, h1, h2⟩ := h.1 e; exact ⟨sq, hv, h1, h2.below hb⟩, fun e => by obtain ⟨⟨hv, cv, h1⟩, h2⟩ := h.2 e; exact ⟨⟨hv, cv, h1.below hb⟩, bl_trans h2 hb⟩⟩)
   (fun i W hi h => by
     by_cases e : i = n
     · subst e
       obtain ⟨⟨hv, cv, h1⟩, _⟩ := h.2 rfl
       exact ⟨_, _, _, _, _, _, by rw [show decide (i = i) = true by simp]; exact h1⟩
     · obtain ⟨sq, hv, _, h1⟩ := h.1 (by omega)
       exact ⟨_, _, _, _, _, _, by rw [show decide (i = n) = false by simp; omega]; exact h1.blk⟩)
   (fun i W hi h => by
     obtain ⟨sq, hv, hh, h1⟩ := h.1 hi
     obtain ⟨h2, _⟩ := h1.st_set ((i : Int) + 1)
     by_cases e : i + 1 < n
     · refine (hmid i e _ sq hv hh h2).mono ?_
       rintro e' w' ⟨he, ⟨sq', hv', hh', h3⟩, hk⟩
       exact ⟨he, ⟨fun _ => ⟨sq', hv', hh', h3⟩, fun e2 => by omega⟩, hk⟩
     · obtain rfl : n = i + 1 := by omega
       refine (hlast _ sq hv (by simpa using hh) (by simpa using h2)).mono ?_
       rintro e' w' ⟨he, h3, hk⟩
       exact ⟨he, ⟨fun e2 => by omega, fun _ => h3⟩, hk⟩)
   hfu hn ⟨fun _ => by obtain ⟨sq, h⟩ := h0; exact ⟨sq, nilS, fun _ => rfl, h⟩, fun e => by omega⟩
 refine key.mono ?_
 rintro e w' ⟨he, hs, hk⟩
 obtain ⟨h1, h2⟩ := hs.2 rfl
 exact ⟨he, h1, hk, h2⟩
def StepTo (W0 : World) (K c lb cs cc b : Nat) (cl : Nm) (m : MethR) (q : MAddr) (lq : HA) (hv : Value) (s : Int) (p : Nat) (st : List ValR) (p' : Nat) (st' : List ValR) : Prop :=
 ∀ W sq, MacAt W0 W K c lb cs cc b hv s cl m q p [] st lq sq → Calls Tryz.prog 68 #[.pointer (some ⟨K, 0, none⟩)] W fun e w' => e = .returned (.tuple #[]) ∧ (∃ sq', MacAt W0 w' K c lb cs cc b hv s cl m q p' [] st' lq sq') ∧ KeepT W w'
theorem st_push {hv : Value} {s : Int} {p : Nat} {st : List ValR} {a : Int} (hC : CodeAt W0 q.ca q.cc m.code) (hx : m.code[p]? = some ⟨2, a, 0, [73], [], []⟩) (hml : m.code.length ≤ 1000) (hl : st.length ≤ 900) : StepTo W0 K c lb cs cc b cl m q lq hv s p st (p + 1) (st ++ [⟨1, a⟩]) := fun W sq h => by
 have hp := (List.getElem?_eq_some_iff.1 hx).1
 refine (step_plain W0 K c lb cs cc b hv s cl m q p [] st [] (st ++ [⟨1, a⟩]) ((p : Int) + 1) lq sq ⟨2, a, 0, [73], [], []⟩ W h hC hx hml rfl rfl rfl rfl rfl ?_ ?_).mono ?_
 · intro W' hb
   exact plain_push _ _ _ _ _ _ p a 0 [] st [] [] lq sq W' (h.below hb).call (by omega) (by omega)
 · intro W'
   exact heaped_2 K c a 0 [73] [] [] W'
 · rintro e w' ⟨he, ⟨sq', h3⟩, hk⟩
   exact ⟨he, ⟨sq', by simpa using h3⟩, hk⟩
theorem st_div {hv : Value} {s : Int} {p : Nat} {st : List ValR} {x y : ValR} (hC : CodeAt W0 q.ca q.cc m.code) (hx : m.code[p]? = some ⟨9, 4, 0, [73], [], []⟩) (hml : m.code.length ≤ 1000) (hl : st.length ≤ 900) (hy : y.n ≠ 0) (hxn : Is32 x.n) : StepTo W0 K c lb cs cc b cl m q lq hv s p (st ++ [x] ++ [y]) (p + 1) (st ++ [⟨1, quo32 x.n y.n⟩]) := fun W sq h => by
 have hp := (List.getElem?_eq_some_iff.1 hx).1
 refine (step_plain W0 K c lb cs cc b hv s cl m q p [] (st ++ [x] ++ [y]) [] (st ++ [⟨1, quo32 x.n y.n⟩]) ((p : Int) + 1) lq sq ⟨9, 4, 0, [73], [], []⟩ W h hC hx hml rfl rfl rfl rfl rfl ?_ ?_).mono ?_
 · intro W' hb
   exact plain_div _ _ _ _ _ _ p [] st x y 0 [] [] lq sq W' (h.below hb).call (by omega) (by omega) hy hxn
 · intro W'
   exact heaped_9 K c 4 0 [73] [] [] W'
 · rintro e w' ⟨he, ⟨sq', h3⟩, hk⟩
   exact ⟨he, ⟨sq', by simpa using h3⟩, hk⟩
theorem st_pop {hv : Value} {s : Int} {p : Nat} {st : List ValR} {x : ValR} (hC : CodeAt W0 q.ca q.cc m.code) (hx : m.code[p]? = some ⟨6, 0, 0, [], [], []⟩) (hml : m.code.length ≤ 1000) (hl : st.length ≤ 900) : StepTo W0 K c lb cs cc b cl m q lq hv s p (st ++ [x]) (p + 1) st := fun W sq h => by
 have hp := (List.getElem?_eq_some_iff.1 hx).1
 refine (step_plain W0 K c lb cs cc b hv s cl m q p [] (st ++ [x]) [] st ((p : Int) + 1) lq sq ⟨6, 0, 0, [], [], []⟩ W h hC hx hml rfl rfl rfl rfl rfl ?_ ?_).mono ?_
 · intro W' hb
   exact plain_pop _ _ _ _ _ _ p [] st x 0 [] 0 [] [] lq sq W' (h.below hb).call (by omega) (by omega)
 · intro W'
   exact heaped_6 K c 0 0 [] [] [] W'
 · rintro e w' ⟨he, ⟨sq', h3⟩, hk⟩
   exact ⟨he, ⟨sq', by simpa using h3⟩, hk⟩
theorem st_give {hv : Value} {s : Int} {p : Nat} {v : ValR} (hC : CodeAt W0 q.ca q.cc m.code) (hx : m.code[p]? = some ⟨27, 0, 0, [], [], []⟩) (hml : m.code.length ≤ 1000) (W : World) (sq : HA) (h : MacAt W0 W K c lb cs cc b hv s cl m q p [] [v] lq sq) :
   Calls Tryz.prog 68 #[.pointer (some ⟨K, 0, none⟩)] W fun e w' => e = .returned (.tuple #[]) ∧ ((∃ hv' cv, Blk w' K 94 (macArr b hv' cv v.kind v.n [] s true)) ∧ Below W0.heap.size W0 w') ∧ KeepT W w' := by
 refine (step_give W0 K c lb cs cc b hv s cl m q p [] [] v lq sq ⟨27, 0, 0, [], [], []⟩ W h hC hx hml (by simp) rfl).mono ?_
 rintro e w' ⟨he, ⟨cv, h3⟩, hb, hk⟩
 exact ⟨he, ⟨⟨hv, cv, h3⟩, hb⟩, hk⟩
end
section
variable {W0 : World} {K c lb cs cc b : Nat} {cl : Nm} {m : MethR} {q : MAddr} {lq : HA}
theorem st_bad {s : Int} {p : Nat} {x y : ValR} {l : List ClassR} {L : List CP} (hC : CodeAt W0 q.ca q.cc m.code) (hx : m.code[p]? = some ⟨9, 4, 0, [73], [], []⟩) (hml : m.code.length ≤ 1000) (hW : WOk W0 b l L) (hy : y.n = 0) (hm : m.hs = []) (W : World) (sq : HA) (h : MacAt W0 W K c lb cs cc b nilS s cl m q p [] ([] ++ [x] ++ [y]) lq sq) :
   Calls Tryz.prog 68 #[.pointer (some ⟨K, 0, none⟩)] W fun e w' => e = .returned (.tuple #[]) ∧ ((∃ hv' cv, Blk w' K 94 (macArr b hv' cv 0 0 fltN s true)) ∧ Below W0.heap.size W0 w') ∧ KeepT W w' := by
 have hp := (List.getElem?_eq_some_iff.1 hx).1
 refine (step_fault W0 K c lb cs cc b nilS s cl m q p [] ([] ++ [x] ++ [y]) [] [] 0 lq sq ⟨9, 4, 0, [73], [], []⟩ W h hC hx hml rfl rfl rfl rfl rfl l L hW rfl
   (fun w' => ((∃ hv' cv, Blk w' K 94 (macArr b hv' cv 0 0 fltN s true)) ∧ Below W0.heap.size W0 w') ∧ KeepT W w') ?_ ?_)
 · intro W' hb
   refine (plain_bad _ _ _ _ _ _ p [] [] x y 0 [] [] lq sq W' (h.below hb).call (by omega) (by simp) hy).mono ?_
   rintro e w' ⟨he, h1, h2, h3⟩
   exact ⟨he, sq, h1, h2, h3⟩
 · intro w2 gt ct sq' hM2 hg hgl hk2
   refine (throw_none l L W0 K c lb cs cc b gt ct s cl m q p [] [] lq sq' w2 hM2 (hW.below hM2.bel) hm hg hgl).mono ?_
   rintro e w3 ⟨he, hB, hgb⟩
   have hk3 := KeepT.grown hM2.blk (Or.inr (Or.inr (Or.inl rfl))) hgb
   exact ⟨he, ⟨⟨⟨_, _, hB⟩, below_grown hM2.bel hgb hM2.bK hM2.bel.size⟩, hk2.trans hk3⟩, hk3, hB.cell 0⟩
theorem st_hit {s : Int} {p : Nat} {x y : ValR} {l : List ClassR} {L : List CP} (hC : MethAt W0 m q) (hx : m.code[p]? = some ⟨9, 4, 0, [73], [], []⟩) (hml : m.code.length ≤ 1000) (hW : WOk W0 b l L) (hy : y.n = 0) (hh : HandR) (hm : m.hs = [hh]) (hc : hh.cl = fltN) (h1 : hh.lo ≤ (p : Int)) (h2 : (p : Int) < hh.hi) (hat : 0 ≤ hh.at_) (W : World) (sq : HA) (h : MacAt W0 W K c lb cs cc b nilS s cl m q p [] ([] ++ [x] ++ [y]) lq sq) :
   Calls Tryz.prog 68 #[.pointer (some ⟨K, 0, none⟩)] W fun e w' => e = .returned (.tuple #[]) ∧ (∃ sq' hv', MacAt W0 w' K c lb cs cc b hv' s cl m q hh.at_ [] [⟨3, 1⟩] lq sq') ∧ KeepT W w' := by
 have hp := (List.getElem?_eq_some_iff.1 hx).1
 refine (step_fault W0 K c lb cs cc b nilS s cl m q p [] ([] ++ [x] ++ [y]) [] [] 0 lq sq ⟨9, 4, 0, [73], [], []⟩ W h hC.1 hx hml rfl rfl rfl rfl rfl l L hW rfl
   (fun w' => (∃ sq' hv', MacAt W0 w' K c lb cs cc b hv' s cl m q hh.at_ [] [⟨3, 1⟩] lq sq') ∧ KeepT W w') ?_ ?_)
 · intro W' hb
   refine (plain_bad _ _ _ _ _ _ p [] [] x y 0 [] [] lq sq W' (h.below hb).call (by omega) (by simp) hy).mono ?_
   rintro e w' ⟨he, h1, h2, h3⟩
   exact ⟨he, sq, h1, h2, h3⟩
 · intro w2 gt ct sq' hM2 hg hgl hk2
   refine (throw_hit l L W0 K c lb cs cc b gt ct s cl m q p [] [] lq sq' w2 hM2 (hW.below hM2.bel) (hC.below hM2.bel) hh hm hc h1 h2 hat hg hgl).mono ?_
   rintro e w3 ⟨he, ⟨sq3, hM3⟩, hk3⟩
   exact ⟨he, ⟨⟨sq3, _, hM3⟩, hk2.trans hk3⟩, hk3, hM3.blk.cell 0⟩
def dvPc (i : Nat) : Nat := if i ≤ 2 then i else i + 1
def dvSt (x y : Int) : Nat → List ValR
 | 0 => []
 | 1 => [] ++ [⟨1, x⟩]
 | 2 => [] ++ [⟨1, x⟩] ++ [⟨1, y⟩]
 | _ => [] ++ [⟨1, quo32 x y⟩]
def dvSt2 (x y k : Int) : Nat → List ValR
 | 0 => []
 | 1 => [] ++ [⟨1, x⟩]
 | 2 => [] ++ [⟨1, x⟩] ++ [⟨1, y⟩]
 | 3 => [] ++ [⟨3, 1⟩]
 | 4 => []
 | _ => [] ++ [⟨1, k⟩]
theorem trace_given (x y k : Int) (hs : List HandR) (hy : y ≠ 0) (hx : Is32 x) (w : World) (hM : MacAt W0 w K c lb cs cc b nilS 0 cl (dvM x y k hs) q 0 [] [] lq (none, 0)) (hC : CodeAt W0 q.ca q.cc (dvM x y k hs).code) :
   Calls Tryz.prog 34 #[.pointer (some ⟨K, 0, none⟩), .int .i64 10] w fun e w' => e = .returned .nilIface ∧ (∃ hv cv, Blk w' K 94 (macArr b hv cv 1 (quo32 x y) [] 4 true)) ∧ KeepT w w' ∧ Below W0.heap.size W0 w' := by
 have hml : (dvM x y k hs).code.length ≤ 1000 := by simp [dvM, dvCode]
 refine trace_run (m := dvM x y k hs) 4 10 (fun i => i) (dvSt x y) 10 1 (quo32 x y) [] w (by omega) (by omega) (by omega) ⟨_, hM⟩ ?_ ?_
 · intro i hi W sq hv hhv h
   have hfix : ∀ {s : Int} {p' : Nat} {st' : List ValR} {e : Ending} {w' : World}, (e = .returned (.tuple #[]) ∧ (∃ sq', MacAt W0 w' K c lb cs cc b hv s cl (dvM x y k hs) q p' [] st' lq sq') ∧ KeepT W w') → e = .returned (.tuple #[]) ∧ (∃ sq' hv', (i + 1 ≤ 10 → hv' = nilS) ∧ MacAt W0 w' K c lb cs cc b hv' s cl (dvM x y k hs) q p' [] st' lq sq') ∧ KeepT W w' := by
     rintro s p' st' e w' ⟨h1, ⟨sq', h2⟩, h3⟩
     exact ⟨h1, ⟨sq', hv, fun _ => hhv (by omega), h2⟩, h3⟩
   match i with
   | 0 => exact (st_push (st := []) hC rfl hml (by simp) W sq h).mono fun e w' h => hfix h
   | 1 => exact (st_push (st := [] ++ [⟨1, x⟩]) hC rfl hml (by simp) W sq h).mono fun e w' h => hfix h
   | 2 => exact (st_div (st := []) hC rfl hml (by simp) hy hx W sq h).mono fun e w' h => hfix h
   | i + 3 => omega
 · intro W sq hv hhv h
   exact st_give hC rfl hml W sq h
theorem trace_bad (x k : Int) {l : List ClassR} {L : List CP} (w : World) (hM : MacAt W0 w K c lb cs cc b nilS 0 cl (dvM x 0 k []) q 0 [] [] lq (none, 0)) (hC : CodeAt W0 q.ca q.cc (dvM x 0 k []).code) (hW : WOk W0 b l L) :
   Calls Tryz.prog 34 #[.pointer (some ⟨K, 0, none⟩), .int .i64 10] w fun e w' => e = .returned .nilIface ∧ (∃ hv cv, Blk w' K 94 (macArr b hv cv 0 0 fltN 3 true)) ∧ KeepT w w' ∧ Below W0.heap.size W0 w' := by
 have hml : (dvM x 0 k []).code.length ≤ 1000 := by simp [dvM, dvCode]
 refine trace_run (m := dvM x 0 k []) 3 10 (fun i => i) (dvSt x 0) 10 0 0 fltN w (by omega) (by omega) (by omega) ⟨_, hM⟩ ?_ ?_
 · intro i hi W sq hv hhv h
   have hfix : ∀ {s : Int} {p' : Nat} {st' : List ValR} {e : Ending} {w' : World}, (e = .returned (.tuple #[]) ∧ (∃ sq', MacAt W0 w' K c lb cs cc b hv s cl (dvM x 0 k []) q p' [] st' lq sq') ∧ KeepT W w') → e = .returned (.tuple #[]) ∧ (∃ sq' hv', (i + 1 ≤ 10 → hv' = nilS) ∧ MacAt W0 w' K c lb cs cc b hv' s cl (dvM x 0 k []) q p' [] st' lq sq') ∧ KeepT W w' := by
     rintro s p' st' e w' ⟨h1, ⟨sq', h2⟩, h3⟩
     exact ⟨h1, ⟨sq', hv, fun _ => hhv (by omega), h2⟩, h3⟩
   match i with
   | 0 => exact (st_push (st := []) hC rfl hml (by simp) W sq h).mono fun e w' h => hfix h
   | 1 => exact (st_push (st := [] ++ [⟨1, x⟩]) hC rfl hml (by simp) W sq h).mono fun e w' h => hfix h
   | i + 2 => omega
 · intro W sq hv hhv h
   obtain rfl := hhv (by omega)
   exact st_bad hC rfl hml hW rfl rfl W sq h
theorem trace_hit (x k : Int) {l : List ClassR} {L : List CP} (w : World) (hM : MacAt W0 w K c lb cs cc b nilS 0 cl (dvM x 0 k [dvH]) q 0 [] [] lq (none, 0)) (hC : MethAt W0 (dvM x 0 k [dvH]) q) (hW : WOk W0 b l L) :
   Calls Tryz.prog 34 #[.pointer (some ⟨K, 0, none⟩), .int .i64 10] w fun e w' => e = .returned .nilIface ∧ (∃ hv cv, Blk w' K 94 (macArr b hv cv 1 k [] 6 true)) ∧ KeepT w w' ∧ Below W0.heap.size W0 w' := by
 have hml : (dvM x 0 k [dvH]).code.length ≤ 1000 := by simp [dvM, dvCode]
 refine trace_run (m := dvM x 0 k [dvH]) 6 2 dvPc (dvSt2 x 0 k) 10 1 k [] w (by omega) (by omega) (by omega) ⟨_, hM⟩ ?_ ?_
 · intro i hi W sq hv hhv h
   have hfix : ∀ {s : Int} {p' : Nat} {st' : List ValR} {e : Ending} {w' : World}, (e = .returned (.tuple #[]) ∧ (∃ sq', MacAt W0 w' K c lb cs cc b hv s cl (dvM x 0 k [dvH]) q p' [] st' lq sq') ∧ KeepT W w') → e = .returned (.tuple #[]) ∧ (∃ sq' hv', (i + 1 ≤ 2 → hv' = nilS) ∧ MacAt W0 w' K c lb cs cc b hv' s cl (dvM x 0 k [dvH]) q p' [] st' lq sq') ∧ KeepT W w' := by
     rintro s p' st' e w' ⟨h1, ⟨sq', h2⟩, h3⟩
     exact ⟨h1, ⟨sq', hv, fun _ => hhv (by omega), h2⟩, h3⟩
   match i with
   | 0 => exact (st_push (st := []) hC.1 rfl hml (by simp) W sq h).mono fun e w' h => hfix h
   | 1 => exact (st_push (st := [] ++ [⟨1, x⟩]) hC.1 rfl hml (by simp) W sq h).mono fun e w' h => hfix h
   | 2 =>
     obtain rfl := hhv (by omega)
     refine (st_hit hC rfl hml hW rfl dvH rfl rfl (by decide) (by decide) (by decide) W sq h).mono ?_
     rintro e w' ⟨h1, ⟨sq', hv', h2⟩, h3⟩
     exact ⟨h1, ⟨sq', hv', fun e => by omega, h2⟩, h3⟩
   | 3 => exact (st_pop (st := []) hC.1 rfl hml (by simp) W sq h).mono fun e w' h => hfix h
   | 4 => exact (st_push (st := []) hC.1 rfl hml (by simp) W sq h).mono fun e w' h => hfix h
   | i + 5 => omega
 · intro W sq hv hhv h
   exact st_give hC.1 rfl hml W sq h
end
theorem i64_of {a : Int} (h : Is32 a) : I64 a := by unfold Is32 at h; unfold I64; omega
theorem dv_cls {x y k : Int} {hs : List HandR} (hx : Is32 x) (hy : Is32 y) (hk : Is32 k) (hh : hs = [] ∨ hs = [dvH]) : ClsOk [oneC (dvM x y k hs)] := by
 have hx2 := i64_of hx
 have hy2 := i64_of hy
 have hk2 := i64_of hk
 intro c hc
 rw [List.mem_singleton.1 hc]
 refine ⟨⟨by simp [oneC], by simp [oneC], by simp [oneC], fun f hf => by simp [oneC] at hf, fun m hm => ?_⟩, ?_⟩
 · have : m = dvM x y k hs := by simpa [oneC] using hm
   subst this
   refine ⟨by simp [dvM], by simp [dvM, dvCode], by rcases hh with rfl | rfl <;> simp [dvM], fun i hi => ?_⟩
   simp only [dvM, dvCode, List.mem_cons, List.not_mem_nil, or_false] at hi
   rcases hi with rfl | rfl | rfl | rfl | rfl | rfl | rfl <;> simp
 · refine ⟨by simp [oneC], by simp [oneC, objN], fun f hf => by simp [oneC] at hf, fun f hf => by simp [oneC] at hf, fun m hm => ?_⟩
   have : m = dvM x y k hs := by simpa [oneC] using hm
   subst this
   refine ⟨by unfold I64; simp [dvM], fun i hi => ?_, fun h hm => ?_, by simp [dvM], by simp [dvM]⟩
   · simp only [dvM, dvCode, List.mem_cons, List.not_mem_nil, or_false] at hi
     rcases hi with rfl | rfl | rfl | rfl | rfl | rfl | rfl <;> (unfold InsI; simp [hx2, hy2, hk2]) <;> (unfold I64; simp)
   · rcases hh with rfl | rfl
     · simp [dvM] at hm
     · have : h = dvH := by simpa [dvM] using hm
       subst this
       simp [HandI, dvH, fltN, I64]
theorem dv_call {x y k : Int} {hs : List HandR} (hx : Is32 x) (hy : Is32 y) (hk : Is32 k) (hh : hs = [] ∨ hs = [dvH]) (tk tn : Int) (th : Nm) (s : Int)
   (hrun : ∀ (w5 w6 : World) (K c' lb cs cc b : Nat) (lq : HA) (q : MAddr) (L : List CP), WOk w5 b [oneC (dvM x y k hs)] L → MethAt w5 (dvM x y k hs) q → MacAt w5 w6 K c' lb cs cc b nilS 0 [65] (dvM x y k hs) q 0 [] [] lq (none, 0) →
     Calls Tryz.prog 34 #[.pointer (some ⟨K, 0, none⟩), .int .i64 10] w6 fun e w' => e = .returned .nilIface ∧ (∃ hv cv, Blk w' K 94 (macArr b hv cv tk tn th s true)) ∧ KeepT w6 w' ∧ Below w5.heap.size w5 w')
   (gk gm : Nat) (q : MAddr) (w : World) (hF : FormsAt w) (hkb : Blk w gk 31 (classCells (oneC (dvM x y k hs)) (oneA gm q)).toArray) (hm : Blk w gm 39 (mArr (dvM x y k hs) q)) (hc : MethAt w (dvM x y k hs) q) :
   Calls Tryz.prog 13 #[.slice (some ⟨gk, 0, none⟩) 1 1, .string ⟨⟨[65]⟩⟩, .string ⟨⟨[102]⟩⟩, .string ⟨⟨[40, 41, 73]⟩⟩, .slice none 0 0, .int .i64 10] w fun e w' => e = .returned (.tuple #[toldV tk tn th s, .nilIface]) ∧ Below w.heap.size w w' := by
 have e1 := dv_err (wrap32_self hx) (wrap32_self hy) (wrap32_self hk) hh
 have e2 := dv_look (wrap32_self hx) (wrap32_self hy) (wrap32_self hk) hh
 exact rcall_calls [oneC (dvM x y k hs)] [oneA gm q] (some ⟨gk, 0, none⟩) 1 [65] [] (none, 0) 10 w (one_at hkb hm hc) hF (dv_cls hx hy hk hh) ⟨Nat.le_refl _, Or.inl rfl⟩ (one_ck (one_good e1) e2) (by simp)
   (oneC (dvM x y k hs), oneA gm q) (one_find _ _) (dvM x y k hs) [] rfl rfl [] [73] dv_ty (by simp [dvM]) rfl (fun j v t h1 _ => by simp at h1)
   (by omega) (by omega) 0 rfl (by omega) (by simp) (Or.inr rfl) tk tn th s
   (fun w5 w6 K c' lb cs cc b lq q' _ hW hM hmac => hrun w5 w6 K c' lb cs cc b lq q' _ hW hM hmac)
def DvCall (x y k : Int) (hs : List HandR) (tk tn : Int) (th : Nm) (s : Int) : Prop :=
 ∀ (gk gm : Nat) (q : MAddr) (w : World) (_ : FormsAt w) (_ : Blk w gk 31 (classCells (oneC (dvM x y k hs)) (oneA gm q)).toArray) (_ : Blk w gm 39 (mArr (dvM x y k hs) q)) (_ : MethAt w (dvM x y k hs) q),
   Calls Tryz.prog 13 #[.slice (some ⟨gk, 0, none⟩) 1 1, .string ⟨⟨[65]⟩⟩, .string ⟨⟨[102]⟩⟩, .string ⟨⟨[40, 41, 73]⟩⟩, .slice none 0 0, .int .i64 10] w fun e w' => e = .returned (.tuple #[toldV tk tn th s, .nilIface]) ∧ Below w.heap.size w w'
theorem dv_two (x y k : Int) (hx : Is32 x) (hy : Is32 y) (hk : Is32 k) : ∃ (tk1 tn1 : Int) (th1 : Nm) (s1 tk2 tn2 : Int) (th2 : Nm) (s2 : Int), DvCall x y k [] tk1 tn1 th1 s1 ∧ DvCall x y k [dvH] tk2 tn2 th2 s2 ∧
   (y = 0 → (tk1 = 0 ∧ tn1 = 0 ∧ th1 = fltN ∧ s1 = 3) ∧ tk2 = 1 ∧ tn2 = k ∧ th2 = [] ∧ s2 = 6) ∧ (y ≠ 0 → (tk1 = 1 ∧ tn1 = quo32 x y ∧ th1 = [] ∧ s1 = 4) ∧ tk2 = 1 ∧ tn2 = quo32 x y ∧ th2 = [] ∧ s2 = 4) := by
 by_cases h : y = 0
 · subst h
   refine ⟨0, 0, fltN, 3, 1, k, [], 6, ?_, ?_, fun _ => ⟨⟨rfl, rfl, rfl, rfl⟩, rfl, rfl, rfl, rfl⟩, fun h => absurd rfl h⟩
   · exact dv_call hx hy hk (Or.inl rfl) _ _ _ _ (fun w5 w6 K c' lb cs cc b lq q L hW hM hmac => trace_bad x k w6 hmac hM.1 hW)
   · exact dv_call hx hy hk (Or.inr rfl) _ _ _ _ (fun w5 w6 K c' lb cs cc b lq q L hW hM hmac => trace_hit x k w6 hmac hM hW)
 · refine ⟨1, quo32 x y, [], 4, 1, quo32 x y, [], 4, ?_, ?_, fun e => absurd e h, fun _ => ⟨⟨rfl, rfl, rfl, rfl⟩, rfl, rfl, rfl, rfl⟩⟩
   · exact dv_call hx hy hk (Or.inl rfl) _ _ _ _ (fun w5 w6 K c' lb cs cc b lq q L hW hM hmac => trace_given x y k [] h hx w6 hmac hM.1)
   · exact dv_call hx hy hk (Or.inr rfl) _ _ _ _ (fun w5 w6 K c' lb cs cc b lq q L hW hM hmac => trace_given x y k [dvH] h hx w6 hmac hM.1)
end Go.Proofs.YtfddgdbebhmcnaaGreatDoor
