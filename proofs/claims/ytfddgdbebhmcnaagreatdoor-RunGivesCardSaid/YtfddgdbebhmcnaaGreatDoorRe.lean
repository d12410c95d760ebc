/-
  Plain law: worlds of one class; the frames of code that goes straight on; the method of RunGives.
  The run of a method that returns its argument.
-/
import Derived.Test.YtfddgdbebhmcnaaGreatDoorSh
import Derived.Test.YtfddgdbebhmcnaaGreatDoorRd
namespace Go.Proofs.YtfddgdbebhmcnaaGreatDoor
set_option linter.unusedVariables false
set_option linter.unusedSimpArgs false

/-! a world of one class -/
def oneC (m : MethR) : ClassR := ⟨[65], objN, [], false, [], [m]⟩
theorem one_look (m : MethR) : look (wl [oneC m]) [65] = some (oneC m) := by
  simp [look, wl, List.find?, objC, fltC, oneC, objN, fltN]
theorem one_lookO (m : MethR) : look (wl [oneC m]) objN = some objC := by
  simp [look, wl, List.find?, objC]
theorem one_lookF (m : MethR) : look (wl [oneC m]) fltN = some fltC := by
  simp [look, wl, List.find?, objC, fltC, objN, fltN]
theorem one_round (m : MethR) : roundB (wl [oneC m]) [65] = false := by
  unfold roundB
  have h1 : above (wl [oneC m]) [65] = [objN] := by unfold above; rw [one_look]; simp [aboveC, oneC, objN]
  rw [h1]
  have h2 : everyU (wl [oneC m]) objN = [objN] := by
    have h3 : above (wl [oneC m]) objN = [] := by unfold above; rw [one_lookO]; simp [aboveC, objC]
    unfold everyU
    rw [show (100 : Nat) = 98 + 1 + 1 from rfl]
    unfold bfs
    simp only [List.getElem?_cons_zero, h3, addNew]
    unfold bfs
    simp
  simp only [List.any_cons, List.any_nil, Bool.or_false]
  rw [List.contains_eq_mem, decide_eq_false_iff_not, every_mem, h2]
  simp [objN]
theorem one_good {m : MethR} (h : methErr m [] = 0) : Good [oneC m] := by
  refine ⟨by simp, fun c hc => ?_, fun j c hj => ?_, fun c hc => ?_, fun c hc => ?_⟩
  · rw [List.mem_singleton.1 hc]
    unfold classErr
    rw [if_neg, if_neg, if_neg, if_neg, if_neg, if_neg]
    · simp [oneC]
    · rw [Decidable.not_not]
      refine (firstNZ_zero _ _).2 fun j hj => ?_
      have : j = 0 := by simp [oneC] at hj; omega
      subst this
      simp [methsErr, oneC, h]
    · simp [oneC, firstNZ]
    · simp [oneC]
    · simp [oneC, firstNZ]
    · rintro (e | ⟨_, e⟩) <;> exact absurd e (by simp only [oneC]; decide)
  · match j with
    | 0 =>
      simp at hj; subst hj
      simp [names, wl, objC, fltC, oneC, objN, fltN]
    | j + 1 => simp at hj
  · rw [List.mem_singleton.1 hc]
    unfold joinErr
    rw [if_neg, if_neg, if_neg, if_neg, if_neg, if_neg]
    · simp [oneC]
    · simp [oneC, firstNZ]
    · show ¬ hasErr _ objN false ≠ 0
      unfold hasErr; rw [one_lookO]; simp [objC]
    · simp [oneC, firstNZ]
    · show ¬ (look _ objN).isNone = true
      rw [one_lookO]; simp
    · simp [oneC, objN]
  · rw [List.mem_singleton.1 hc]
    exact one_round m

/-! code that goes straight on -/
theorem hs_skip {L : List ClassR} {cF : HandR → FrR → Option FrR} {z : Nat} {f : FrR} : ∀ {hs : List HandR} {s : LkSt}, (∀ h ∈ hs, (z : Int) < h.lo ∨ h.hi ≤ (z : Int)) → hsF L cF z f hs s = some s
  | [], _, _ => rfl
  | h :: r, s, hh => by
    unfold hsF
    rw [if_pos (hh h (by simp))]
    exact hs_skip fun x hx => hh x (by simp [hx])
theorem lk_next {L : List ClassR} {c : Nm} {m : MethR} {z : Nat} {fr : Int → Option FrR} {r : List Nat} {f out : FrR} {x : InsR} (hf : fr (z : Int) = some f) (hh : ∀ h ∈ m.hs, (z : Int) < h.lo ∨ h.hi ≤ (z : Int)) (hx : m.code[z]? = some x)
    (ha : afterF L c (givesL m) x f = some out) (hn : aft m.code z = [z + 1]) (h0 : fr ((z + 1 : Nat) : Int) = none) : lkFn L c m z ⟨fr, r⟩ = some ⟨updF fr ((z + 1 : Nat) : Int) out, r ++ [z + 1]⟩ := by
  unfold lkFn lookF
  rw [show (LkSt.mk fr r).fr (z : Int) = some f from hf]
  simp only [Option.elim_some]
  rw [hs_skip hh]
  simp only [Option.elim_some, hx, ha, hn, nxF]
  rw [meetF_new (s := ⟨fr, r⟩) (z := z + 1) h0]
  rfl
theorem lk_end {L : List ClassR} {c : Nm} {m : MethR} {z : Nat} {fr : Int → Option FrR} {r : List Nat} {f out : FrR} {x : InsR} (hf : fr (z : Int) = some f) (hh : ∀ h ∈ m.hs, (z : Int) < h.lo ∨ h.hi ≤ (z : Int)) (hx : m.code[z]? = some x)
    (ha : afterF L c (givesL m) x f = some out) (hn : aft m.code z = []) : lkFn L c m z ⟨fr, r⟩ = some ⟨fr, r⟩ := by
  unfold lkFn lookF
  rw [show (LkSt.mk fr r).fr (z : Int) = some f from hf]
  simp only [Option.elim_some]
  rw [hs_skip hh]
  simp only [Option.elim_some, hx, ha, hn, nxF]
theorem args_of {m : MethR} {A : List Nm} {g : Nm} (h : MethodOk m.ty A g) : argsL m = A ∧ givesL m = g := method_uniq (args_gives ⟨A, g, h⟩) h
theorem does_num {L : List ClassR} {t : Nm} (h : numB t = true) : doesX L t t = true := by
  unfold numB at h
  rw [Bool.or_eq_true, beq_iff_eq, beq_iff_eq] at h
  unfold doesX
  rcases h with rfl | rfl
  · rw [show ([73] : Nm) = (Kd.ty 0 .int).text from rfl, kd_text (show (Kd.ty 0 .int).Ok L from ⟨by omega, trivial⟩)]
    simp [doesK, doesT]
  · rw [show ([74] : Nm) = (Kd.ty 0 .long).text from rfl, kd_text (show (Kd.ty 0 .long).Ok L from ⟨by omega, trivial⟩)]
    simp [doesK, doesT]
theorem take_num {L : List ClassR} {t : Nm} {f : FrR} {A : List Nm} (h : numB t = true) (hs : f.st = A ++ [t]) : takeF L [t] f = some ⟨f.loc, A⟩ := by
  rw [take_one (kd_num2 L h).1 (popF_snoc hs) (does_num h)]
  rfl

/-! the method of RunGives -/
def idM (t : Nm) : MethR := ⟨[105, 100], 40 :: (t ++ 41 :: t), true, false, false, 1, [⟨4, 0, 0, [], [], []⟩, ⟨27, 0, 0, [], [], []⟩], []⟩
theorem num_type {t : Nm} (h : numB t = true) : TypeOk t := by
  unfold numB at h
  rw [Bool.or_eq_true, beq_iff_eq, beq_iff_eq] at h
  rcases h with rfl | rfl
  · exact ⟨[], [73], rfl, by simp, by simp, Or.inl rfl⟩
  · exact ⟨[], [74], rfl, by simp, by simp, Or.inr (Or.inl rfl)⟩
theorem id_ty {t : Nm} (h : numB t = true) : MethodOk (idM t).ty [t] t := ⟨by simp [idM], fun x hx => by rw [List.mem_singleton.1 hx]; exact num_type h, by simp, Or.inr (num_type h)⟩
theorem id_err {t : Nm} (h : numB t = true) : methErr (idM t) [] = 0 := by
  have hty := id_ty h
  have hm : mtyErr (idM t).ty = 0 := by unfold mtyErr; rw [if_pos ⟨_, _, hty⟩]
  have ha : argsOf (idM t) = 1 := by unfold argsOf; rw [if_neg (by simp [hm]), if_pos (show (idM t).stat = true from rfl), argsN_of hty]; rfl
  have hf : FlowOk (idM t).code := by
    refine ⟨by simp [idM], fun x hx => ?_, fun x hx => ?_, rfl⟩
    · simp only [idM, List.mem_cons, List.not_mem_nil, or_false] at hx
      rcases hx with rfl | rfl
      · simp [insErr, needL, rangedB, typedB]
      · simp [insErr, needL, rangedB, typedB]
    · simp only [idM, List.mem_cons, List.not_mem_nil, or_false] at hx
      rcases hx with rfl | rfl <;> simp [jumpsB]
  unfold methErr
  rw [if_neg (by simp only [idM]; decide), if_neg (by simp [hm]), if_neg (by simp), if_neg (by simp [idM])]
  unfold bodyErr
  rw [if_neg (by simp [idM]), if_neg (by rw [(flowErr_zero _).2 hf]; simp), if_neg (by rw [ha]; simp [idM]), if_neg (by simp [idM, locB])]
  simp [handErr, idM, firstNZ]
theorem id_mok {t : Nm} (h : numB t = true) : MOk (idM t) := methErr_ok (id_err h) rfl
theorem id_looked {t : Nm} (h : numB t = true) : lookedF (wl [oneC (idM t)]) [65] (idM t) ≠ none := by
  obtain ⟨ha, hg⟩ := args_of (id_ty h)
  have hf : firstF [65] (idM t) = ⟨[t], []⟩ := by
    unfold firstF givenL
    rw [ha]
    simp [idM]
  have hk := (kd_num2 (wl [oneC (idM t)]) h).1
  have h84 : t ≠ [84] := by
    rintro rfl
    simp [numB] at h
  unfold lookedF
  rw [if_neg (by rw [hf]; simp only [Decidable.not_not]; exact kindsErr_zero.2 (fun x hx => by rw [List.mem_singleton.1 hx]; exact hk)), if_neg (by rw [hg]; rintro ⟨_, e⟩; exact e hk)]
  have hG := one_good (id_err h)
  have hM := id_mok h
  have H := lk_step (c := [65]) hG hM
  have hF : KOk (wl [oneC (idM t)]) (firstF [65] (idM t)) := first_kok hM (by rw [hf]; exact kindsErr_zero.2 (fun x hx => by rw [List.mem_singleton.1 hx]; exact hk))
  have a0 : afterF (wl [oneC (idM t)]) [65] (givesL (idM t)) ⟨4, 0, 0, [], [], []⟩ (firstF [65] (idM t)) = some ⟨[t], [t]⟩ := by
    unfold afterF plainF heapF
    rw [hf]
    simp [h84, putF]
  have a1 : afterF (wl [oneC (idM t)]) [65] (givesL (idM t)) ⟨27, 0, 0, [], [], []⟩ ⟨[t], [t]⟩ = some ⟨[t], []⟩ := by
    unfold afterF plainF heapF
    rw [hg]
    have h86 : t ≠ [86] := by
      rintro rfl
      simp [numB] at h
    have := take_num (L := wl [oneC (idM t)]) (f := ⟨[t], [t]⟩) (A := []) h rfl
    simp [h86, this]
  obtain ⟨e1, o1, _⟩ := res_some H (start_ok hF (show 0 < (idM t).code.length by simp [idM])) (z := 0) (r := []) rfl
    (lk_next (m := idM t) (z := 0) (f := firstF [65] (idM t)) (x := ⟨4, 0, 0, [], [], []⟩) (by simp [startF, updF]) (by simp [idM]) rfl a0 rfl (by simp [startF, updF]))
  obtain ⟨e2, _, _⟩ := res_some H o1 (z := 1) (r := []) rfl
    (lk_end (m := idM t) (z := 1) (f := ⟨[t], [t]⟩) (x := ⟨27, 0, 0, [], [], []⟩) (by simp [updF]) (by simp [idM]) rfl a1 rfl)
  rw [e1, e2, res_nil rfl]
  simp
theorem id_ck {t : Nm} (h : numB t = true) : Good [oneC (idM t)] ∧ lookedF (wl [oneC (idM t)]) [65] (idM t) ≠ none := ⟨one_good (id_err h), id_looked h⟩
end Go.Proofs.YtfddgdbebhmcnaaGreatDoor
namespace Go.Proofs.YtfddgdbebhmcnaaGreatDoor
set_option linter.unusedVariables false
set_option linter.unusedSimpArgs false
open Go.RowKit Go.Shelf Go.Lib Go.Sort

theorem pad_one (v : ValR) : padL [v] 1 = [v] := rfl
theorem id_code (t : Nm) : (idM t).code = [⟨4, 0, 0, [], [], []⟩, ⟨27, 0, 0, [], [], []⟩] := rfl
theorem id_run (t : Nm) (v : ValR) (W0 w : World) (K c lb cs cc b : Nat) (hv : Value) (cl : Nm) (q : MAddr) (lq : HA) (hM : MacAt W0 w K c lb cs cc b hv 0 cl (idM t) q 0 [v] [] lq (none, 0)) (hC : CodeAt W0 q.ca q.cc (idM t).code) :
    Calls Tryz.prog 34 #[.pointer (some ⟨K, 0, none⟩), .int .i64 2] w fun e w' => e = .returned .nilIface ∧ (∃ hv cv, Blk w' K 94 (macArr b hv cv v.kind v.n [] 2 true)) ∧ KeepT w w' ∧ Below W0.heap.size W0 w' := by
  have key := run_calls 2 2 K (fun i W => (i = 0 → ∃ sq, MacAt W0 W K c lb cs cc b hv 0 cl (idM t) q ((0 : Nat) : Int) [v] [] lq sq) ∧ (i = 1 → ∃ sq, MacAt W0 W K c lb cs cc b hv 1 cl (idM t) q ((1 : Nat) : Int) [v] [v] lq sq) ∧ (i = 2 → (∃ cv, Blk W K 94 (macArr b hv cv v.kind v.n [] 2 true)) ∧ Below W0.heap.size W0 W)) w
    (fun i W W' h hb => ⟨fun e => by obtain ⟨sq, h1⟩ := h.1 e; exact ⟨sq, h1.below hb⟩, fun e => by obtain ⟨sq, h1⟩ := h.2.1 e; exact ⟨sq, h1.below hb⟩, fun e => by obtain ⟨⟨cv, h1⟩, h2⟩ := h.2.2 e; exact ⟨⟨cv, h1.below hb⟩, bl_trans h2 hb⟩⟩)
    (fun i W hi h => by
      obtain rfl | rfl | rfl : i = 0 ∨ i = 1 ∨ i = 2 := by omega
      · obtain ⟨sq, h1⟩ := h.1 rfl
        exact ⟨_, _, _, _, _, _, h1.blk⟩
      · obtain ⟨sq, h1⟩ := h.2.1 rfl
        exact ⟨_, _, _, _, _, _, h1.blk⟩
      · obtain ⟨⟨cv, h1⟩, _⟩ := h.2.2 rfl
        exact ⟨_, _, _, _, _, _, h1⟩)
    (fun i W hi h => by
      obtain rfl | rfl : i = 0 ∨ i = 1 := by omega
      · obtain ⟨sq, h1⟩ := h.1 rfl
        obtain ⟨h2, _⟩ := h1.st_set 1
        refine (step_plain W0 K c lb cs cc b hv 1 cl (idM t) q 0 [v] [] [v] ([] ++ [v]) (((0 : Nat) : Int) + 1) lq sq ⟨4, 0, 0, [], [], []⟩ _ h2 hC rfl (by simp [idM]) rfl rfl rfl rfl rfl ?_ ?_).mono ?_
        · intro W' hb
          exact plain_load _ _ _ _ _ _ 0 0 0 [v] [] v [] [] [] lq sq W' (h2.below hb).call (by omega) (by simp) (by simp) rfl
        · intro W'
          exact heaped_4 K c 0 0 [] [] [] W'
        · rintro e w' ⟨he, ⟨sq', h3⟩, hk⟩
          exact ⟨he, ⟨fun e => by omega, fun _ => ⟨sq', h3⟩, fun e => by omega⟩, hk⟩
      · obtain ⟨sq, h1⟩ := h.2.1 rfl
        obtain ⟨h2, _⟩ := h1.st_set 2
        refine (step_give W0 K c lb cs cc b hv 2 cl (idM t) q 1 [v] [] v lq sq ⟨27, 0, 0, [], [], []⟩ _ h2 hC rfl (by simp [idM]) (by simp) rfl).mono ?_
        rintro e w' ⟨he, h3, hb, hk⟩
        exact ⟨he, ⟨fun e => by omega, fun e => by omega, fun _ => ⟨h3, hb⟩⟩, hk⟩)
    (by omega) (by omega) ⟨fun _ => ⟨_, hM⟩, fun e => by omega, fun e => by omega⟩
  refine key.mono ?_
  rintro e w' ⟨he, hs, hk⟩
  obtain ⟨⟨cv, h1⟩, h2⟩ := hs.2.2 rfl
  exact ⟨he, ⟨hv, cv, h1⟩, hk, h2⟩

/-! a world of one class in memory -/
theorem rows_of_blk {W : World} {g size cap : Nat} {T : TypeId} {L : List (List Value)} (h : Blk W g T L.flatten.toArray) (hl : L.length ≤ cap) (hs : ∀ c ∈ L, c.length = size) : RowsAt W size (some ⟨g, 0, none⟩) cap L :=
  ⟨hl, Or.inr ⟨g, 0, rfl, h.lt, fun k cs hk j u hu => by
    rw [Nat.zero_add, h.cell, List.getElem?_toArray]
    exact flat_get L size k j cs u hs hk hu⟩⟩
def oneA (gm : Nat) (q : MAddr) : CAddr := ⟨none, 0, none, 0, some ⟨gm, 0, none⟩, 1, [q]⟩
theorem one_at {W : World} {gk gm : Nat} {m : MethR} {q : MAddr} (hk : Blk W gk 31 (classCells (oneC m) (oneA gm q)).toArray) (hm : Blk W gm 39 (mArr m q)) (hc : MethAt W m q) : ClassesAt W (some ⟨gk, 0, none⟩) 1 [oneC m] [oneA gm q] := by
  refine ⟨rfl, rows_of_blk (L := [classCells (oneC m) (oneA gm q)]) (by simpa using hk) (by simp) (by intro c hc; rw [List.mem_singleton.1 hc]; rfl), fun k c p hkc hp => ?_⟩
  match k with
  | 0 =>
    simp at hkc hp
    subst hkc hp
    refine ⟨⟨Nat.le_refl _, Or.inl rfl⟩, ⟨Nat.le_refl _, Or.inl rfl⟩, rfl, rows_of_blk (L := [methCells m q]) (by rw [List.flatten_singleton]; exact hm) (Nat.le_refl _) (by intro c hc; rw [List.mem_singleton.1 hc]; rfl), fun k m' p' hm' hp' => ?_⟩
    match k with
    | 0 =>
      simp [oneC] at hm'
      simp [oneA] at hp'
      subst hm' hp'
      exact hc
    | k + 1 => simp [oneC] at hm'
  | k + 1 => simp at hkc
theorem one_find (m : MethR) (p : CAddr) : cpFind (wcp [oneC m] [p]) [65] = some (oneC m, p) := by
  simp [cpFind, wcp, first2, objC, fltC, objN, fltN, oneC]
theorem one_ck {m : MethR} (hg : Good [oneC m]) (h : lookedF (wl [oneC m]) [65] m ≠ none) : ckErr [oneC m] = 0 := by
  unfold ckErr
  rw [if_neg (by rw [good_read hg]; simp), if_neg]
  intro hb
  cases hl : lookedF (wl [oneC m]) [65] m with
  | none => exact h hl
  | some r =>
    have hc : cBad (wl [oneC m]) (oneC m) = false := by
      unfold cBad
      rw [List.any_eq_false]
      intro x hx
      have : x = m := by simpa [oneC] using hx
      subst this
      have := mBad_some (c := [65]) hl
      show ¬ mBad (wl [oneC x]) [65] x = true
      rw [this]; simp
    simp [hc] at hb
theorem id_cls {t : Nm} (h : numB t = true) : ClsOk [oneC (idM t)] := by
  have hl : t.length ≤ 1 := by
    unfold numB at h
    rw [Bool.or_eq_true, beq_iff_eq, beq_iff_eq] at h
    rcases h with rfl | rfl <;> simp
  intro c hc
  rw [List.mem_singleton.1 hc]
  refine ⟨⟨by simp [oneC], by simp [oneC], by simp [oneC], fun f hf => by simp [oneC] at hf, fun m hm => ?_⟩, ?_⟩
  · have : m = idM t := by simpa [oneC] using hm
    subst this
    refine ⟨by simp [idM]; omega, by simp [idM], by simp [idM], fun x hx => ?_⟩
    simp only [idM, List.mem_cons, List.not_mem_nil, or_false] at hx
    rcases hx with rfl | rfl <;> simp
  · refine ⟨by simp [oneC], by simp [oneC, objN], fun f hf => by simp [oneC] at hf, fun f hf => by simp [oneC] at hf, fun m hm => ?_⟩
    have : m = idM t := by simpa [oneC] using hm
    subst this
    refine ⟨by unfold I64; simp [idM], fun x hx => ?_, fun x hx => by simp [idM] at hx, by simp [idM], by simp [idM]; omega⟩
    simp only [idM, List.mem_cons, List.not_mem_nil, or_false] at hx
    rcases hx with rfl | rfl <;> (unfold InsI I64; simp)
end Go.Proofs.YtfddgdbebhmcnaaGreatDoor
