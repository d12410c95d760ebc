/-
  Plain law (no program): texts cut at one byte.
  The walks of the errors' names, of desk's forms.
  The walk of sub.Is.
  The walk of sub.Read.
  The walk of join.Join.
-/
import Derived.Lib.SplitLaws
import Derived.Lib.CutLaws
import Derived.Test.YtfimajijegohmaaGreatDoorPlain
import Derived.Test.YtfimajijegohmaaGreatDoorBase
import Derived.Test.YtfimajijegohmaaGreatDoorWld
import Derived.Test.YtfimajijegohmaaGreatDoorWx
import Derived.Test.YtfimajijegohmaaGreatDoorSa
import Derived.Test.YtfimajijegohmaaGreatDoorKb
import Derived.Test.YtfimajijegohmaaGreatDoorJa
namespace Go.Proofs.YtfimajijegohmaaGreatDoor
set_option linter.unusedVariables false
set_option linter.unusedSimpArgs false
open Go.Lib

theorem index_seg (c : UInt8) (rest : List UInt8) : ∀ x : List UInt8, (∀ b ∈ x, b ≠ c) → Lib.index (x ++ c :: rest) [c] = (x.length : Int)
  | [], _ => by simp [Lib.index, List.isPrefixOf]
  | b :: x, h => by
    have hb : b ≠ c := h b (by simp)
    have ih := index_seg c rest x (fun y hy => h y (by simp [hy]))
    have hp : ([c] : List UInt8).isPrefixOf (b :: (x ++ c :: rest)) = false := by
      simp [List.isPrefixOf, Ne.symm hb]
    rw [List.cons_append]
    unfold Lib.index
    rw [hp, ih]
    simp
    try omega
theorem index_miss (c : UInt8) : ∀ x : List UInt8, (∀ b ∈ x, b ≠ c) → Lib.index x [c] = -1
  | [], _ => by simp [Lib.index]
  | b :: x, h => by
    have hb : b ≠ c := h b (by simp)
    have ih := index_miss c x (fun y hy => h y (by simp [hy]))
    have hp : ([c] : List UInt8).isPrefixOf (b :: x) = false := by
      simp [List.isPrefixOf, Ne.symm hb]
    unfold Lib.index
    rw [hp, ih]
    simp
theorem extract_at (x r : List UInt8) (c : UInt8) : (⟨⟨x ++ c :: r⟩⟩ : ByteArray).extract (x.length + 1) (⟨⟨x ++ c :: r⟩⟩ : ByteArray).size = ⟨⟨r⟩⟩ := by
  apply ByteArray.ext
  apply Array.ext'
  rw [ByteArray.data_extract, Array.toList_extract]
  simp [List.extract, ByteArray.size]
  exact List.take_of_length_le (by omega)
theorem extract_to (x r : List UInt8) (c : UInt8) : (⟨⟨x ++ c :: r⟩⟩ : ByteArray).extract 0 x.length = ⟨⟨x⟩⟩ := by
  apply ByteArray.ext
  apply Array.ext'
  rw [ByteArray.data_extract, Array.toList_extract]
  simp [List.extract]
theorem splitB_seg (c : UInt8) (x r : List UInt8) (k : Nat) (hx : ∀ b ∈ x, b ≠ c) : Lib.splitB ⟨#[c]⟩ 0 (k + 1) ⟨⟨x ++ c :: r⟩⟩ = ⟨⟨x⟩⟩ :: Lib.splitB ⟨#[c]⟩ 0 k ⟨⟨r⟩⟩ := by
  have h : Lib.indexB ⟨⟨x ++ c :: r⟩⟩ ⟨#[c]⟩ = (x.length : Int) := index_seg c r x hx
  rw [Lib.splitB_hit _ _ _ _ x.length h]
  have e1 : (⟨#[c]⟩ : ByteArray).size = 1 := rfl
  rw [e1, extract_at, Nat.add_zero, extract_to]
theorem splitB_last (c : UInt8) (x : List UInt8) (k : Nat) (hx : ∀ b ∈ x, b ≠ c) : Lib.splitB ⟨#[c]⟩ 0 k ⟨⟨x⟩⟩ = [⟨⟨x⟩⟩] :=
  Lib.splitB_miss _ _ _ _ (index_miss c x hx)
theorem countB_seg (c : UInt8) (x r : List UInt8) (hx : ∀ b ∈ x, b ≠ c) : Lib.countB ⟨⟨x ++ c :: r⟩⟩ ⟨#[c]⟩ = 1 + Lib.countB ⟨⟨r⟩⟩ ⟨#[c]⟩ := by
  have h : Lib.indexB ⟨⟨x ++ c :: r⟩⟩ ⟨#[c]⟩ = (x.length : Int) := index_seg c r x hx
  rw [Lib.countB_hit ⟨⟨x ++ c :: r⟩⟩ ⟨#[c]⟩ x.length (Nat.le_refl 1) h]
  have e1 : (⟨#[c]⟩ : ByteArray).size = 1 := rfl
  rw [e1, extract_at]
theorem countB_last (c : UInt8) (x : List UInt8) (hx : ∀ b ∈ x, b ≠ c) : Lib.countB ⟨⟨x⟩⟩ ⟨#[c]⟩ = 0 := Lib.countB_miss _ _ (index_miss c x hx)

/-- parts, each with c behind it -/
def ends (c : UInt8) (A : List (List UInt8)) : List UInt8 := A.flatMap (· ++ [c])
theorem ends_cons (c : UInt8) (x : List UInt8) (A : List (List UInt8)) (y : List UInt8) : ends c (x :: A) ++ y = x ++ c :: (ends c A ++ y) := by simp [ends]
theorem ends_snoc (c : UInt8) (A : List (List UInt8)) (x : List UInt8) : ends c (A ++ [x]) = ends c A ++ x ++ [c] := by simp [ends]
theorem count_ends (c : UInt8) (y : List UInt8) (hy : ∀ b ∈ y, b ≠ c) : ∀ A : List (List UInt8), (∀ x ∈ A, ∀ b ∈ x, b ≠ c) → Lib.countB ⟨⟨ends c A ++ y⟩⟩ ⟨#[c]⟩ = A.length
  | [], _ => countB_last c y hy
  | x :: A, h => by
    rw [ends_cons, countB_seg c x _ (h x (by simp)), count_ends c y hy A (fun z hz => h z (by simp [hz])), List.length_cons]
    omega
theorem split_ends (c : UInt8) (y : List UInt8) (hy : ∀ b ∈ y, b ≠ c) : ∀ A : List (List UInt8), (∀ x ∈ A, ∀ b ∈ x, b ≠ c) → Lib.splitB ⟨#[c]⟩ 0 A.length ⟨⟨ends c A ++ y⟩⟩ = (A ++ [y]).map fun x => ⟨⟨x⟩⟩
  | [], _ => splitB_last c y 0 hy
  | x :: A, h => by
    rw [ends_cons, List.length_cons, splitB_seg c x _ _ (h x (by simp)), split_ends c y hy A (fun z hz => h z (by simp [hz]))]
    rfl
theorem cut_seg (c : UInt8) (x r : List UInt8) (hx : ∀ b ∈ x, b ≠ c) : Lib.cut (x ++ c :: r) [c] = (x, r, true) := by
  unfold Lib.cut
  rw [index_seg c r x hx, if_pos (by omega)]
  simp
end Go.Proofs.YtfimajijegohmaaGreatDoor
namespace Go.Proofs.YtfimajijegohmaaGreatDoor
set_option linter.unusedVariables false
set_option linter.unusedSimpArgs false
open Go.RowKit Go.Shelf Go.Lib

/-! an error's name -/
def errNames : List (List UInt8) := [[79, 75], [69, 114, 114, 70, 111, 114, 109], [69, 114, 114, 82, 97, 110, 103, 101], [69, 114, 114, 78, 111, 110, 101], [69, 114, 114, 70, 117, 108, 108], [69, 114, 114, 84, 119, 105, 99, 101], [69, 114, 114, 82, 111, 117, 110, 100], [69, 114, 114, 84, 121, 112, 101], [69, 114, 114, 83, 104, 97, 112, 101], [69, 114, 114, 82, 105, 103, 104, 116], [69, 114, 114, 70, 117, 101, 108], [69, 114, 114, 83, 116, 117, 99, 107], [69, 114, 114, 83, 121, 110, 116, 97, 120]]
def errT (z : Int) : List UInt8 := if z < 0 ∨ 13 ≤ z then [69, 114, 114, 110, 111] else errNames.getD z.toNat []
set_option maxRecDepth 100000 in
set_option maxHeartbeats 4000000 in
theorem error_calls (z : Int) (w : World) : Calls Tryz.prog 61 #[.int .i64 z] w fun e w' => e = .returned (.string ⟨⟨errT z⟩⟩) ∧ Below w.heap.size w w' := by
  have HB := Lib.hid (fun o => (Below.refl w.heap.size w).alloc (Nat.le_refl _) o)
  by_cases h0 : z < 0
  · have HT := Lib.hid (show errT z = [69, 114, 114, 110, 111] by unfold errT; rw [if_pos (Or.inl h0)])
    go_enter Tryz.func61, Tryz.ntmps61
    go_wp2_with fail
    go_ret
    exact ⟨by rw [HT.out]; rfl, HB.out _⟩
  · by_cases h1 : 13 ≤ z
    · have HT := Lib.hid (show errT z = [69, 114, 114, 110, 111] by unfold errT; rw [if_pos (Or.inr h1)])
      go_enter Tryz.func61, Tryz.ntmps61
      go_wp2_with fail
      go_ret
      exact ⟨by rw [HT.out]; rfl, HB.out _⟩
    · have hz : z = 0 ∨ z = 1 ∨ z = 2 ∨ z = 3 ∨ z = 4 ∨ z = 5 ∨ z = 6 ∨ z = 7 ∨ z = 8 ∨ z = 9 ∨ z = 10 ∨ z = 11 ∨ z = 12 := by omega
      clear h0 h1
      rcases hz with rfl | rfl | rfl | rfl | rfl | rfl | rfl | rfl | rfl | rfl | rfl | rfl | rfl
      all_goals
        go_enter Tryz.func61, Tryz.ntmps61
        go_wp2_with fail
        go_ret
        exact ⟨rfl, HB.out _⟩

/-! the forms -/
def formV (n : Int) (f : Nat) : Value := .agg #[.int .i64 n, .func (.func f) #[] #[]]
def formsF : List UInt8 → Option Value := (sputf (sputf (sputf (sputf (sputf (sputf (sputf (fun _ => none) [99, 108, 97, 115, 115] (formV (3) 200)) [105, 115] (formV (3) 201)) [106, 111, 105, 110] (formV (3) 203)) [109, 97, 116, 104] (formV (5) 205)) [105, 110, 115] (formV (-2) 210)) [102, 111, 108, 100] (formV (1) 213)) [114, 117, 110] (formV (2) 218))
theorem forms_class : formsF [99, 108, 97, 115, 115] = some (formV 3 200) := rfl
theorem forms_is : formsF [105, 115] = some (formV 3 201) := rfl
theorem forms_join : formsF [106, 111, 105, 110] = some (formV 3 203) := rfl

set_option maxRecDepth 100000 in
set_option maxHeartbeats 2000000 in
theorem forms_calls (w : World) : Calls Tryz.prog 126 #[] w fun e w' => ∃ b n, e = .returned (.map (some b)) ∧ SMap w' b n formsF ∧ Below w.heap.size w w' := by
  have h0 := SMap.made w
  obtain ⟨w1, hr1, hs1, hg1⟩ := h0.store (P := Tryz.prog) (k := 9) (t := 215) (e := 213) Tryz.underlying9 Tryz.underlying215 (z := [99, 108, 97, 115, 115]) (by decide) (by decide) (formV (3) 200)
  obtain ⟨w2, hr2, hs2, hg2⟩ := hs1.store (P := Tryz.prog) (k := 9) (t := 215) (e := 213) Tryz.underlying9 Tryz.underlying215 (z := [105, 115]) (by decide) (by decide) (formV (3) 201)
  obtain ⟨w3, hr3, hs3, hg3⟩ := hs2.store (P := Tryz.prog) (k := 9) (t := 215) (e := 213) Tryz.underlying9 Tryz.underlying215 (z := [106, 111, 105, 110]) (by decide) (by decide) (formV (3) 203)
  obtain ⟨w4, hr4, hs4, hg4⟩ := hs3.store (P := Tryz.prog) (k := 9) (t := 215) (e := 213) Tryz.underlying9 Tryz.underlying215 (z := [109, 97, 116, 104]) (by decide) (by decide) (formV (5) 205)
  obtain ⟨w5, hr5, hs5, hg5⟩ := hs4.store (P := Tryz.prog) (k := 9) (t := 215) (e := 213) Tryz.underlying9 Tryz.underlying215 (z := [105, 110, 115]) (by decide) (by decide) (formV (-2) 210)
  obtain ⟨w6, hr6, hs6, hg6⟩ := hs5.store (P := Tryz.prog) (k := 9) (t := 215) (e := 213) Tryz.underlying9 Tryz.underlying215 (z := [102, 111, 108, 100]) (by decide) (by decide) (formV (1) 213)
  obtain ⟨w7, hr7, hs7, hg7⟩ := hs6.store (P := Tryz.prog) (k := 9) (t := 215) (e := 213) Tryz.underlying9 Tryz.underlying215 (z := [114, 117, 110]) (by decide) (by decide) (formV (2) 218)
  have hb0 : Below w.heap.size w (w.alloc (.map #[] 0)) := (Below.refl w.heap.size w).alloc (Nat.le_refl _) _
  have hb1 := hb0.grown hg1 hb0.size (fun k hk => by cases hk; exact Nat.le_refl _)
  have hb2 := hb1.grown hg2 hb1.size (fun k hk => by cases hk; exact Nat.le_refl _)
  have hb3 := hb2.grown hg3 hb2.size (fun k hk => by cases hk; exact Nat.le_refl _)
  have hb4 := hb3.grown hg4 hb3.size (fun k hk => by cases hk; exact Nat.le_refl _)
  have hb5 := hb4.grown hg5 hb4.size (fun k hk => by cases hk; exact Nat.le_refl _)
  have hb6 := hb5.grown hg6 hb5.size (fun k hk => by cases hk; exact Nat.le_refl _)
  have hb7 := hb6.grown hg7 hb6.size (fun k hk => by cases hk; exact Nat.le_refl _)
  have HS := Lib.hid (show SMap w7 w.heap.size 7 formsF from hs7.cong (by omega) (fun _ => rfl))
  have HB := Lib.hid hb7
  have hq1 : (Instr.mapUpdate 215 (.map (some w.heap.size)) (.string ⟨#[99, 108, 97, 115, 115]⟩) (.agg #[.int .i64 (3), .func (.func 200) #[] #[]])).run Tryz.prog (w.alloc (.map #[] 0)) = .ok () w1 := hr1
  have hq2 : (Instr.mapUpdate 215 (.map (some w.heap.size)) (.string ⟨#[105, 115]⟩) (.agg #[.int .i64 (3), .func (.func 201) #[] #[]])).run Tryz.prog w1 = .ok () w2 := hr2
  have hq3 : (Instr.mapUpdate 215 (.map (some w.heap.size)) (.string ⟨#[106, 111, 105, 110]⟩) (.agg #[.int .i64 (3), .func (.func 203) #[] #[]])).run Tryz.prog w2 = .ok () w3 := hr3
  have hq4 : (Instr.mapUpdate 215 (.map (some w.heap.size)) (.string ⟨#[109, 97, 116, 104]⟩) (.agg #[.int .i64 (5), .func (.func 205) #[] #[]])).run Tryz.prog w3 = .ok () w4 := hr4
  have hq5 : (Instr.mapUpdate 215 (.map (some w.heap.size)) (.string ⟨#[105, 110, 115]⟩) (.agg #[.int .i64 (-2), .func (.func 210) #[] #[]])).run Tryz.prog w4 = .ok () w5 := hr5
  have hq6 : (Instr.mapUpdate 215 (.map (some w.heap.size)) (.string ⟨#[102, 111, 108, 100]⟩) (.agg #[.int .i64 (1), .func (.func 213) #[] #[]])).run Tryz.prog w5 = .ok () w6 := hr6
  have hq7 : (Instr.mapUpdate 215 (.map (some w.heap.size)) (.string ⟨#[114, 117, 110]⟩) (.agg #[.int .i64 (2), .func (.func 218) #[] #[]])).run Tryz.prog w6 = .ok () w7 := hr7
  clear h0 hr1 hs1 hg1 hb1 hr2 hs2 hg2 hb2 hr3 hs3 hg3 hb3 hr4 hs4 hg4 hb4 hr5 hs5 hg5 hb5 hr6 hs6 hg6 hb6 hr7 hs7 hg7 hb7 hb0
  have m1 := run_makeMap (P := Tryz.prog) 215
  go_enter Tryz.func126, Tryz.ntmps126
  go_wp2_with fail
  go_ret
  exact ⟨_, _, rfl, HS.out, HB.out⟩
end Go.Proofs.YtfimajijegohmaaGreatDoor
namespace Go.Proofs.YtfimajijegohmaaGreatDoor
set_option linter.unusedVariables false
set_option linter.unusedSimpArgs false
open Go.RowKit Go.Shelf Go.Lib

open Classical in
noncomputable def isErr2 (l : List ClassR) (n m : Nm) : Int := if withErr l n ≠ 0 then withErr l n else if (look (wl l) m).isSome = true then 0 else 3
def IsRes (err : Int) (r : Bool) (w : World) (e : Ending) (w' : World) : Prop :=
  Below w.heap.size w w' ∧ ((err ≠ 0 ∧ e = .returned (.tuple #[.bool false, errV err])) ∨ (err = 0 ∧ e = .returned (.tuple #[.bool r, .nilIface])))

set_option maxRecDepth 100000 in
set_option maxHeartbeats 1000000 in
theorem is_calls (l : List ClassR) (ps : List CAddr) (a : Option Addr) (cap : Nat) (n m : Nm) (w : World) (hC : ClassesAt w a cap l ps) (hF : FormsAt w) (hB : ClsOk l) (hn : n.length ≤ 1048576) (hm : m.length ≤ 1048576) :
    Calls Tryz.prog 27 #[.slice a l.length cap, .string ⟨⟨n⟩⟩, .string ⟨⟨m⟩⟩] w (IsRes (isErr2 l n m) ((every (wl l) n).contains m) w) := by
  have HR := Lib.hid (with_w l ps a cap n w hC hF hB hn)
  have hml : m.length ≤ maxLen := by unfold maxLen; omega
  clear hC hF hB
  go_enter Tryz.func27, Tryz.ntmps27
  go_wp2_with fail
  refine HR.out.mono ?_
  rintro e w2 ⟨hb2, ⟨hne, rfl⟩ | ⟨he0, _, b, rfl, hw⟩⟩
  · have HB2 := Lib.hid hb2
    have HEE := Lib.hid (show isErr2 l n m = withErr l n by unfold isErr2; rw [if_pos hne])
    have HNE := Lib.hid hne
    clear hb2
    generalize isErr2 l n m = q at *
    generalize withErr l n = z at *
    clear hne
    go_wp2_with fail
    go_ret2
    exact ⟨HB2.out, Or.inl ⟨by rw [HEE.out]; exact HNE.out, by rw [HEE.out]; rfl⟩⟩
  · have HB2 := Lib.hid hb2
    have hz := hb2.size
    have HW := Lib.hid hw
    have hlk := cur_look2 (n := m) hw.at_ hml
    have HEE := Lib.hid (show isErr2 l n m = if (look (wl l) m).isSome = true then 0 else 3 by unfold isErr2; rw [if_neg (by rw [he0]; simp)])
    have h50 := every_le50 hw.good n
    rw [hw.cl] at hlk
    unfold classV at hlk
    clear hb2 hw he0
    generalize isErr2 l n m = q at *
    cases hs : (look (wl l) m).isSome with
    | false =>
      rw [hs] at hlk HEE
      clear hs
      go_wp2_with fail
      go_ret2
      exact ⟨HB2.out.alloc hz _, Or.inl ⟨by rw [HEE.out]; simp, by rw [HEE.out]; rfl⟩⟩
    | true =>
      rw [hs] at hlk HEE
      clear hs
      have HEV := Lib.hid (fun o => every_w (HW.out.below ((Below.refl _ _).alloc (Nat.le_refl _) o)) n hn)
      generalize every (wl l) n = ev at *
      go_wp2_with fail
      refine (HEV.out _).mono ?_
      rintro e w3 ⟨⟨v, rfl, ho⟩, hb3⟩
      obtain ⟨A5, C5, rfl, hr5⟩ := srow_of_own ho
      have HS := Lib.hid (contains_str ev A5 ev.length C5 m w3 hr5 rfl (by omega))
      have HB3 := Lib.hid (bl_trans (HB2.out.alloc hz _) hb3)
      clear hb3 ho hr5
      generalize ev.contains m = cq at *
      go_wp2_with fail
      refine HS.out.mono ?_
      rintro e w4 ⟨rfl, rfl⟩
      go_wp2_with fail
      go_ret2
      exact ⟨HB3.out, Or.inr ⟨by rw [HEE.out]; simp, rfl⟩⟩
end Go.Proofs.YtfimajijegohmaaGreatDoor
namespace Go.Proofs.YtfimajijegohmaaGreatDoor
set_option linter.unusedVariables false
set_option linter.unusedSimpArgs false
open Go.RowKit Go.Shelf Go.Lib

theorem run_eql_nil_iface {P : Program} (w : World) {t tx : TypeId} {ms : Array (String × TypeId)} (v : Value) (ht : P.underlying t = some (.interface ms)) :
    (binOp .eql t .nilIface (.iface tx v)).run P w = .ok (.bool false) w := by
  have h : ∀ d : Nat, (Op.equalIn (d + 1) t .nilIface (.iface tx v)).run P w = .ok false w := fun d => by
    simp [Op.equalIn, run_underlying ht]
  simp only [binOp]
  simp [Op.equal, Op.maxDepth, h 9999]
@[go_sem] theorem run_eql_nil_errno (w : World) (a : Int) : (binOp .eql 25 .nilIface (.iface 55 (.int .i64 a))).run Tryz.prog w = .ok (.bool false) w :=
  run_eql_nil_iface w _ Tryz.underlying25
theorem kind_vals (L : List ClassR) (t : Nm) : kindErr L t = 0 ∨ kindErr L t = 1 ∨ kindErr L t = 3 := by
  unfold kindErr
  split
  · exact Or.inl rfl
  split
  · exact Or.inr (Or.inl rfl)
  split
  · exact Or.inr (Or.inr rfl)
  · exact Or.inl rfl
def kinds2 (x y : Int) : Int := if x = 1 ∨ y = 1 then 1 else if x ≠ 0 ∨ y ≠ 0 then 3 else 0
noncomputable def read2Err (l : List ClassR) (s t : Nm) : Int := if readErr l ≠ 0 then readErr l else kinds2 (kindErr (wl l) s) (kindErr (wl l) t)
def Read2Res (err : Int) (l : List ClassR) (ps : List CAddr) (w : World) (e : Ending) (w' : World) : Prop :=
  Below w.heap.size w w' ∧ ((err ≠ 0 ∧ e = .returned (.tuple #[.map none, errV err])) ∨
    (err = 0 ∧ ∃ b, e = .returned (.tuple #[.map (some b), .nilIface]) ∧ WOk w' b l (wcp l ps)))
theorem kinds2_zero {x y : Int} : kinds2 x y = 0 ↔ x = 0 ∧ y = 0 := by
  unfold kinds2
  split
  · rename_i h; omega
  · split
    · omega
    · rename_i h1 h2; exact ⟨fun _ => by omega, fun _ => rfl⟩
theorem read2_zero {l : List ClassR} {s t : Nm} : read2Err l s t = 0 ↔ Good l ∧ kindErr (wl l) s = 0 ∧ kindErr (wl l) t = 0 := by
  unfold read2Err
  by_cases h : readErr l = 0
  · rw [if_neg (by simp [h]), kinds2_zero]
    exact ⟨fun q => ⟨(readErr_zero l).1 h, q⟩, fun q => q.2⟩
  · rw [if_pos h]
    exact ⟨fun q => absurd q h, fun q => absurd (good_read q.1) h⟩

set_option maxRecDepth 100000 in
set_option maxHeartbeats 4000000 in
theorem read2_calls (l : List ClassR) (ps : List CAddr) (a : Option Addr) (cap : Nat) (s t : Nm) (w : World) (hC : ClassesAt w a cap l ps) (hF : FormsAt w) (hB : ClsOk l) (hs : s.length ≤ 8388608) (ht : t.length ≤ 8388608) :
    Calls Tryz.prog 65 #[.slice a l.length cap, .string ⟨⟨s⟩⟩, .string ⟨⟨t⟩⟩] w (Read2Res (read2Err l s t) l ps w) := by
  have HR := Lib.hid (read_w l ps a cap w hC hF hB)
  clear hC hF hB
  go_enter Tryz.func65, Tryz.ntmps65
  go_wp2_with fail
  refine HR.out.mono ?_
  rintro e w2 ⟨hb2, ⟨hne, rfl⟩ | ⟨h0, b, rfl, hw⟩⟩
  · have HB2 := Lib.hid hb2
    have HE := Lib.hid (show read2Err l s t = readErr l by unfold read2Err; rw [if_pos hne])
    have HNE := Lib.hid hne
    clear hb2
    generalize read2Err l s t = q at *
    generalize readErr l = m at *
    clear hne
    go_wp2_with fail
    go_ret2
    exact ⟨HB2.out, Or.inl ⟨by rw [HE.out]; exact HNE.out, by rw [HE.out]; rfl⟩⟩
  · have HB2 := Lib.hid hb2
    have HE := Lib.hid (show read2Err l s t = kinds2 (kindErr (wl l) s) (kindErr (wl l) t) by unfold read2Err; rw [if_neg (by simp [h0])])
    have HW := Lib.hid hw
    have HK := Lib.hid (fun s (hs : s.length ≤ 8388608) W (hb : Below w2.heap.size w2 W) => kind_calls l (wcp l ps) b s W (hw.below hb) hs)
    have hv1 := kind_vals (wl l) s
    have hv2 := kind_vals (wl l) t
    clear hb2 hw h0
    generalize read2Err l s t = q at *
    go_wp2_with fail
    refine (HK.out s hs _ (Below.refl _ _)).mono ?_
    rintro e w3 ⟨rfl, hb3⟩
    have HB3 := Lib.hid hb3
    clear hb3
    go_wp2_with fail
    refine (HK.out t ht _ HB3.out).mono ?_
    rintro e w4 ⟨rfl, hb4⟩
    have HB4 := Lib.hid (bl_trans HB3.out hb4)
    have HB5 := Lib.hid (bl_trans HB2.out HB4.out)
    clear hb4 HK
    generalize kindErr (wl l) s = x at *
    generalize kindErr (wl l) t = y at *
    have E0 : errOf 0 = .nilIface := rfl
    have E1 : errOf 1 = errV 1 := rfl
    have E3 : errOf 3 = errV 3 := rfl
    rcases hv1 with rfl | rfl | rfl <;> rcases hv2 with rfl | rfl | rfl <;> simp only [E0, E1, E3] <;> clear E0 E1 E3
    · go_wp2_with fail
      go_ret2
      exact ⟨HB5.out, Or.inr ⟨by rw [HE.out]; rfl, b, rfl, HW.out.below HB4.out⟩⟩
    all_goals
      go_wp2_with fail
      go_ret2
      exact ⟨HB5.out, Or.inl ⟨by rw [HE.out]; decide, by rw [HE.out]; rfl⟩⟩
end Go.Proofs.YtfimajijegohmaaGreatDoor
namespace Go.Proofs.YtfimajijegohmaaGreatDoor
set_option linter.unusedVariables false
set_option linter.unusedSimpArgs false
open Go.RowKit Go.Shelf Go.Lib

def JoinRes (err : Int) (r : Nm) (w : World) (e : Ending) (w' : World) : Prop :=
  Below w.heap.size w w' ∧ ((err ≠ 0 ∧ e = .returned (.tuple #[.string ⟨#[]⟩, errV err])) ∨ (err = 0 ∧ e = .returned (.tuple #[.string ⟨⟨r⟩⟩, .nilIface])))

set_option maxRecDepth 100000 in
set_option maxHeartbeats 1000000 in
theorem join_join_calls (l : List ClassR) (ps : List CAddr) (a : Option Addr) (cap : Nat) (s t : Nm) (w : World) (hC : ClassesAt w a cap l ps) (hF : FormsAt w) (hB : ClsOk l) (hs : s.length ≤ 8388608) (ht : t.length ≤ 8388608) (r : Nm)
    (hr : read2Err l s t = 0 → ∃ x y : Kd, s = x.text ∧ t = y.text ∧ x.Ok (wl l) ∧ y.Ok (wl l) ∧ (joinK (wl l) x y).text = r) :
    Calls Tryz.prog 28 #[.slice a l.length cap, .string ⟨⟨s⟩⟩, .string ⟨⟨t⟩⟩] w (JoinRes (read2Err l s t) r w) := by
  have HR := Lib.hid (read2_calls l ps a cap s t w hC hF hB hs ht)
  clear hC hF hB
  have HRR := Lib.hid hr
  clear hr
  go_enter Tryz.func28, Tryz.ntmps28
  go_wp2_with fail
  refine HR.out.mono ?_
  rintro e w2 ⟨hb2, ⟨hne, rfl⟩ | ⟨h0, b, rfl, hw⟩⟩
  · have HB2 := Lib.hid hb2
    have HNE := Lib.hid hne
    clear hb2
    generalize read2Err l s t = z at *
    clear hne
    go_wp2_with fail
    go_ret2
    exact ⟨HB2.out, Or.inl ⟨HNE.out, rfl⟩⟩
  · have HB2 := Lib.hid hb2
    have H0 := Lib.hid h0
    obtain ⟨x, y, rfl, rfl, hx, hy, rfl⟩ := HRR.out h0
    have HD := Lib.hid (of_calls l (wcp l ps) b hx hy w2 hw)
    unfold OfAt at HD
    clear hb2 h0 hw hx hy
    generalize read2Err l x.text y.text = z at *
    generalize (joinK (wl l) x y).text = r at *
    generalize x.text = s at *
    generalize y.text = t at *
    go_wp2_with fail
    refine HD.out.mono ?_
    rintro e w3 ⟨rfl, hb3⟩
    have HB3 := Lib.hid (bl_trans HB2.out hb3)
    clear hb3
    go_wp2_with fail
    go_ret2
    exact ⟨HB3.out, Or.inr ⟨H0.out, rfl⟩⟩
end Go.Proofs.YtfimajijegohmaaGreatDoor
