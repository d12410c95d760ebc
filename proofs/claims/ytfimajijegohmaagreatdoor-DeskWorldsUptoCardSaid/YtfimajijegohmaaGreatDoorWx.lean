/-
  Words for world.With and for lists with an error.
  The walk of world.With.
  world.With over a good world, in one word.
  The walk of coffeehousesame.Texts at two readings of one list; lists of classes that grow.
  The walk of the reference's In; a drawn index.
  The walk of world.Check.
-/
import Derived.Test.YtfimajijegohmaaGreatDoorWBase
import Derived.Test.YtfimajijegohmaaGreatDoorWld
import Derived.Test.YtfimajijegohmaaGreatDoorKb
import Derived.BigQuiet
import Derived.Deep.QuietTactic
namespace Go.Proofs.YtfimajijegohmaaGreatDoor
set_option linter.unusedVariables false
set_option linter.unusedSimpArgs false
open Go.RowKit Go.Shelf Go.Lib

open Classical in
noncomputable def withErr (l : List ClassR) (n : Nm) : Int := if readErr l ≠ 0 then readErr l else if n ∈ names l then 0 else 3
theorem withErr_zero {l : List ClassR} {n : Nm} : withErr l n = 0 ↔ Good l ∧ n ∈ names l := by
  unfold withErr
  by_cases h : readErr l = 0
  · rw [if_neg (by simp [h])]
    by_cases h2 : n ∈ names l
    · rw [if_pos h2]; exact ⟨fun _ => ⟨(readErr_zero l).1 h, h2⟩, fun _ => rfl⟩
    · rw [if_neg h2]; exact ⟨fun h => by omega, fun h => absurd h.2 h2⟩
  · rw [if_pos h]; exact ⟨fun h2 => absurd h2 h, fun h2 => absurd (good_read h2.1) h⟩

def WithRes (l : List ClassR) (ps : List CAddr) (n : Nm) (w : World) (e : Ending) (w' : World) : Prop :=
  Below w.heap.size w w' ∧ ((withErr l n ≠ 0 ∧ e = .returned (.tuple #[.map none, errV (withErr l n)])) ∨
    (withErr l n = 0 ∧ ∃ b, e = .returned (.tuple #[.map (some b), .nilIface]) ∧ w.heap.size ≤ b ∧ WorldAt w' b (wcp l ps)))

def ListRes (err : Int) (A : List Nm) (w : World) (e : Ending) (w' : World) : Prop :=
  Below w.heap.size w w' ∧ ((err ≠ 0 ∧ e = .returned (.tuple #[.slice none 0 0, errV err])) ∨
    (err = 0 ∧ ∃ v, e = .returned (.tuple #[v, .nilIface]) ∧ w'.ownsRow w.heap.size 9 1 v A.length (A.map strV)))
end Go.Proofs.YtfimajijegohmaaGreatDoor
namespace Go.Proofs.YtfimajijegohmaaGreatDoor
set_option linter.unusedVariables false
set_option linter.unusedSimpArgs false
open Go.RowKit Go.Shelf Go.Lib


set_option maxRecDepth 100000 in
set_option maxHeartbeats 1000000 in
theorem with_calls (l : List ClassR) (ps : List CAddr) (a : Option Addr) (cap : Nat) (n : Nm) (w : World) (hC : ClassesAt w a cap l ps) (hF : FormsAt w) (hB : ClsOk l) (hn : n.length ≤ 1048576) :
    Calls Tryz.prog 39 #[.slice a l.length cap, .string ⟨⟨n⟩⟩] w (WithRes l ps n w) := by
  have HR := Lib.hid (read_calls l ps a cap w hC hF hB)
  have hps := Lib.hid hC.1
  have hml : n.length ≤ maxLen := by unfold maxLen; omega
  clear hC hF hB
  go_enter Tryz.func39, Tryz.ntmps39
  go_wp2_with fail
  refine HR.out.mono ?_
  rintro e w2 ⟨hb2, ⟨hne, rfl⟩ | ⟨hg, b, rfl, hwb, hw⟩⟩
  · have HB2 := Lib.hid hb2
    have HEE := Lib.hid (show withErr l n = readErr l by unfold withErr; rw [if_pos hne])
    have HNE := Lib.hid hne
    clear hb2
    generalize readErr l = m at *
    clear hne
    go_wp2_with fail
    go_ret2
    exact ⟨HB2.out, Or.inl ⟨by rw [HEE.out]; exact HNE.out, by rw [HEE.out]; rfl⟩⟩
  · have HB2 := Lib.hid hb2
    have HW := Lib.hid hw
    have hz := HB2.out.size
    have HG := Lib.hid hg
    clear hb2 hw hg
    cases hf : cpFind (wcp l ps) n with
    | none =>
      have HEE := Lib.hid (show withErr l n = 3 by
        unfold withErr
        rw [if_neg (by rw [good_read HG.out]; simp), if_neg]
        intro hm
        have h1 := look_some.2 hm
        rw [← cl_wcp hps.out, isSome_none hf] at h1
        cases h1)
      have hlk := wlook_none HW.out hml hf true
      simp only [if_true] at hlk
      unfold zeroC at hlk
      clear hf
      go_wp2_with fail
      go_ret2
      exact ⟨HB2.out.alloc hz _, Or.inl ⟨by rw [HEE.out]; omega, by rw [HEE.out]; rfl⟩⟩
    | some cp =>
      have HEE := Lib.hid (show withErr l n = 0 from withErr_zero.2 ⟨HG.out, look_some.1 (by
        have := isSome_some hf
        rw [cl_wcp hps.out] at this
        rw [this]; rfl)⟩)
      have hlk := wlook_some HW.out hml hf true
      simp only [if_true] at hlk
      unfold classV at hlk
      clear hf
      go_wp2_with fail
      go_ret2
      exact ⟨HB2.out.alloc hz _, Or.inr ⟨HEE.out, b, rfl, hwb, HW.out.below ((Below.refl _ _).alloc (Nat.le_refl _) _)⟩⟩
end Go.Proofs.YtfimajijegohmaaGreatDoor
namespace Go.Proofs.YtfimajijegohmaaGreatDoor
set_option linter.unusedVariables false
set_option linter.unusedSimpArgs false
open Go.RowKit Go.Shelf Go.Lib

/-- With: the world, in one word -/
def WithW (l : List ClassR) (ps : List CAddr) (n : Nm) (w : World) (e : Ending) (w' : World) : Prop :=
  Below w.heap.size w w' ∧ ((withErr l n ≠ 0 ∧ e = .returned (.tuple #[.map none, errV (withErr l n)])) ∨
    (withErr l n = 0 ∧ n ∈ names l ∧ ∃ b, e = .returned (.tuple #[.map (some b), .nilIface]) ∧ WOk w' b l (wcp l ps)))
theorem with_w (l : List ClassR) (ps : List CAddr) (a : Option Addr) (cap : Nat) (n : Nm) (w : World) (hC : ClassesAt w a cap l ps) (hF : FormsAt w) (hB : ClsOk l) (hn : n.length ≤ 1048576) :
    Calls Tryz.prog 39 #[.slice a l.length cap, .string ⟨⟨n⟩⟩] w (WithW l ps n w) := by
  refine (with_calls l ps a cap n w hC hF hB hn).mono ?_
  rintro e w' ⟨hb, h | ⟨h0, b, rfl, _, hw⟩⟩
  · exact ⟨hb, Or.inl h⟩
  · obtain ⟨hg, hn⟩ := withErr_zero.1 h0
    exact ⟨hb, Or.inr ⟨h0, hn, b, rfl, wok_of hw hC.1 hg⟩⟩
end Go.Proofs.YtfimajijegohmaaGreatDoor
namespace Go.Proofs.YtfimajijegohmaaGreatDoor
set_option linter.unusedVariables false
set_option linter.unusedSimpArgs false
open Go.RowKit Go.Shelf Go.Lib

set_option maxRecDepth 100000 in
set_option maxHeartbeats 1000000 in
theorem texts_same (A : List Nm) (a a' : Option Addr) (c c' : Nat) (w : World) (h : SRow w a c A) (h' : SRow w a' c' A) (hl : A.length ≤ 1000000) :
    Calls Tryz.prog 57 #[.slice a A.length c, .slice a' A.length c'] w fun e w' => e = .returned (.bool true) ∧ Below w.heap.size w w' := by
  have HR := Lib.hid h
  have HR' := Lib.hid h'
  clear h h'
  go_enter Tryz.func57, Tryz.ntmps57
  go_wp2_with fail
  go_loopw [5] (fun i wr => ∃ k : Nat, k ≤ A.length ∧ i = .int .i64 k ∧ Below w.heap.size w wr) (fun i _ => A.length - (RowKit.intOf i).toNat)
  case atStart => exact ⟨0, by omega, rfl, Below.refl _ _⟩
  case round =>
    obtain ⟨k, hk, rfl, hwr⟩ := hrel
    by_cases hlk : k < A.length
    · obtain ⟨t, ht⟩ : ∃ t, A[k]? = some t := ⟨_, List.getElem?_eq_getElem hlk⟩
      obtain ⟨b, off, rfl, _, c1⟩ := strs_cell (HR.out.below hwr) ht
      obtain ⟨b', off', rfl, _, c2⟩ := strs_cell (HR'.out.below hwr) ht
      have HW := Lib.hid hwr
      have i0 : (0 : Int) ≤ (k : Int) := by omega
      have i1 : (k : Int) < (A.length : Int) := by omega
      clear ht hwr HR HR'
      go_wp2_with fail
      go_quiet (fail)
      go_wp2_with fail
      go_roundw
      case rel => exact ⟨k + 1, by omega, by go_num, HW.out.trans ⟨rfl, rfl, rfl, Nat.le_refl _, fun _ _ => rfl⟩⟩
      case measure => simp [RowKit.intOf]; omega
    · obtain rfl : k = A.length := by omega
      have HW := Lib.hid hwr
      clear hwr
      go_wp2_with fail
      go_ret
      exact ⟨rfl, HW.out⟩

theorem rowClass : RowT Tryz.prog 22 31 6 112 := RowT.mk' (z := .agg #[.string ByteArray.empty, .string ByteArray.empty, .slice none 0 0, .bool false, .slice none 0 0, .slice none 0 0]) Tryz.underlying22 (by kernel_rfl) rfl (by decide)

theorem src_of_rows {w : World} {a : Option Addr} {cap size : Nat} {L : List (List Value)} (h : RowsAt w size a cap L) (hs : 0 < size) (hL : ∀ c ∈ L, c.length = size) (h1 : ∀ c ∈ L, ∀ u ∈ c, u.oneCell' = true) : Src0 w size (.slice a L.length cap) L.length L.flatten := by
  have hlen : L.flatten.length = L.length * size := by
    clear h h1
    induction L with
    | nil => simp
    | cons x r ih => simp only [List.flatten_cons, List.length_append, ih (fun c hc => hL c (by simp [hc])), List.length_cons, hL x (by simp), Nat.succ_mul]; omega
  have hone : ∀ u ∈ L.flatten, u.oneCell' = true := by
    intro u hu
    obtain ⟨c, hc, hu⟩ := List.mem_flatten.1 hu
    exact h1 c hc u hu
  obtain ⟨hle, h2 | ⟨b, off, rfl, _, hc⟩⟩ := h
  · subst h2
    cases a with
    | none => exact Or.inl ⟨cap, rfl, rfl, rfl⟩
    | some ad => exact Or.inr ⟨hlen, hone, Or.inr ⟨ad, cap, rfl, fun j u hj => by simp at hj⟩⟩
  · refine Or.inr ⟨hlen, hone, Or.inr ⟨_, cap, rfl, fun j u hj => ?_⟩⟩
    obtain ⟨cs, h3, h4⟩ := flat_at _ size j u hs hL hj
    have h5 := hc (j / size) cs h3 (j % size) u h4
    have e : (⟨b, off, none⟩ : Addr).add j = ⟨b, off + j / size * size + j % size, none⟩ := by
      have e1 : (⟨b, off, none⟩ : Addr).add j = ⟨b, off + j, none⟩ := by unfold Addr.add; split <;> simp_all
      rw [e1]
      congr 1
      have := Nat.div_add_mod j size
      rw [Nat.mul_comm] at this
      omega
    rw [e]; exact h5


theorem zipc_size : ∀ (l : List ClassR) (ps : List CAddr), ∀ x ∈ List.zipWith classCells l ps, x.length = 6
  | [], _, x, h => by simp at h
  | _ :: _, [], x, h => by simp at h
  | m :: l, p :: ps, x, h => by
    simp only [List.zipWith_cons_cons, List.mem_cons] at h
    rcases h with rfl | h
    · rfl
    · exact zipc_size l ps x h
theorem zipc_one : ∀ (l : List ClassR) (ps : List CAddr), ∀ x ∈ List.zipWith classCells l ps, ∀ u ∈ x, u.oneCell' = true
  | [], _, x, h => by simp at h
  | _ :: _, [], x, h => by simp at h
  | m :: l, p :: ps, x, h => by
    simp only [List.zipWith_cons_cons, List.mem_cons] at h
    rcases h with rfl | h
    · intro u hu
      simp only [classCells, List.mem_cons, List.mem_nil_iff, or_false] at hu
      rcases hu with rfl | rfl | rfl | rfl | rfl | rfl <;> rfl
    · exact zipc_one l ps x h
theorem src_of_classes {w : World} {a : Option Addr} {cap : Nat} {l : List ClassR} {ps : List CAddr} (h : ClassesAt w a cap l ps) : Src0 w 6 (.slice a l.length cap) l.length (List.zipWith classCells l ps).flatten := by
  have := src_of_rows h.2.1 (by omega) (zipc_size _ _) (zipc_one _ _)
  have e : (List.zipWith classCells l ps).length = l.length := by rw [List.length_zipWith, h.1]; omega
  rwa [e] at this
theorem classes_own {W w : World} {B : Nat} {a A : Option Addr} {cap C : Nat} {l : List ClassR} {ps : List CAddr} {c : ClassR} {p : CAddr} (h : ClassesAt w a cap l ps) (hc : ∀ cp ∈ l.zip ps, ClassAt W cp.1 cp.2) (hn : ClassAt W c p)
    (ho : W.ownsRow B 31 6 (.slice A (l.length + 1) C) (l.length + 1) ((List.zipWith classCells l ps).flatten ++ classCells c p)) : ClassesAt W A C (l ++ [c]) (ps ++ [p]) := by
  obtain ⟨h1, h2, h3⟩ := h
  have e : (List.zipWith classCells l ps).length = l.length := by rw [List.length_zipWith, h1]; omega
  have h4 : W.ownsRow B 31 6 (.slice A (l.length + 1) C) (List.zipWith classCells l ps ++ [classCells c p]).length (List.zipWith classCells l ps ++ [classCells c p]).flatten := by simpa [e] using ho
  obtain ⟨a', cap', hv, hr⟩ := rows_of_own h4 (by intro x hx; rcases List.mem_append.1 hx with q | q; exact zipc_size _ _ x q; rw [List.mem_singleton.1 q]; rfl)
  simp only [Value.slice.injEq] at hv
  obtain ⟨rfl, _, rfl⟩ := hv
  refine ⟨by simp [h1], by rw [List.zipWith_append h1.symm]; exact hr, ?_⟩
  intro j c' p' hc' hp'
  rw [List.getElem?_append] at hc' hp'
  by_cases hj : j < l.length
  · rw [if_pos hj] at hc'
    rw [if_pos (by omega)] at hp'
    exact hc (c', p') (List.mem_of_getElem? (List.getElem?_zip_eq_some.2 ⟨hc', hp'⟩))
  · rw [if_neg hj] at hc'
    rw [if_neg (by omega)] at hp'
    have e0 : j - l.length = 0 := by
      have := (List.getElem?_eq_some_iff.1 hc').1
      simp at this; omega
    rw [e0] at hc'
    rw [show j - ps.length = 0 by omega] at hp'
    simp at hc' hp'
    subst hc' hp'
    exact hn
theorem classes_each {w : World} {a : Option Addr} {cap : Nat} {l : List ClassR} {ps : List CAddr} (h : ClassesAt w a cap l ps) : ∀ cp ∈ l.zip ps, ClassAt w cp.1 cp.2 := by
  intro cp hcp
  obtain ⟨j, hj, rfl⟩ := List.getElem_of_mem hcp
  have hz := List.getElem?_eq_getElem hj
  have hz' : (l.zip ps)[j]? = some ((l.zip ps)[j].1, (l.zip ps)[j].2) := hz
  rw [List.getElem?_zip_eq_some] at hz'
  exact h.2.2 j _ _ hz'.1 hz'.2
theorem zero_at (W : World) (c : ClassR) (h1 : c.faces = []) (h2 : c.fields = []) (h3 : c.meths = []) : ClassAt W c nilP := by
  unfold ClassAt nilP
  rw [h1, h2, h3]
  exact ⟨⟨Nat.le_refl _, Or.inl rfl⟩, ⟨Nat.le_refl _, Or.inl rfl⟩, ⟨rfl, ⟨Nat.le_refl _, Or.inl rfl⟩, fun k m p hm => by simp at hm⟩⟩

/-- what All and Supers give, taken apart -/
def ListV (err : Int) (A : List Nm) (W : World) (v ev : Value) : Prop := (err ≠ 0 ∧ v = .slice none 0 0 ∧ ev = errV err) ∨ (err = 0 ∧ ev = .nilIface ∧ ∃ a cap, v = .slice a A.length cap ∧ SRow W a cap A)
theorem ListV.below {err : Int} {A : List Nm} {W W' : World} {v ev : Value} (h : ListV err A W v ev) (hb : Below W.heap.size W W') : ListV err A W' v ev := by
  rcases h with h | ⟨h1, h2, a, cap, h3, h4⟩
  · exact Or.inl h
  · exact Or.inr ⟨h1, h2, a, cap, h3, h4.below hb⟩
theorem list_open {err : Int} {A : List Nm} {w w' : World} {e : Ending} (h : ListRes err A w e w') : Below w.heap.size w w' ∧ ∃ v ev, e = .returned (.tuple #[v, ev]) ∧ ListV err A w' v ev := by
  obtain ⟨hb, ⟨h1, rfl⟩ | ⟨h1, v, rfl, ho⟩⟩ := h
  · exact ⟨hb, _, _, rfl, Or.inl ⟨h1, rfl, rfl⟩⟩
  · obtain ⟨a, cap, rfl, hs⟩ := srow_of_own ho
    exact ⟨hb, _, _, rfl, Or.inr ⟨h1, rfl, a, cap, rfl, hs⟩⟩
end Go.Proofs.YtfimajijegohmaaGreatDoor
namespace Go.Proofs.YtfimajijegohmaaGreatDoor
set_option linter.unusedVariables false
set_option linter.unusedSimpArgs false
open Go.RowKit Go.Shelf Go.Lib

theorem turn_w (a : Int) (n : Nat) (h0 : 0 < n) (h1 : n ≤ 9223372036854775807) : ∃ k : Nat, k < n ∧ wrap64 ((IntKind.u64.wrap a).tmod ↑n) = (k : Int) := by
  have hw : 0 ≤ IntKind.u64.wrap a := by rw [IntKind.wrap_u64]; omega
  have h2 : (IntKind.u64.wrap a).tmod ↑n = (IntKind.u64.wrap a) % ↑n := Int.tmod_eq_emod_of_nonneg hw
  have h3 : 0 ≤ (IntKind.u64.wrap a) % (n : Int) := Int.emod_nonneg _ (by omega)
  have h4 : (IntKind.u64.wrap a) % (n : Int) < n := Int.emod_lt_of_pos _ (by omega)
  refine ⟨((IntKind.u64.wrap a) % (n : Int)).toNat, by omega, ?_⟩
  rw [h2, Int.toNat_of_nonneg h3]
  exact IntWalk.wrap64_in _ (by omega)

theorem turn_at (n : Int) (L : Nat) (h0 : 0 < L) (hL : L ≤ 1000000000) : ∃ k : Nat, k < L ∧ (IntKind.u64.wrap n).tmod (IntKind.u64.wrap (L : Int)) = (k : Int) := by
  have h1 : IntKind.u64.wrap (L : Int) = L := by rw [IntKind.wrap_u64]; omega
  have h2 : 0 ≤ IntKind.u64.wrap n := by rw [IntKind.wrap_u64]; omega
  rw [h1]
  refine ⟨((IntKind.u64.wrap n).tmod L).toNat, ?_, ?_⟩
  · have := Int.tmod_lt_of_pos (IntKind.u64.wrap n) (show (0 : Int) < L by omega)
    have h3 := Int.tmod_nonneg (L : Int) h2
    omega
  · have h3 := Int.tmod_nonneg (L : Int) h2
    omega

set_option maxRecDepth 100000 in
set_option maxHeartbeats 1000000 in
theorem ref_in (A : List Nm) (x : Nm) (a : Option Addr) (c : Nat) (w : World) (h : SRow w a c A) (hl : A.length ≤ 1000000) :
    Calls Tryz.prog 103 #[.slice a A.length c, .string ⟨⟨x⟩⟩] w fun e w' => e = .returned (.bool (A.contains x)) ∧ w = w' := by
  generalize hR : A.contains x = R
  have HR := Lib.hid hR
  have HS := Lib.hid h
  clear h hR
  go_enter Tryz.func103, Tryz.ntmps103
  go_wp2_with fail
  go_loopw [5] (fun i wr => ∃ k : Nat, k ≤ A.length ∧ i = .int .i64 k ∧ wr = w ∧ Hid (∀ y ∈ A.take k, (y == x) = false)) (fun i _ => A.length - (RowKit.intOf i).toNat)
  case atStart => exact ⟨0, by omega, rfl, rfl, Lib.hid (by simp)⟩
  case round =>
    obtain ⟨k, hk, rfl, rfl, HZ⟩ := hrel
    by_cases hlk : k < A.length
    · obtain ⟨t, ht⟩ : ∃ t, A[k]? = some t := ⟨_, List.getElem?_eq_getElem hlk⟩
      obtain ⟨b, off, rfl, _, c1⟩ := strs_cell HS.out ht
      have HT := Lib.hid ht
      clear ht
      cases he : t == x with
      | true =>
        have HE := Lib.hid (show R = true by rw [← HR.out, List.contains_iff_mem]; have := eq_of_beq he; rw [← this]; exact List.mem_of_getElem? HT.out)
        go_wp2_with fail
        go_ret
        exact ⟨by rw [HE.out]; rfl, rfl⟩
      | false =>
        have HZ2 := Lib.hid (take_all_succ (P := fun y => (y == x) = false) HZ.out HT.out he)
        go_wp2_with fail
        go_roundw
        case rel => exact ⟨k + 1, by omega, by go_num, trivial, HZ2⟩
        case measure => simp [RowKit.intOf]; omega
    · obtain rfl : k = A.length := by omega
      have HE := Lib.hid (show R = false by
        rw [← HR.out]
        have h1 := HZ.out
        rw [List.take_length] at h1
        cases hc : A.contains x with
        | false => rfl
        | true =>
          rw [List.contains_iff_mem] at hc
          have := h1 x hc
          simp at this)
      go_wp2_with fail
      go_ret
      exact ⟨by rw [HE.out]; rfl, rfl⟩
end Go.Proofs.YtfimajijegohmaaGreatDoor
namespace Go.Proofs.YtfimajijegohmaaGreatDoor
set_option linter.unusedVariables false
set_option linter.unusedSimpArgs false
open Go.RowKit Go.Shelf Go.Lib

set_option maxRecDepth 100000 in
set_option maxHeartbeats 1000000 in
theorem wcheck_calls (l : List ClassR) (ps : List CAddr) (a : Option Addr) (cap : Nat) (w : World) (hC : ClassesAt w a cap l ps) (hF : FormsAt w) (hB : ClsOk l) :
    Calls Tryz.prog 8 #[.slice a l.length cap] w fun e w' => e = .returned (errOf (readErr l)) ∧ Below w.heap.size w w' := by
  have HR := Lib.hid (read_calls l ps a cap w hC hF hB)
  clear hC hF hB
  go_enter Tryz.func8, Tryz.ntmps8
  go_wp2_with fail
  refine HR.out.mono ?_
  rintro e w2 ⟨hb2, ⟨hne, rfl⟩ | ⟨hg, b, rfl, _, _⟩⟩
  · have HB2 := Lib.hid hb2
    have HEE := Lib.hid (errOf_ne hne)
    clear hb2 hne
    go_wp2_with fail
    go_ret
    exact ⟨by rw [HEE.out]; rfl, HB2.out⟩
  · have HB2 := Lib.hid hb2
    have HEE := Lib.hid (show errOf (readErr l) = .nilIface by rw [good_read hg]; rfl)
    clear hb2 hg
    go_wp2_with fail
    go_ret
    exact ⟨by rw [HEE.out]; rfl, HB2.out⟩
end Go.Proofs.YtfimajijegohmaaGreatDoor
