/-
  The walks of mtype.Permute and of hand.filled: exact.
-/
import Derived.Test.YtkobgmacoakelaaDoorHand4
import Derived.Test.YtkobgmacoakelaaDoorHand1
import Derived.BigQuiet
import Derived.Deep.QuietTactic
namespace Go.Proofs.YtkobgmacoakelaaDoor
set_option linter.unusedVariables false
set_option linter.unusedSimpArgs false
open Go.RowKit Go.Shelf Go.Lib

theorem permR_ty (pos : List Int) (all : List UInt8) (A : List (List UInt8)) (hA : ∀ x ∈ A, TypeOk x) (h : (permR pos all A).1 = 0) : ∀ x ∈ (permR pos all A).2, TypeOk x := by
  unfold permR at h ⊢
  cases hm : methOf all with
  | none => rw [hm] at h; exact absurd (show (1 : Int) = 0 from h) (by decide)
  | some p =>
    obtain ⟨B, g⟩ := p
    rw [hm] at h
    simp only at h ⊢
    split at h
    · exact absurd (show (8 : Int) = 0 from h) (by decide)
    · rename_i h1
      rw [if_neg h1]
      exact (methOf_ok hm).2.1

/-- the places ahead of one are right -/
def PermTo (B : List (List UInt8)) (pos : List Int) (A : List (List UInt8)) (j : Nat) : Prop := permE B pos A = permE B (pos.drop j) (A.drop j)
theorem permTo_zero (B : List (List UInt8)) (pos : List Int) (A : List (List UInt8)) : PermTo B pos A 0 := rfl
theorem perm_at {B : List (List UInt8)} {pos : List Int} {A : List (List UInt8)} {j : Nat} {k : Int} {t : List UInt8} (h : PermTo B pos A j) (hk : pos[j]? = some k) (ht : A[j]? = some t) :
    permE B pos A = if k < 0 ∨ (B.length : Int) ≤ k then 2 else if B[k.toNat]? ≠ some t then 7 else permE B (pos.drop (j + 1)) (A.drop (j + 1)) := by
  unfold PermTo at h
  have h1 : pos.drop j = k :: pos.drop (j + 1) := by
    obtain ⟨hj, e⟩ := List.getElem?_eq_some_iff.1 hk
    rw [List.drop_eq_getElem_cons hj, e]
  have h2 : A.drop j = t :: A.drop (j + 1) := by
    obtain ⟨hj, e⟩ := List.getElem?_eq_some_iff.1 ht
    rw [List.drop_eq_getElem_cons hj, e]
  rw [h, h1, h2]
  rfl
theorem perm_end {B : List (List UInt8)} {pos : List Int} {A : List (List UInt8)} {j : Nat} (h : PermTo B pos A j) (hj : pos.length ≤ j) : permE B pos A = 0 := by
  unfold PermTo at h
  rw [h, List.drop_eq_nil_iff.2 hj]
  rfl

theorem pos_cell {w : World} {a : Option Addr} {cap : Nat} {L : List Int} (h : ValsAt w a cap (L.map (fun k => .int .i64 k))) {j : Nat} {k : Int} (hk : L[j]? = some k) : ∃ b off, a = some ⟨b, off, none⟩ ∧ b < w.heap.size ∧ w.cell? ⟨b, off + j, none⟩ = some (.int .i64 k) := by
  obtain ⟨_, h2 | ⟨b, off, rfl, hlt, hc⟩⟩ := h
  · have : L = [] := by simpa using h2
    subst this; simp at hk
  · exact ⟨b, off, rfl, hlt, hc j _ (by rw [List.getElem?_map, hk]; rfl)⟩

set_option maxRecDepth 100000 in
set_option maxHeartbeats 2000000 in
theorem perm1_calls (pos : List Int) (pa : Option Addr) (pc : Nat) (all : List UInt8) (ha : all.length ≤ 8388608) (hp : pos.length ≤ 8388608) (c d : Nat) (w : World) (hc : c < w.heap.size) (hd : d < w.heap.size) (h0 : w.cell? ⟨c, 0, none⟩ = some (.string ⟨⟨all⟩⟩)) (h1 : w.cell? ⟨d, 0, none⟩ = some (.slice pa pos.length pc)) (hv : ValsAt w pa pc (pos.map (fun k => .int .i64 k)))
    (A : List (List UInt8)) (v : Value) (W : World) (hl : A.length ≤ 5) (hb : Below w.heap.size w W) (hown : W.ownsRow w.heap.size 9 1 v A.length (A.map strV)) :
    Calls Tryd.prog 34 #[v, .pointer (some ⟨c, 0, none⟩), .pointer (some ⟨d, 0, none⟩)] W (FRes w (permR pos all A)) := by
  obtain ⟨a, cap, rfl, hsr⟩ := srow_of_own hown
  have c0 : W.cell? ⟨c, 0, none⟩ = some (.string ⟨⟨all⟩⟩) := by rw [hb.cell (p := ⟨c, 0, none⟩) hc]; exact h0
  have c1 : W.cell? ⟨d, 0, none⟩ = some (.slice pa pos.length pc) := by rw [hb.cell (p := ⟨d, 0, none⟩) hd]; exact h1
  have hdl := Nat.lt_of_lt_of_le hd hb.size
  have HB := Lib.hid hb
  have HV := Lib.hid (hv.below hb)
  have HA := Lib.hid hsr
  clear hb hown h0 h1 hv hsr
  go_enter Tryd.func34, Tryd.ntmps34
  go_wp2_with fail
  refine (method_calls all ha _).mono ?_
  rintro e w1 ⟨hb1, ⟨rfl, hno⟩ | ⟨v, B, gv, rfl, hB, hown⟩⟩
  · have HR := Lib.hid (show permR pos all A = (1, []) by unfold permR; rw [methOf_none hno])
    clear hno
    go_wp2_with fail
    go_ret2
    exact ⟨bl_trans HB.out hb1, Or.inl ⟨by rw [HR.out]; decide, by rw [HR.out]; exact ⟨_, rfl⟩⟩⟩
  · have HR := Lib.hid (show permR pos all A = if pos.length ≠ A.length then (8, []) else (permE B pos A, B) by unfold permR; rw [methOf_some hB])
    obtain ⟨a2, cap2, rfl, hsr2⟩ := srow_of_own hown
    have HA2 := Lib.hid hsr2
    have d1 : w1.cell? ⟨d, 0, none⟩ = some (.slice pa pos.length pc) := by rw [hb1.cell (p := ⟨d, 0, none⟩) hdl]; exact c1
    have hdl1 := Nat.lt_of_lt_of_le hdl hb1.size
    have HB1 := Lib.hid (bl_trans HB.out hb1)
    have HV1 := Lib.hid (HV.out.below hb1)
    have HA1 := Lib.hid (HA.out.below hb1)
    have hlB := hB.2.2.1
    clear hB hown hsr2 hb1 c0 c1
    by_cases hle : pos.length = A.length
    · have HR2 := Lib.hid (show permR pos all A = (permE B pos A, B) by rw [HR.out, if_neg (by omega)])
      have HLE := Lib.hid hle
      have hle1 : ((pos.length : Int) != (A.length : Int)) = false := by simp; omega
      have hle2 : (pos.length != A.length) = false := by simp; omega
      clear hle
      go_wp2_with fail
      go_loopw [28] (fun i wr => ∃ j : Nat, j ≤ pos.length ∧ i = .int .i64 j ∧ Below w1.heap.size w1 wr ∧ Hid (PermTo B pos A j)) (fun i _ => pos.length - (RowKit.intOf i).toNat)
      case atStart => exact ⟨0, by omega, rfl, Below.refl _ _, Lib.hid (permTo_zero B pos A)⟩
      case round =>
        obtain ⟨j, hj, rfl, hbr, HP⟩ := hrel
        have HBR := Lib.hid (bl_trans HB1.out hbr)
        have HBR1 := Lib.hid hbr
        have HVR := Lib.hid (HV1.out.below hbr)
        have HAR := Lib.hid (HA1.out.below hbr)
        have HAR2 := Lib.hid (HA2.out.below hbr)
        clear hbr
        by_cases hlj : j < pos.length
        · obtain ⟨k, hk⟩ : ∃ k, pos[j]? = some k := ⟨_, List.getElem?_eq_getElem hlj⟩
          obtain ⟨t, ht⟩ : ∃ t, A[j]? = some t := ⟨_, List.getElem?_eq_getElem (by have := HLE.out; omega)⟩
          obtain ⟨pb, po, rfl, hpl, ck⟩ := pos_cell HVR.out hk
          have HPA := Lib.hid (perm_at HP.out hk ht)
          have hjA : j < A.length := by have := HLE.out; omega
          by_cases hr : k < 0 ∨ (B.length : Int) ≤ k
          · have HE := Lib.hid (show permE B pos A = 2 by rw [HPA.out, if_pos hr])
            clear HPA hk ht
            rcases hr with hr | hr
            · go_wp2_with fail
              go_ret2
              exact ⟨HBR.out, Or.inl ⟨by rw [HR2.out, HE.out]; show (2 : Int) ≠ 0; decide, by rw [HR2.out, HE.out]; exact ⟨_, rfl⟩⟩⟩
            · by_cases hk0 : k < 0
              · exfalso; omega
              go_wp2_with fail
              go_ret2
              exact ⟨HBR.out, Or.inl ⟨by rw [HR2.out, HE.out]; show (2 : Int) ≠ 0; decide, by rw [HR2.out, HE.out]; exact ⟨_, rfl⟩⟩⟩
          · obtain ⟨n, rfl⟩ : ∃ n : Nat, k = n := ⟨k.toNat, by omega⟩
            have hn : n < B.length := by omega
            obtain ⟨u, hu⟩ : ∃ u, B[n]? = some u := ⟨_, List.getElem?_eq_getElem hn⟩
            have hn0 : ¬ (n : Int) < 0 := by omega
            have hn1 : ¬ (B.length : Int) ≤ (n : Int) := by omega
            have hn2 : (n : Int) < (B.length : Int) := by omega
            obtain ⟨_, h2 | ⟨ab, ao, rfl, hal, hac⟩⟩ := HAR.out
            · subst h2; simp at hjA
            obtain ⟨_, h2 | ⟨bb, bo, rfl, hbl, hbc⟩⟩ := HAR2.out
            · subst h2; simp at hn
            have ct := hac j t ht
            have cu := hbc n u hu
            simp only [strV] at ct cu
            have HPB := Lib.hid (show permE B pos A = if u ≠ t then 7 else permE B (pos.drop (j + 1)) (A.drop (j + 1)) by
              rw [HPA.out, if_neg hr, show ((n : Int)).toNat = n from rfl, hu]
              simp only [ne_eq, Option.some.injEq])
            clear HPA hr hac hbc
            by_cases hut : u = t
            · subst hut
              have HPN := Lib.hid (show PermTo B pos A (j + 1) by unfold PermTo; rw [HPB.out, if_neg (by simp)])
              have hq : (u != u) = false := by simp
              clear hk ht hu
              go_wp2_with fail
              go_quiet (fail)
              go_wp2_with fail
              go_roundw
              case rel => exact ⟨j + 1, by omega, by go_num, below_dn HBR1.out _, HPN⟩
              case measure => simp [RowKit.intOf]; omega
            · have HE := Lib.hid (show permE B pos A = 7 by rw [HPB.out, if_pos hut])
              have hq : (u != t) = true := by simp [hut]
              have hq2 : (u == t) = false := by rw [beq_eq_false_iff_ne]; exact hut
              clear hk ht hu hut
              go_wp2_with fail
              go_quiet (fail)
              go_wp2_with fail
              go_ret2
              exact ⟨below_dn HBR.out _, Or.inl ⟨by rw [HR2.out, HE.out]; show (7 : Int) ≠ 0; decide, by rw [HR2.out, HE.out]; exact ⟨_, rfl⟩⟩⟩
        · have HE := Lib.hid (perm_end HP.out (by omega))
          go_wp2_with fail
          go_ret2
          refine ⟨HBR.out, Or.inr ⟨by rw [HR2.out]; exact HE.out, a2, cap2, by rw [HR2.out]; rfl, by rw [HR2.out]; exact HAR2.out⟩⟩
    · have HR2 := Lib.hid (show permR pos all A = (8, []) by rw [HR.out, if_pos hle])
      have hle1 : ((pos.length : Int) != (A.length : Int)) = true := by simp; omega
      have hle2 : (pos.length != A.length) = true := by simp; omega
      have hle3 : (pos.length == A.length) = false := by rw [beq_eq_false_iff_ne]; exact hle
      have hle4 : ((pos.length : Int) == (A.length : Int)) = false := by rw [beq_eq_false_iff_ne]; omega
      clear hle
      go_wp2_with fail
      go_ret2
      exact ⟨HB1.out, Or.inl ⟨by rw [HR2.out]; show (8 : Int) ≠ 0; decide, by rw [HR2.out]; exact ⟨_, rfl⟩⟩⟩

set_option maxRecDepth 100000 in
set_option maxHeartbeats 1000000 in
theorem perm_calls (m : List UInt8) (hm : m.length ≤ 8388608) (pos : List Int) (pa : Option Addr) (pc : Nat) (all : List UInt8) (ha : all.length ≤ 8388608) (hp : pos.length ≤ 8388608) (w : World) (hv : ValsAt w pa pc (pos.map (fun k => .int .i64 k))) :
    Calls Tryd.prog 15 #[.string ⟨⟨m⟩⟩, .slice pa pos.length pc, .string ⟨⟨all⟩⟩] w (Exact w (permF m pos all)) := by
  obtain ⟨w1, hw1⟩ : ∃ w1, w1 = (w.alloc (.cells #[.slice pa pos.length pc] 22)).alloc (.cells #[.string ⟨⟨all⟩⟩] 9) := ⟨_, rfl⟩
  have hb1 : Below w.heap.size w w1 := by rw [hw1]; exact bl_alloc (bl_alloc (Below.refl _ _) _) _
  have hs1 : w1.heap.size = w.heap.size + 1 + 1 := by rw [hw1]; simp
  have c0 : w1.cell? ⟨w.heap.size, 0, none⟩ = some (.slice pa pos.length pc) := by rw [hw1]; simp
  have c1 : w1.cell? ⟨w.heap.size + 1, 0, none⟩ = some (.string ⟨⟨all⟩⟩) := by rw [hw1]; simp
  have hch := ch_perm m hm #[.pointer (some ⟨w.heap.size + 1, 0, none⟩), .pointer (some ⟨w.heap.size, 0, none⟩)] w1 (permR pos all) (permR_ty pos all) (fun A v W hA hl hb ho => perm1_calls pos pa pc all ha hp (w.heap.size + 1) w.heap.size w1 (by omega) (by omega) c1 c0 (hv.below hb1) A v W hl hb ho)
  have HC := Lib.hid hch
  have HB1 := Lib.hid hb1
  have hmf : ∀ (fn : Fn) (first cap : Array Value) (w : World), (Instr.makeFunc fn first cap).run Tryd.prog w = .ok (.func fn first cap) w := fun _ _ _ _ => rfl
  clear hch hb1 hs1 c0 c1 hv
  go_enter Tryd.func15, Tryd.ntmps15
  go_wp2_with fail
  rw [← hw1]
  refine HC.out.mono ?_
  rintro e w2 ⟨rfl, hb2⟩
  have HB2 := Lib.hid (bl_trans HB1.out hb2)
  clear hb2
  go_wp2_with fail
  go_ret2
  exact ⟨rfl, HB2.out⟩

/-- what filled tells: its error, or a row of one's own -/
def FillRes (r : Int × List (List UInt8)) (w : World) (e : Ending) (w' : World) : Prop :=
  Below w.heap.size w w' ∧ ((r.1 ≠ 0 ∧ e = .returned (.tuple #[.slice none 0 0, errV r.1])) ∨ (r.1 = 0 ∧ ∃ a cap, e = .returned (.tuple #[.slice a r.2.length cap, .nilIface]) ∧ SRow w' a cap r.2))

set_option maxRecDepth 100000 in
set_option maxHeartbeats 2000000 in
theorem filled_calls (m s : List UInt8) (hm : m.length ≤ 8388608) (hs : s.length ≤ 8388608) (i : Int) (many : Nat) (w : World) :
    Calls Tryd.prog 16 #[.string ⟨⟨m⟩⟩, .string ⟨⟨s⟩⟩, .int .i64 i, .int .i64 (many : Int)] w (FillRes (filledF m s i many) w) := by
  go_enter Tryd.func16, Tryd.ntmps16
  go_wp2_with fail
  refine (method_calls m hm _).mono ?_
  rintro e w1 ⟨hb1, ⟨rfl, hno⟩ | ⟨v, A, gv, rfl, hA, hown⟩⟩
  · have HR := Lib.hid (show filledF m s i many = (1, []) by unfold filledF; rw [methOf_none hno])
    clear hno
    go_wp2_with fail
    go_ret2
    exact ⟨hb1, Or.inl ⟨by rw [HR.out]; show (1 : Int) ≠ 0; decide, by rw [HR.out]; rfl⟩⟩
  · have HM := Lib.hid (methOf_some hA)
    obtain ⟨a, cap, rfl, hsr⟩ := srow_of_own hown
    have HA := Lib.hid hsr
    have HB1 := Lib.hid hb1
    have hl := hA.2.2.1
    clear hA hown hsr hb1
    by_cases hi : i < 0 ∨ (A.length : Int) ≤ i
    · have HR := Lib.hid (show filledF m s i many = (2, []) by unfold filledF; rw [HM.out]; simp only; rw [if_pos hi])
      rcases hi with hi | hi
      · go_wp2_with fail
        go_ret2
        exact ⟨HB1.out, Or.inl ⟨by rw [HR.out]; show (2 : Int) ≠ 0; decide, by rw [HR.out]; rfl⟩⟩
      · by_cases h0 : i < 0
        · exfalso; omega
        go_wp2_with fail
        go_ret2
        exact ⟨HB1.out, Or.inl ⟨by rw [HR.out]; show (2 : Int) ≠ 0; decide, by rw [HR.out]; rfl⟩⟩
    · obtain ⟨k, rfl⟩ : ∃ k : Nat, i = k := ⟨i.toNat, by omega⟩
      have hk : k < A.length := by omega
      have hk1 : ¬ (k : Int) < 0 := by omega
      have hk2 : ¬ (A.length : Int) ≤ (k : Int) := by omega
      have hk3 : (k : Int) < (A.length : Int) := by omega
      have HI := Lib.hid hi
      clear hi
      go_wp2_with fail
      refine (method_calls s hs _).mono ?_
      rintro e w2 ⟨hb2, ⟨rfl, hno⟩ | ⟨v, T, g, rfl, hT, hown⟩⟩
      · have HR := Lib.hid (show filledF m s k many = (1, []) by unfold filledF; rw [HM.out]; simp only; rw [if_neg HI.out, methOf_none hno])
        clear hno
        go_wp2_with fail
        go_ret2
        exact ⟨bl_trans HB1.out hb2, Or.inl ⟨by rw [HR.out]; show (1 : Int) ≠ 0; decide, by rw [HR.out]; rfl⟩⟩
      · have HR := Lib.hid (show filledF m s k many = if T.length ≠ many then (8, []) else if A[k]? ≠ some g then (7, []) else (0, T) by unfold filledF; rw [HM.out]; simp only; rw [if_neg HI.out, methOf_some hT]; rfl)
        obtain ⟨a2, cap2, rfl, hsr2⟩ := srow_of_own hown
        have HT := Lib.hid hsr2
        have HB2 := Lib.hid (bl_trans HB1.out hb2)
        have HA2 := Lib.hid (HA.out.below hb2)
        clear hT hown hsr2 hb2
        by_cases hn : T.length = many
        · have HN := Lib.hid hn
          have hn1 : ((T.length : Int) != (many : Int)) = false := by simp; omega
          have hn2 : (T.length != many) = false := by simp; omega
          clear hn
          obtain ⟨t, ht⟩ : ∃ t, A[k]? = some t := ⟨_, List.getElem?_eq_getElem hk⟩
          obtain ⟨_, h2 | ⟨ab, ao, rfl, hal, hac⟩⟩ := HA2.out
          · subst h2; simp at hk
          have ct := hac k t ht
          simp only [strV] at ct
          by_cases hgt : g = t
          · subst hgt
            have HR2 := Lib.hid (show filledF m s k many = (0, T) by rw [HR.out, if_neg (by simpa using HN.out), ht, if_neg (by simp)])
            have hq : (g != g) = false := by simp
            clear ht hac
            go_wp2_with fail
            go_ret2
            exact ⟨HB2.out, Or.inr ⟨by rw [HR2.out], a2, cap2, by rw [HR2.out]; rfl, by rw [HR2.out]; exact HT.out⟩⟩
          · have HR2 := Lib.hid (show filledF m s k many = (7, []) by rw [HR.out, if_neg (by simpa using HN.out), ht, if_pos (by simpa using fun e => hgt e.symm)])
            have hq : (g != t) = true := by simp [hgt]
            have hq2 : (g == t) = false := by rw [beq_eq_false_iff_ne]; exact hgt
            clear ht hac hgt
            go_wp2_with fail
            go_ret2
            exact ⟨HB2.out, Or.inl ⟨by rw [HR2.out]; show (7 : Int) ≠ 0; decide, by rw [HR2.out]; rfl⟩⟩
        · have HR2 := Lib.hid (show filledF m s k many = (8, []) by rw [HR.out, if_pos hn])
          have hn1 : ((T.length : Int) != (many : Int)) = true := by simp; omega
          have hn2 : (T.length != many) = true := by simp; omega
          have hn3 : (T.length == many) = false := by rw [beq_eq_false_iff_ne]; exact hn
          have hn4 : ((T.length : Int) == (many : Int)) = false := by rw [beq_eq_false_iff_ne]; omega
          clear hn
          go_wp2_with fail
          go_ret2
          exact ⟨HB2.out, Or.inl ⟨by rw [HR2.out]; show (8 : Int) ≠ 0; decide, by rw [HR2.out]; rfl⟩⟩
end Go.Proofs.YtkobgmacoakelaaDoor
