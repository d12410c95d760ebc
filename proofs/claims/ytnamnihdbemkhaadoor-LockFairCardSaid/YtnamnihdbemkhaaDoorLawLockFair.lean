/-
  LockFair: the walk of the law.
-/
import Derived.Test.YtnamnihdbemkhaaDoorLock3
import Derived.Test.YtnamnihdbemkhaaDoorLawNameLetters
namespace Go.Proofs.YtnamnihdbemkhaaDoor
set_option linter.unusedVariables false
set_option linter.unusedSimpArgs false
open Go.RowKit Go.Shelf Go.Lib

theorem own_kept_but {w w' : World} {B : Nat} {e : TypeId} {v : Value} {n : Nat} {xs : List Value} {S : Nat → Prop} (h : w.ownsRow B e 1 v n xs) (hk : KeptBut S w w') (hS : ∀ j, v.ownBlock = some j → ¬ S j) : w'.ownsRow B e 1 v n xs := by
  refine ⟨h.1, ?_⟩
  rcases h.2 with h2 | ⟨g, cap, cur, rfl, h3, hg, h4⟩
  · exact Or.inl h2
  · exact Or.inr ⟨g, cap, cur, rfl, h3, (hk.2.2.2.2 g (Array.getElem?_eq_some_iff.1 hg).1 (hS g rfl)).trans hg, h4⟩

set_option maxRecDepth 100000 in
set_option maxHeartbeats 2000000 in
theorem lockFair.walk (n : Int) (hn : (Lit.int .i64 n).wf = true) (what : Int) (hw : (Lit.int .i64 what).wf = true) (w : World) {L S : Prop} (_ : L) (_ : S) :
    Calls Tryd.prog 6 #[.int .i64 n, .int .i64 what] w fun e w' => e = .returned (.bool true) ∧ Below w.heap.size w w' := by
  go_enter Tryd.func6, Tryd.ntmps6
  go_wp2_with fail
  refine (named_true _).mono ?_
  rintro e w1 ⟨rfl, hb⟩
  go_wp2_with fail
  refine (new_locks _).mono ?_
  rintro e w2 ⟨rfl, hL, hM1, hM2, hb2⟩
  have HL := Lib.hid hL
  have HM1 := Lib.hid hM1
  have HM2 := Lib.hid hM2
  have HB := Lib.hid (bl_trans hb hb2)
  have HX := Lib.hid hb.size
  clear hL hM1 hM2 hb hb2
  obtain ⟨k1, hk1, e1⟩ := turn_lt n 20 (by omega) (by omega)
  obtain ⟨kk, hkk, e2⟩ := turn_lt what 50 (by omega) (by omega)
  obtain ⟨many, hm, hm2, hm22⟩ : ∃ many : Nat, many = 2 + k1 ∧ 2 ≤ many ∧ many < 22 := ⟨2 + k1, rfl, by omega, by omega⟩
  have e3 : wrap64 (2 + (k1 : Int)) = (many : Int) := by rw [IntWalk.wrap64_in _ (by omega)]; omega
  have E1 := Lib.hid e1
  have E2 := Lib.hid e2
  have E3 := Lib.hid e3
  clear e1 e2 e3 hm hk1
  obtain ⟨B, hBd⟩ : ∃ B, B = w.heap.size := ⟨_, rfl⟩
  have HS : Hid (Ph1 B w w2 (w1.heap.size + 2) w1.heap.size (w1.heap.size + 1) kk 0 (.slice none 0 0)) := by
    have h1 : B ≤ w1.heap.size := by rw [hBd]; exact HX.out
    exact ph1_start (by rw [hBd]; exact HB.out) (by rw [hBd]; exact HB.out.size) h1 (by omega) (by omega) HL.out HM1.out HM2.out
  have HBd := Lib.hid hBd
  clear hBd HL HM1 HM2 HB
  generalize hMM : w1.heap.size = M1 at HS HX ⊢
  clear hMM
  go_wp2_with fail
  have E1' : wrap64 ((IntKind.u64.wrap n).tmod 20) = (k1 : Int) := E1.out
  have E2' : wrap64 ((IntKind.u64.wrap what).tmod 50) = (kk : Int) := E2.out
  rw [E1', E2', E3.out]
  clear E1' E2'
  go_loopw [9, 10] (fun v i wr => ∃ k : Nat, k ≤ many ∧ i = .int .i64 k ∧ Ph1 B w wr (M1 + 2) M1 (M1 + 1) kk k v) (fun _ i _ => many - (RowKit.intOf i).toNat)
  case atStart => exact ⟨0, by omega, rfl, HS.out⟩
  case round =>
    obtain ⟨k, hk, rfl, hr⟩ := hrel
    by_cases hlk : k < many
    · rcases Nat.eq_zero_or_pos k with rfl | h1k
      · have hr0 := hr
        obtain ⟨hb, hB, h1, h2, hne, hL, ho, ⟨_, rfl, i1, i2⟩ | ⟨h0, _⟩⟩ := hr0
        · have HE := Lib.hid (enter_new hL i1 i2 (who := 0) (what := kk) (by omega) (by omega) (by omega) (by omega) rfl rfl)
          have HR := Lib.hid hr
          clear hr hb hB h1 h2 hne hL ho i1 i2
          have hm0 : (0 : Int) < (many : Int) := by omega
          go_wp2_with fail
          refine HE.out.mono ?_
          rintro e wa ⟨rfl, hK, hI, hkb⟩
          have HN := Lib.hid (ph1_first HR.out hK hI hkb)
          clear hK hI hkb HE HR
          go_wp2_with fail
          go_roundw
          case rel => exact ⟨1, by omega, rfl, HN.out⟩
          case measure => simp [RowKit.intOf]; omega
        · omega
      · have hr0 := hr
        obtain ⟨hb, hB, h1, h2, hne, hL, ho, ⟨h0, _⟩ | ⟨_, K, ws, f2, hBK, hK, hws, i1, i2, hf2, hap⟩⟩ := hr0
        · omega
        have hfk : putf (fun _ => none) (kk : Int) (.pointer (some ⟨K, 0, none⟩)) kk = some (.pointer (some ⟨K, 0, none⟩)) := putf_same _ _ _
        have hlen : (ints (up 1 (k - 1))).length = (up 1 (k - 1)).length := by simp [ints]
        have hlen2 := up_len (k - 1) 1
        have HE := Lib.hid (enter_wait hL i1 i2 (who := k) (what := kk) (by omega) (by omega) (by omega) (by omega) (hf2 _ (by omega)) hfk hK (by omega) (hlen ▸ hws) hB (by omega) (by omega))
        have HR := Lib.hid (⟨hb, hB, h1, h2, hne, hL, ho, hBK, hK, hws, i1, i2, hf2, hap⟩ : Below B w wr ∧ B ≤ wr.heap.size ∧ B ≤ M1 ∧ B ≤ M1 + 1 ∧ M1 ≠ M1 + 1 ∧ LocksAt wr (M1 + 2) M1 (M1 + 1) ∧ wr.ownsRow B 3 1 u9 (up 1 (k - 1)).length (ints (up 1 (k - 1))) ∧
          B ≤ K ∧ LockAt wr K 0 1 ws ∧ wr.ownsRow B 3 1 ws (up 1 (k - 1)).length (ints (up 1 (k - 1))) ∧ IMap wr M1 1 (putf (fun _ => none) kk (.pointer (some ⟨K, 0, none⟩))) ∧ IMap wr (M1 + 1) (k - 1) f2 ∧ (∀ z : Int, z < 1 ∨ (k : Int) ≤ z → f2 z = none) ∧ (∀ g, ws.ownBlock = some g → u9.ownBlock ≠ some g))
        clear hr hb hB h1 h2 hne hL ho hBK hK hws i1 i2 hf2 hap hfk
        have HL := Lib.hid hlen2
        clear hlen hlen2
        have hk0 : (0 : Int) < (k : Int) := by omega
        have hkm : (k : Int) < (many : Int) := by omega
        go_wp2_with fail
        refine HE.out.mono ?_
        rintro e wa ⟨rfl, v1, hK1, ho1, hap1, hI1, hkb⟩
        have how : wa.ownsRow B 3 1 u9 (up 1 (k - 1)).length (ints (up 1 (k - 1))) := by
          obtain ⟨_, _, _, _, _, _, ho, _, hK, hws, _, i2, _, hap⟩ := HR.out
          exact own_kept_but ho hkb (fun j hj hS => by
            rcases hS with rfl | rfl | hS
            · obtain ⟨o2, p2, q2⟩ := i2.block
              exact own_apart ho p2 (fun cs fr => q2 cs _ fr) hj
            · exact own_apart ho hK (by simp) hj
            · exact hap j hS hj)
        have HO := Lib.hid how
        have HN := Lib.hid (⟨hK1, ho1, hap1, hI1, hkb⟩ : _ ∧ _ ∧ _ ∧ _ ∧ _)
        clear how hK1 ho1 hap1 hI1 hkb
        obtain ⟨i0, hi, hz0, hz1, hz2⟩ := info_parts info_int
        go_wp2_with (at_builtin; refine wpList_append_lies _ rfl _ _ 38 rfl B 3 i0 (.int .i64 0) 1 8 Tryd.underlying38 hi hz0 hz1 hz2 rfl (by decide) u9 _ _ rfl (HO.out.alloc _) ⟨wa.heap.size, 0, none⟩ 1 1 [.int .i64 k] rfl rfl ?c1 ?c2 (by decide) ?c3 ?c4 ?c5 _ rfl ?_)
        case c1 => exact fun j v hj => new_cells wa [.int .i64 k] 3 j v hj
        case c2 => intro x hx; simp only [List.mem_cons, List.mem_nil_iff, or_false] at hx; rcases hx with rfl; rfl
        case c3 => have := HL.out; unfold maxLen; omega
        case c4 => have := HL.out; omega
        case c5 => obtain ⟨_, hB, _⟩ := HR.out; have := HN.out.2.2.2.2.1; simp; omega
        intro g cap wb ho2 hg hat _
        have HM : Hid (Ph1 B w wb (M1 + 2) M1 (M1 + 1) kk (k + 1) (.slice (some ⟨g, 0, none⟩) ((up 1 (k - 1)).length + 1) cap)) := by
          obtain ⟨hb, hB, h1, h2, hne, hL, ho, hBK, hK, hws, i1, i2, hf2, hap⟩ := HR.out
          obtain ⟨hK1, ho1, hap1, hI1, hkb⟩ := HN.out
          exact ph1_next h1k hb hB h1 h2 hne hL ho hBK hK hws i1 i2 hf2 hap hK1 ho1 hap1 hI1 hkb ho2 hg hat
        clear ho2 hg hat HR HN HO HE
        go_wp2_with fail
        go_roundw
        case rel => exact ⟨k + 1, by omega, by go_num, HM.out⟩
        case measure => simp [RowKit.intOf]; omega
    · obtain rfl : k = many := by omega
      have HP := Lib.hid (ph1_end hr hm2)
      clear hr HS hk hlk
      go_wp2_with fail
      go_loopw [9, 13] (fun v i wr => ∃ j : Nat, j ≤ k ∧ i = .int .i64 j ∧ Ph2 B w wr (M1 + 2) M1 (M1 + 1) kk k j v) (fun _ i _ => k - (RowKit.intOf i).toNat)
      case atStart => exact ⟨0, by omega, rfl, HP.out⟩
      case round =>
        obtain ⟨j, hj, rfl, hr⟩ := hrel
        clear HP
        by_cases hlj : j < k
        · have hr0 := hr
          obtain ⟨hb, hB, h1, h2, hne, hL, n2, f2, i2, hf2, ⟨_, K, ws, hBK, hK, i1, r1, r2⟩ | ⟨h0, _⟩⟩ := hr0
          rotate_left
          · omega
          have hlen2 := up_len (k - 1 - j) (j + 1)
          have HW := Lib.hid (waiting_has hL i1 (what := kk) (by omega) (by omega) (putf_same _ _ _) hK r1.nrow (by omega))
          have HR := Lib.hid hr
          have HR2 := Lib.hid r2
          have HLL := Lib.hid hlen2
          clear hr hb hB h1 h2 hne hL i2 hf2 hBK hK i1 r1 r2 hlen2
          have hj0 : (j : Int) < (k : Int) := by omega
          go_wp2_with fail
          refine HW.out.mono ?_
          rintro e wa ⟨v1, rfl, ho, hba⟩
          have HI := Lib.hid (ints_same (NRow.of_own ho) (HR2.out.below hba).nrow (by have := HLL.out; omega))
          have HRa := Lib.hid (HR.out.below hba)
          clear ho hba HW HR HR2
          go_wp2_with fail
          refine HI.out.mono ?_
          rintro e wb ⟨rfl, hbb⟩
          have HRb := Lib.hid (HRa.out.below hbb)
          clear hbb HI HRa
          go_wp2_with fail
          obtain ⟨hb, hB, h1, h2, hne, hL, n2, f2, i2, hf2, ⟨_, K, ws, hBK, hK, i1, r1, r2⟩ | ⟨h0, _⟩⟩ := HRb.out
          rotate_left
          · omega
          by_cases hn1 : j + 1 < k
          · rw [up_rest hn1] at r1 r2
            have hl := up_len (k - 1 - (j + 1)) (((j + 1 : Nat) : Int) + 1)
            generalize hxs : up (((j + 1 : Nat) : Int) + 1) (k - 1 - (j + 1)) = xs at r1 r2 hl
            obtain ⟨a, c, rfl, hle, h | ⟨g, o, cs, rfl, hg, hc⟩⟩ := r1
            · cases h
            obtain ⟨a', c', rfl, hle', h | ⟨g', o', cs', rfl, hg', hc'⟩⟩ := r2
            · cases h
            obtain ⟨c, rfl⟩ : ∃ d, c = d + 1 := ⟨c - 1, by simp at hle; omega⟩
            obtain ⟨c', rfl⟩ : ∃ d, c' = d + 1 := ⟨c' - 1, by simp at hle'; omega⟩
            have hgK : g ≠ K := by intro e; rw [e] at hg; unfold LockAt at hK; rw [hK] at hg; simp at hg
            have HV := Lib.hid (leave_next hL i1 i2 (who := j) (what := kk) (nx := (j : Int) + 1) (by omega) (by omega) (by omega) (by omega) (by omega) (by omega) (hf2 _ (by omega)) (putf_same _ _ _) hK (by simpa using hle) (hc 0 _ rfl) hgK)
            have R1 : ∀ ad : Option Addr, (ad = if c = 0 then some ⟨g, o, none⟩ else some ⟨g, o + 1, none⟩) → Rest wb (.slice ad xs.length c) xs := fun ad had => Rest.tail (by simpa using hle) (Or.inr ⟨cs, hg, hc⟩) had
            have R2 : ∀ ad : Option Addr, (ad = if c' = 0 then some ⟨g', o', none⟩ else some ⟨g', o' + 1, none⟩) → Rest wb (.slice ad xs.length c') xs := fun ad had => Rest.tail (by simpa using hle') (Or.inr ⟨cs', hg', hc'⟩) had
            have HF : Hid (∀ (w' : World), LockAt w' K ((j : Int) + 1) 1 (.slice (if c = 0 then some ⟨g, o, none⟩ else some ⟨g, o + 1, none⟩) xs.length c) → IMap w' (M1 + 1) n2 (delf f2 ((j : Int) + 1)) → KeptBut (fun b => b = M1 + 1 ∨ b = K) wb w' →
                ∀ ad : Option Addr, (ad = if c' = 0 then some ⟨g', o', none⟩ else some ⟨g', o' + 1, none⟩) → Ph2 B w w' (M1 + 2) M1 (M1 + 1) kk k (j + 1) (.slice ad xs.length c')) := by
              intro w' hK' hi' hk' ad had
              exact ph2_next hn1 hb hB h1 h2 hne hL i2 hf2 hBK hK i1 (hxs ▸ R1 _ rfl) (hxs ▸ R2 ad had) hK' hi' hk'
            clear hb hB h1 h2 hne hL i2 hf2 hBK hK i1 hxs R1 R2 hg hc hg' hc' hle hle' HRb hgK
            refine HV.out.mono ?_
            rintro e wc ⟨rfl, hK', hi', hk'⟩
            have HG := Lib.hid (HF.out wc hK' hi' hk')
            clear hK' hi' hk' HF HV hl HLL
            have hx0 : (0 : Int) < ((xs.length : Nat) : Int) + 1 := by omega
            have hx1 : (1 : Int) ≤ ((xs.length : Nat) : Int) + 1 := by omega
            go_wp2_with fail
            go_roundw
            case rel => exact ⟨j + 1, by omega, by go_num, HG.out _ rfl⟩
            case measure => simp [RowKit.intOf]; omega
          · obtain rfl : k = j + 1 := by omega
            rw [show j + 1 - 1 - j = 0 by omega] at r1 r2
            obtain ⟨a, c, rfl, _, _⟩ := r1
            obtain ⟨a', c', rfl, _, _⟩ := r2
            have HV := Lib.hid (leave_last hL i1 i2 (who := j) (what := kk) (by omega) (by omega) (by omega) (by omega) (hf2 _ (by omega)) (putf_same _ _ _) hK)
            have HF : Hid (∀ (w' : World), IMap w' M1 1 (delf (putf (fun _ => none) kk (.pointer (some ⟨K, 0, none⟩))) kk) → KeptBut (fun b => b = M1 ∨ b = K) wb w' →
                ∀ v, Ph2 B w w' (M1 + 2) M1 (M1 + 1) kk (j + 1) (j + 1) v) := by
              intro w' hi' hk' v
              exact ph2_last rfl hb hB h1 h2 hne hL i2 hf2 hBK hK i1 hi' hk'
            clear hb hB h1 h2 hne hL i2 hf2 hBK hK i1 HRb
            refine HV.out.mono ?_
            rintro e wc ⟨rfl, hi', hk'⟩
            have HG := Lib.hid (HF.out wc hi' hk')
            clear hi' hk' HF HV HLL
            go_wp2_with fail
            go_roundw
            case rel =>
              repeat apply Exists.intro
              exact ⟨⟨j + 1, by omega, by go_num, HG.out _⟩, rfl⟩
            case measure => simp [RowKit.intOf]
        · obtain rfl : j = k := by omega
          obtain ⟨hb, hB, h1, h2, hne, hL, n2, f2, i2, hf2, ⟨h0, _⟩ | ⟨_, f1, i1, hf1⟩⟩ := hr
          · omega
          have HW := Lib.hid (waiting_none hL i1 (what := kk) (by omega) (by omega) hf1)
          have HV := Lib.hid (leave_none hL i1 i2 (who := 0) (what := kk) (by omega) (by omega) (by omega) (by omega) (hf2 0 (by omega)) hf1)
          have HBB := Lib.hid hb
          clear hb hB h1 h2 hne hL i2 hf2 i1 hf1 hlj
          go_wp2_with fail
          refine HW.out.mono ?_
          rintro e wa ⟨rfl, rfl⟩
          go_wp2_with fail
          refine HV.out.mono ?_
          rintro e wb ⟨rfl, rfl⟩
          go_wp2_with fail
          go_ret
          exact ⟨rfl, by rw [← HBd.out]; exact HBB.out⟩
end Go.Proofs.YtnamnihdbemkhaaDoor
