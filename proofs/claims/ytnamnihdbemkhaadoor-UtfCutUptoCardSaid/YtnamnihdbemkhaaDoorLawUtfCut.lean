/-
  UtfCut: a prefix of an encoding decodes to the first units, or to none; the walk of the law, up to the given bulk.
-/
import Derived.Test.YtnamnihdbemkhaaDoorUtf3
import Derived.Test.YtnamnihdbemkhaaDoorFrame
import Derived.Lib.QuietBelow
import Derived.BigQuiet
import Derived.Test.YtnamnihdbemkhaaDoorLawNameLetters
namespace Go.Proofs.YtnamnihdbemkhaaDoor
set_option linter.unusedVariables false
set_option linter.unusedSimpArgs false
open Go.RowKit Go.Shelf Go.Lib

/-- how the law's own bytes lie -/
def Cut (zs : List Int) (W : World) (vb : Value) : Prop :=
  (vb = .slice none 0 0 ∧ zs = []) ∨ ∃ g cap, vb = .slice (some ⟨g, 0, none⟩) (enc zs).length cap ∧ g < W.heap.size ∧ (enc zs).length ≤ cap ∧ ∀ i, i < (enc zs).length → W.cell? ⟨g, i, none⟩ = some (.int .u8 ((enc zs).getD i 0))

theorem cut_of {zs : List Int} {B : Nat} {w w' : World} {v : Value} (h : EncRel zs B w zs.length v w') : Cut zs w' v := by
  obtain ⟨h, _⟩ := h
  rw [List.take_length] at h
  rcases h.2 with ⟨rfl, hn⟩ | ⟨g, cap, cur, rfl, _, hg, hle, _, _, _⟩
  · left
    refine ⟨rfl, ?_⟩
    have := (enc_len zs).1
    exact List.eq_nil_of_length_eq_zero (by omega)
  · right
    refine ⟨g, cap, rfl, (Array.getElem?_eq_some_iff.1 hg).1, hle, fun i hi => ?_⟩
    have := h.cells (g := g) rfl i (.int .u8 ((enc zs).getD i 0)) (by
      rw [List.getElem?_map, List.getElem?_eq_getElem hi]
      simp [List.getD, List.getElem?_eq_getElem hi])
    have e : (⟨g, 0, none⟩ : Addr).add i = ⟨g, i, none⟩ := by unfold Addr.add; split <;> simp_all
    rwa [e] at this

set_option maxRecDepth 100000 in
theorem encode_empty (a : Option Addr) (cap : Nat) (w : World) : Calls Tryd.prog 16 #[.slice a 0 cap] w fun e w' => ∃ v, e = .returned v ∧ EncRel [] w.heap.size w 0 v w' := by
  go_enter Tryd.func16, Tryd.ntmps16
  go_wp2_with fail
  refine wp_loop_rounds 1 ?_
  rw [rounds_succ]
  go_wp2_with fail
  go_ret
  exact ⟨_, rfl, by simpa [enc] using World.ownsRow_nil w w.heap.size _ 1, Below.refl _ _⟩

/-- Encode at the argument of the law -/
theorem encode_arg (zs : List Int) (a : Option Addr) (cap : Nat) (w : World) (hl : zs.length ≤ 1048576) (hu : ∀ i, i < zs.length → 0 ≤ zs.getD i 0 ∧ zs.getD i 0 < 65536)
    (h : zs = [] ∨ ∃ b off, a = some ⟨b, off, none⟩ ∧ b < w.heap.size ∧ ∀ i, i < zs.length → w.cell? ⟨b, off + i, none⟩ = some (.int .u16 (zs.getD i 0))) :
    Calls Tryd.prog 16 #[.slice a zs.length cap] w fun e w' => ∃ v, e = .returned v ∧ EncRel zs w.heap.size w zs.length v w' := by
  rcases h with rfl | ⟨b, off, rfl, hb, hc⟩
  · exact encode_empty a cap w
  · exact encode_calls zs b off cap w (by omega) hb hu hc

theorem decode_arg (bs : List Int) (g cap : Nat) (w : World) (hm : bs.length ≤ 1152921504606) (hby : ∀ x ∈ bs, 0 ≤ x ∧ x < 256) (hcap : bs.length ≤ cap) (hlt : g < w.heap.size)
    (hc : ∀ i, i < bs.length → w.cell? ⟨g, i, none⟩ = some (.int .u8 (bs.getD i 0))) :
    Calls Tryd.prog 17 #[.slice (some ⟨g, 0, none⟩) bs.length cap] w fun e w' => DecRes bs w e w' :=
  decode_some bs g 0 cap w hm hby hcap hlt (fun i hi => by rw [Nat.zero_add]; exact hc i hi)

/-- what the last Encode leaves: its text is the law's own prefix -/
def LastRel (bs : List Int) (w : World) (v : Value) (w1 : World) : Prop :=
  Below w.heap.size w w1 ∧ (convert 27 9 v).run Tryd.prog w1 = .ok (.string (strOfNums bs)) w1

theorem last_of {us bs : List Int} {w w' : World} {v : Value} (he : enc us = bs) (h : EncRel us w.heap.size w us.length v w') : LastRel bs w v w' := by
  refine ⟨h.2, ?_⟩
  have := conv_own w' _ v _ _ h.1
  rw [List.take_length, he] at this
  exact this

set_option maxRecDepth 100000 in
set_option maxHeartbeats 4000000 in
theorem utfCut_go (zs : List Int) (a : Option Addr) (cap : Nat) (n : Int) (w : World) (hl : zs.length ≤ 1048576) (hcap : zs.length ≤ cap) (hu : ∀ x ∈ zs, 0 ≤ x ∧ x < 65536)
    (h : zs = [] ∨ ∃ b off, a = some ⟨b, off, none⟩ ∧ b < w.heap.size ∧ ∀ i, i < zs.length → w.cell? ⟨b, off + i, none⟩ = some (.int .u16 (zs.getD i 0))) :
    Calls Tryd.prog 5 #[.slice a zs.length cap, .int .i64 n] w fun e w' => e = .returned (.bool true) ∧ Below w.heap.size w w' := by
  have hu' : ∀ i, i < zs.length → 0 ≤ zs.getD i 0 ∧ zs.getD i 0 < 65536 := fun i hi => hu _ (by rw [List.getD, List.getElem?_eq_getElem hi]; exact List.getElem_mem _)
  have HU := Lib.hid hu
  have HU' := Lib.hid hu'
  have HA := Lib.hid h
  have hen := (enc_len zs).2
  have HEN := Lib.hid hen
  clear hu hu' h hen
  go_enter Tryd.func5, Tryd.ntmps5
  go_wp2_with fail
  refine (named_true _).mono ?_
  rintro e w1 ⟨rfl, hb1⟩
  have ha1 : zs = [] ∨ ∃ b off, a = some ⟨b, off, none⟩ ∧ b < w1.heap.size ∧ ∀ i, i < zs.length → w1.cell? ⟨b, off + i, none⟩ = some (.int .u16 (zs.getD i 0)) := by
    rcases HA.out with h | ⟨b, off, h1, h2, h3⟩
    · exact Or.inl h
    · exact Or.inr ⟨b, off, h1, Nat.lt_of_lt_of_le h2 hb1.size, fun i hi => by rw [hb1.cell (p := ⟨b, off + i, none⟩) h2]; exact h3 i hi⟩
  have HA1 := Lib.hid ha1
  have HB1 := Lib.hid hb1
  clear ha1 hb1 HA
  go_wp2_with fail
  refine (encode_arg zs a cap w1 hl HU'.out HA1.out).mono ?_
  rintro e w2 ⟨vb, rfl, hr⟩
  have HC := Lib.hid (cut_of hr)
  have HB2 := Lib.hid (bl_trans HB1.out hr.2)
  have HB12 := Lib.hid hr.2
  clear hr HB1
  rcases HC.out with ⟨rfl, rfl⟩ | ⟨g, cb, rfl, hg, hcb, hcell⟩
  · clear HC HA1 HU HU' HEN
    go_wp2_with fail
    refine (decode_nil w2).mono ?_
    rintro e w3 ⟨hb3, ⟨rfl, hne⟩ | ⟨vu, rfl, us, hown, hus, heu⟩⟩
    · exact absurd rfl hne
    · have hu0 : us = [] := by
        have := (enc_len us).1
        rw [heu] at this
        simp at this
        exact this
      subst hu0
      obtain ⟨A2, C2, hvu⟩ : ∃ A2 C2, vu = .slice A2 0 C2 := by
        rcases hown.2 with ⟨h, _⟩ | ⟨g2, c2, _, h, _⟩
        · exact ⟨_, _, h⟩
        · exact ⟨_, _, h⟩
      have HB3 := Lib.hid (bl_trans HB2.out hb3)
      clear hown hus heu hb3
      subst hvu
      go_wp2_with fail
      refine wp_loop_rounds 1 ?_
      rw [rounds_succ]
      go_wp2_with fail
      have hq0 : ∀ (W : World) (C : Nat), (convert 27 9 (.slice none 0 C)).run Tryd.prog W = .ok (.string (strOfNums [])) W := fun W C =>
        run_convert_bytes_nil (P := Tryd.prog) W 27 5 Tryd.underlying27 Tryd.underlying5 0 C 9 Tryd.underlying9
      have hlast : Calls Tryd.prog 16 #[.slice A2 0 C2] w3.drew fun e w' => ∃ v, e = .returned v ∧ LastRel [] w3.drew v w' :=
        (encode_empty A2 C2 w3.drew).mono fun e w' ⟨v, h1, h2⟩ => ⟨v, h1, last_of (us := []) (by simp [enc]) h2⟩
      have HL := Lib.hid hlast
      clear hlast
      go_region_with (go_at_call 16; refine HL.out.mono ?_; rintro e w4 ⟨v4, rfl, hrel⟩; have hq4 := hrel.2; have HRL := Lib.hid hrel.1; clear hrel)
      all_goals
        go_wp2_with fail
        go_ret
        exact ⟨ret_bool (by simp), bl_trans HB3.out (bl_trans (Below.refl _ _).drew HRL.out)⟩
  · have HCELL := Lib.hid hcell
    have hL := HEN.out
    generalize hLe : (enc zs).length = L at hcb hL
    have HLE := Lib.hid hLe
    clear hcell hLe HC
    obtain ⟨k, hk, e⟩ := turn_lt n (L + 1) (by omega) (by omega)
    have hdec : Calls Tryd.prog 17 #[.slice (some ⟨g, 0, none⟩) k cb] w2 fun e w' => DecRes ((enc zs).take k) w2 e w' := by
      have hle := HLE.out
      have hlen : ((enc zs).take k).length = k := by rw [List.length_take]; omega
      have := decode_arg ((enc zs).take k) g cb w2 (by omega) (fun x hx => enc_byte zs HU.out x (List.mem_of_mem_take hx)) (by omega) hg (fun i hi => by
        rw [HCELL.out i (by omega)]
        simp [List.getD, List.getElem?_take, show i < k by omega])
      rwa [hlen] at this
    have HD := Lib.hid hdec
    clear hdec
    have e' : wrap64 ((IntKind.u64.wrap n).tmod ((L : Int) + 1)) = (k : Int) := by simpa using e
    clear e
    go_wp2_with fail
    refine HD.out.mono ?_
    rintro e w3 ⟨hb3, ⟨rfl, hne⟩ | ⟨vu, rfl, us, hown, hus, heu⟩⟩
    · have hk0 : 0 < k := by
        rcases Nat.eq_zero_or_pos k with h | h
        · subst h; simp at hne
        · exact h
      clear hne
      go_wp2_with fail
      go_ret
      exact ⟨ret_bool (by simp), bl_trans HB2.out hb3⟩
    · have hpre := enc_prefix us zs hus HU.out ((enc zs).drop k) (by rw [heu, List.take_append_drop])
      have HP := Lib.hid hpre.1
      have hle := hpre.2
      have HB3 := Lib.hid (bl_trans HB2.out hb3)
      have HV : Hid (∀ W : World, Below w3.heap.size w3 W → ∀ c, (convert 27 9 (.slice (some ⟨g, 0, none⟩) k c)).run Tryd.prog W = .ok (.string (strOfNums ((enc zs).take k))) W) := by
        intro W hW c
        refine conv_row W g 0 k c ((enc zs).take k) (by have := HLE.out; rw [List.length_take]; omega) (fun i hi => ?_)
        have h2 := bl_trans hb3 hW
        have hle2 := HLE.out
        rw [Nat.zero_add, h2.cell (p := ⟨g, i, none⟩) hg, HCELL.out i (by omega)]
        simp [List.getD, List.getElem?_take, hi]
      have HEU := Lib.hid heu
      have HUS := Lib.hid hus
      have HB23 := Lib.hid hb3
      have HO := Lib.hid hown
      clear hpre hb3 heu hus hown
      by_cases hu0 : us = []
      · subst hu0
        obtain ⟨A2, C2, hvu⟩ : ∃ A2 C2, vu = .slice A2 0 C2 := by
          rcases HO.out.2 with ⟨h, _⟩ | ⟨g2, c2, _, h, _⟩
          · exact ⟨_, _, h⟩
          · exact ⟨_, _, h⟩
        clear HO
        subst hvu
        go_wp2_with fail
        refine wp_loop_rounds 1 ?_
        rw [rounds_succ]
        go_wp2_with fail
        have hq1 := HV.out w3.drew (Below.refl _ _).drew
        have hlast : Calls Tryd.prog 16 #[.slice A2 0 C2] w3.drew fun e w' => ∃ v, e = .returned v ∧ LastRel ((enc zs).take k) w3.drew v w' :=
          (encode_empty A2 C2 w3.drew).mono fun e w' ⟨v, h1, h2⟩ => ⟨v, h1, last_of (us := []) HEU.out h2⟩
        have HL := Lib.hid hlast
        clear hlast
        go_region_with (go_at_call 16; refine HL.out.mono ?_; rintro e w4 ⟨v4, rfl, hrel⟩; have hq3 := HV.out w4 (bl_trans (Below.refl _ _).drew hrel.1); have hq4 := hrel.2; have HRL := Lib.hid hrel.1; clear hrel)
        all_goals
          go_wp2_with fail
          go_ret
          exact ⟨ret_bool (by simp), bl_trans HB3.out (bl_trans (Below.refl _ _).drew HRL.out)⟩
      · have hul : 0 < us.length := List.length_pos_iff.2 hu0
        rcases HA1.out with rfl | ⟨b, off, rfl, hbl, hcl⟩
        · simp only [List.length_nil] at hle; omega
        · have hcl3 : ∀ i, i < zs.length → w3.cell? ⟨b, off + i, none⟩ = some (.int .u16 (zs.getD i 0)) := fun i hi => by
            rw [(bl_trans HB12.out HB23.out).cell (p := ⟨b, off + i, none⟩) hbl]; exact hcl i hi
          have hbl3 : b < w3.heap.size := Nat.lt_of_lt_of_le hbl (bl_trans HB12.out HB23.out).size
          obtain ⟨g2, c2, hvu, hg2, hcu⟩ : ∃ g2 c2, vu = .slice (some ⟨g2, 0, none⟩) us.length c2 ∧ g2 < w3.heap.size ∧ ∀ i, i < us.length → w3.cell? ⟨g2, i, none⟩ = some (.int .u16 (zs.getD i 0)) := by
            rcases HO.out.2 with ⟨_, h⟩ | ⟨g2, c2, cur, hv, _, hg, _, _, _, _⟩
            · omega
            · subst hv
              refine ⟨g2, c2, rfl, (Array.getElem?_eq_some_iff.1 hg).1, fun i hi => ?_⟩
              have := HO.out.cells (g := g2) rfl i (.int .u16 (zs.getD i 0)) (by
                rw [List.getElem?_map, List.getElem?_eq_getElem hi]
                have e1 : us[i] = zs.getD i 0 := by
                  have h1 : us[i]? = zs[i]? := by rw [HP.out, List.getElem?_take, if_pos hi]
                  rw [List.getElem?_eq_getElem hi] at h1
                  rw [List.getD, ← h1]; rfl
                simp [e1])
              have e : (⟨g2, 0, none⟩ : Addr).add i = ⟨g2, i, none⟩ := by unfold Addr.add; split <;> simp_all
              rwa [e] at this
          subst hvu
          have hgu : ∀ i, i < us.length → us.getD i 0 = zs.getD i 0 := fun i hi => by
            have h1 : us[i]? = zs[i]? := by rw [HP.out, List.getElem?_take, if_pos hi]
            rw [List.getD, List.getD, h1]
          have HGU := Lib.hid hgu
          have HCL := Lib.hid hcl3
          have HCU := Lib.hid hcu
          clear hcl hcl3 hcu HO HP hgu HA1
          go_wp2_with fail
          go_loopw [10] (fun i wr => ∃ j : Nat, j ≤ us.length ∧ i = .int .i64 j ∧ Below w3.heap.size w3 wr) (fun i _ => us.length - (RowKit.intOf i).toNat)
          case atStart => exact ⟨0, by omega, rfl, Below.refl _ _⟩
          case round =>
            obtain ⟨j, hj, rfl, hwr⟩ := hrel
            have HWR := Lib.hid hwr
            clear hwr
            by_cases hlt : j < us.length
            · have c1 : wr.cell? ⟨g2, j, none⟩ = some (.int .u16 (zs.getD j 0)) := by
                rw [HWR.out.cell (p := ⟨g2, j, none⟩) hg2]; exact HCU.out j hlt
              have c3 : wr.cell? ⟨b, off + j, none⟩ = some (.int .u16 (zs.getD j 0)) := by
                rw [HWR.out.cell (p := ⟨b, off + j, none⟩) hbl3]; exact HCL.out j (by omega)
              have d1 : decide ((zs.length : Int) ≤ (j : Int)) = false := by simp; omega
              have d2 : decide (zs.length ≤ j) = false := by simp; omega
              have i0 : (0 : Int) ≤ (j : Int) := by omega
              have i1 : (j : Int) < (us.length : Int) := by omega
              have i2 : (j : Int) < (zs.length : Int) := by omega
              generalize zs.getD j 0 = x at c1 c3
              go_wp2_with fail
              go_quiet (fail)
              go_wp2_with fail
              go_roundw
              case rel => exact ⟨j + 1, by omega, by go_num, HWR.out.trans ⟨rfl, rfl, rfl, Nat.le_refl _, fun _ _ => rfl⟩⟩
              case measure => simp [RowKit.intOf]; omega
            · obtain rfl : j = us.length := by omega
              clear hlt
              go_wp2_with fail
              have hq1 := HV.out wr.drew HWR.out.drew
              have hlast : Calls Tryd.prog 16 #[.slice (some ⟨g2, 0, none⟩) us.length c2] wr.drew fun e w' => ∃ v, e = .returned v ∧ LastRel ((enc zs).take k) wr.drew v w' := by
                refine (encode_calls us g2 0 c2 wr.drew (by omega) (Nat.lt_of_lt_of_le hg2 HWR.out.size) (fun i hi => HUS.out _ (by rw [List.getD, List.getElem?_eq_getElem hi]; exact List.getElem_mem _)) (fun i hi => ?_)).mono fun e w' ⟨v, h1, h2⟩ => ⟨v, h1, last_of HEU.out h2⟩
                rw [World.cell?_drew, Nat.zero_add, HWR.out.cell (p := ⟨g2, i, none⟩) hg2, HGU.out i hi]
                exact HCU.out i hi
              have HL := Lib.hid hlast
              clear hlast
              go_region_with (go_at_call 16; refine HL.out.mono ?_; rintro e w4 ⟨v4, rfl, hrel⟩; have hq3 := HV.out w4 (bl_trans HWR.out.drew hrel.1); have hq4 := hrel.2; have HRL := Lib.hid hrel.1; clear hrel)
              all_goals
                go_wp2_with fail
                go_ret
                exact ⟨ret_bool (by simp), bl_trans HB3.out (bl_trans HWR.out.drew HRL.out)⟩

set_option maxRecDepth 100000 in
theorem utfCut.walk {H : Type} {enc : TypeId × Value → H} {W : World} {base : Nat} {v0 : Value} {d0 : DataW H} {p0 : List MemPlace} (hv : Value.okWide Tryd.prog W .any base 30 v0) (h0 : DataW.Trod enc Tryd.prog W 0 (fun _ => true) true 30 v0 d0 p0)
    (n : Int) (hn : (Lit.int .i64 n).wf = true) (W' : World) (hW : W' = W) {L S : Prop} (_ : L) (_ : S) (hbulk : Rows.uptoBulkAll [d0, DataW.lit (.int .i64 n)] ≤ 1048576) :
    Calls Tryd.prog 5 #[v0, .int .i64 n] W' fun e w' => e = .returned (.bool true) ∧ Below W'.heap.size W' w' := by
  subst hW
  obtain ⟨a, cap, zs, rfl, hcap, hwz, _, hrow, hd⟩ := open_int_row Tryd.underlying30 Tryd.underlying34 (by kernel_rfl) hv h0
  have hu : ∀ x ∈ zs, 0 ≤ x ∧ x < 65536 := by
    intro x hx
    have := hwz x hx
    have h : 0 ≤ x ∧ x ≤ 65535 := by simpa [Lit.wf, IntKind.min, IntKind.max, IntKind.signed, IntKind.bits] using this
    omega
  have hl : zs.length ≤ 1048576 := by
    rcases hd with ⟨_, rfl⟩ | ⟨es, sp, rfl, hes⟩
    · simp
    · have h1 := bulk_slice es sp
      have h2 : Rows.uptoBulk (DataW.slice es sp) ≤ 1048576 := by
        simp only [Rows.uptoBulkAll] at hbulk
        omega
      omega
  refine utfCut_go zs a cap n W' hl hcap hu ?_
  rcases hrow with ⟨h, _, _⟩ | h | h
  · exact Or.inl h
  · exact Or.inl h
  · exact Or.inr h
end Go.Proofs.YtnamnihdbemkhaaDoor
