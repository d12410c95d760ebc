/-
  JoinSupers: the walks of the reference's ClassIn, ClassOf and of the law.
-/
import Derived.Test.YtpkhfcbkadkadaaGreatDoorJoin2
import Derived.Test.YtpkhfcbkadkadaaGreatDoorWorldS
import Derived.Test.YtpkhfcbkadkadaaGreatDoorRefIn
import Derived.Test.YtpkhfcbkadkadaaGreatDoorTexts
import Derived.Test.YtpkhfcbkadkadaaGreatDoorFrame
namespace Go.Proofs.YtpkhfcbkadkadaaGreatDoor
set_option linter.unusedVariables false
set_option linter.unusedSimpArgs false
open Go.RowKit Go.Shelf Go.Lib

set_option maxRecDepth 100000 in
set_option maxHeartbeats 1000000 in
theorem classIn_calls (x : Nm) (hx : x.length ≤ 1048576) (w : World) : Calls Tryz.prog 23 #[.string ⟨⟨thing x⟩⟩] w fun e w' => e = .returned (.string ⟨⟨x⟩⟩) ∧ w = w' := by
  unfold thing
  go_enter Tryz.func23, Tryz.ntmps23
  go_wp2_with fail
  go_loop [3] (fun i => i = .int .i64 0) (fun _ => 0)
  case atStart => rfl
  case round =>
    subst hrel
    go_wp2_with fail
    go_ret
    exact ⟨by simp, rfl⟩

/-- the classes in memory, as the reference looks them up -/
def COfRes (f : Bool) (w : World) (e : Ending) (w' : World) : Prop := Below w.heap.size w w' ∧ ∃ c p bb, e = .returned (.tuple #[classV c p, .bool bb]) ∧ c.face = f

theorem look_obj (l : List ClassR) : look (wl l) objN = some objC := by simp [look, wl, objC]
theorem look_flt (l : List ClassR) : look (wl l) fltN = some fltC := by simp [look, wl, objC, fltC, objN, fltN]
theorem look_own {l : List ClassR} {n : Nm} (h1 : n ≠ objN) (h2 : n ≠ fltN) : look (wl l) n = l.find? (fun c => c.nm == n) := by
  unfold look wl
  have e1 : (objC.nm == n) = false := by rw [beq_eq_false_iff_ne]; exact fun h => h1 h.symm
  have e2 : (fltC.nm == n) = false := by rw [beq_eq_false_iff_ne]; exact fun h => h2 h.symm
  simp only [List.find?, e1, e2]

set_option maxRecDepth 100000 in
set_option maxHeartbeats 2000000 in
theorem classOf_calls (l : List ClassR) (ps : List CAddr) (a : Option Addr) (cap : Nat) (n : Nm) (w : World) (hC : ClassesAt w a cap l ps) (hll : l.length ≤ 1048576) :
    Calls Tryz.prog 22 #[.slice a l.length cap, .string ⟨⟨n⟩⟩] w (COfRes ((look (wl l) n).elim false (·.face)) w) := by
  have HB0 := Lib.hid (fun o => (Below.refl w.heap.size w).alloc (Nat.le_refl _) o)
  by_cases h1 : n = objN
  · subst h1
    rw [look_obj]
    unfold objN
    clear hC
    go_enter Tryz.func22, Tryz.ntmps22
    go_wp2_with fail
    exact bodyPost_ret (v := .tuple #[classV objC nilP, .bool true]) (by simp [results, Tryz.results22, go_sem, classV, objC, nilP, objN]) rfl ⟨HB0.out _, objC, nilP, true, rfl, rfl⟩
  by_cases h2 : n = fltN
  · subst h2
    rw [look_flt]
    unfold fltN
    clear hC
    go_enter Tryz.func22, Tryz.ntmps22
    go_wp2_with fail
    exact bodyPost_ret (v := .tuple #[classV fltC nilP, .bool true]) (by simp [results, Tryz.results22, go_sem, classV, fltC, nilP, objN, fltN]) rfl ⟨HB0.out _, fltC, nilP, true, rfl, rfl⟩
  rw [look_own h1 h2]
  have q1 : (n == [79, 98, 106, 101, 99, 116]) = false := by rw [beq_eq_false_iff_ne]; exact h1
  have q2 : (n == [70, 97, 117, 108, 116]) = false := by rw [beq_eq_false_iff_ne]; exact h2
  have HC := Lib.hid hC
  generalize hfd : l.find? (fun c => c.nm == n) = fd
  have HFD := Lib.hid hfd
  clear hC h1 h2 hfd
  go_enter Tryz.func22, Tryz.ntmps22
  go_wp2_with fail
  go_loopw [6] (fun i wr => ∃ j : Nat, j ≤ l.length ∧ i = .int .i64 j ∧ wr = w.alloc (.cells #[.string ⟨#[]⟩, .string ⟨#[]⟩, .slice none 0 0, .bool false, .slice none 0 0, .slice none 0 0] 41) ∧ Hid (∀ c ∈ l.take j, (c.nm == n) = false)) (fun i _ => l.length - (RowKit.intOf i).toNat)
  case atStart => exact ⟨0, by omega, rfl, rfl, Lib.hid (by simp)⟩
  case round =>
    obtain ⟨j, hj, rfl, rfl, HA⟩ := hrel
    by_cases hlk : j < l.length
    · obtain ⟨c, hc⟩ : ∃ c, l[j]? = some c := ⟨_, List.getElem?_eq_getElem hlk⟩
      obtain ⟨b1, off, p, rfl, hlt, hp, hcl, d0, d1, d2, d3, d4, d5⟩ := HC.out.cells hc
      have HX := Lib.hid hc
      have hj0 : (0 : Int) ≤ (j : Int) := Int.natCast_nonneg _
      have hji : (j : Int) < (l.length : Int) := by omega
      clear hc hp hcl
      cases he : c.nm == n with
      | true =>
        have HE := Lib.hid (show fd = some c by rw [← HFD.out]; exact find_at HA.out HX.out he)
        have e1 := eq_of_beq he
        clear he
        subst e1
        go_wp2_with fail
        exact bodyPost_ret (v := .tuple #[classV c p, .bool true]) (by simp [results, Tryz.results22, go_sem, classV]) rfl ⟨HB0.out _, c, p, true, rfl, by rw [HE.out]; rfl⟩
      | false =>
        have HA2 := Lib.hid (take_all_succ (P := fun c => (c.nm == n) = false) HA.out HX.out he)
        go_wp2_with fail
        go_roundw
        case rel => exact ⟨j + 1, by omega, by go_num, trivial, HA2⟩
        case measure => simp [RowKit.intOf]; omega
    · obtain rfl : j = l.length := by omega
      have HE := Lib.hid (show fd = none by rw [← HFD.out]; exact find_none (by have := HA.out; rwa [List.take_length] at this))
      go_wp2_with fail
      exact bodyPost_ret (v := .tuple #[classV zeroK nilP, .bool false]) (by simp [results, Tryz.results22, go_sem, classV, zeroK, nilP]) rfl ⟨HB0.out _, zeroK, nilP, false, rfl, by rw [HE.out]; rfl⟩

open Classical in
/-- what two classes' join names -/
noncomputable def jn (L : List ClassR) (a b : Nm) : Nm := if a = b then a else joinC L a b
theorem jn_kind {L : List ClassR} (a b : Nm) : (joinK L (.ty 0 (.cls a)) (.ty 0 (.cls b))).text = thing (jn L a b) := by
  show (joinT L 0 (.cls a) 0 (.cls b)).text = _
  unfold joinT jn
  by_cases e : a = b
  · rw [if_pos (by rw [e]), if_pos e]; rfl
  · rw [if_neg (by simpa using e), if_neg e, if_pos (show ((Bse.cls a).isRef && (Bse.cls b).isRef) = true from rfl)]; rfl
theorem thing_kind {L : List ClassR} {x : Nm} (h : kindErr L (thing x) = 0) : (Kd.ty 0 (.cls x)).Ok L := by
  obtain ⟨k, hk, e⟩ := kind_zero.1 h
  have : (Kd.ty 0 (.cls x)).text = k.text := e
  rw [text_inj this]; exact hk
theorem join_thing {l : List ClassR} (x y : Nm) : read2Err l (thing x) (thing y) = 0 → ∃ a b : Kd, thing x = a.text ∧ thing y = b.text ∧ a.Ok (wl l) ∧ b.Ok (wl l) ∧ (joinK (wl l) a b).text = thing (jn (wl l) x y) := by
  intro h
  obtain ⟨_, h1, h2⟩ := read2_zero.1 h
  exact ⟨.ty 0 (.cls x), .ty 0 (.cls y), rfl, rfl, thing_kind h1, thing_kind h2, jn_kind x y⟩
theorem jn_spec {l : List ClassR} (hg : Good l) {a b : Nm} (ha : a ∈ names l) (hb : b ∈ names l) (hf : ((look (wl l) a).elim false (·.face) || (look (wl l) b).elim false (·.face)) = false) :
    jn (wl l) a b ∈ names l ∧ jn (wl l) a b ∈ line (wl l) a ∧ jn (wl l) a b ∈ line (wl l) b ∧ ∀ x ∈ line (wl l) a, x ∈ line (wl l) b → x ∈ line (wl l) (jn (wl l) a b) := by
  unfold jn
  by_cases e : a = b
  · subst e
    rw [if_pos rfl]
    exact ⟨ha, self_line _ _, self_line _ _, fun x h _ => h⟩
  · rw [if_neg e]
    have hn := joinC_names hg ha hb
    rw [joinC_line hf] at hn ⊢
    obtain ⟨h1, h2, h3⟩ := common_spec hg ha hb
    exact ⟨hn, h1, h2, h3⟩
theorem jn_face {l : List ClassR} {a b : Nm} (hf : ((look (wl l) a).elim false (·.face) || (look (wl l) b).elim false (·.face)) = true) : jn (wl l) a b = objN ∨ a = b := by
  unfold jn
  by_cases e : a = b
  · exact Or.inr e
  · rw [if_neg e]; exact Or.inl (joinC_face hf)

set_option maxRecDepth 100000 in
set_option maxHeartbeats 4000000 in
theorem joinSupers_go (l : List ClassR) (ps : List CAddr) (a : Option Addr) (cap : Nat) (n m : Nm) (w : World) (hC : ClassesAt w a cap l ps) (hF : FormsAt w) (hB : ClsOk l) (hll : l.length ≤ 1048576) (hn : n.length ≤ 1048576) (hm : m.length ≤ 1048576) :
    Calls Tryz.prog 7 #[.slice a l.length cap, .string ⟨⟨n⟩⟩, .string ⟨⟨m⟩⟩] w fun e w' => e = .returned (.bool true) ∧ Below w.heap.size w w' := by
  have HC := Lib.hid hC
  have HF := Lib.hid hF
  have HB := Lib.hid hB
  clear hC hF hB
  have HSU := Lib.hid (fun n (hn : n.length ≤ 1048576) W (hW : Below w.heap.size w W) => supers_calls l ps a cap n W (HC.out.below hW) (HF.out.below hW) HB.out hn)
  have HJN := Lib.hid (fun W (hW : Below w.heap.size w W) => join_join_calls l ps a cap (thing n) (thing m) W (HC.out.below hW) (HF.out.below hW) HB.out (by simp [thing]; omega) (by simp [thing]; omega) _ (join_thing n m))
  have HCO := Lib.hid (fun n W (hW : Below w.heap.size w W) => classOf_calls l ps a cap n W (HC.out.below hW) hll)
  generalize hq1 : read2Err l (thing n) (thing m) = q1 at *
  clear hq1
  generalize htj : thing (jn (wl l) n m) = tj at *
  have HTJ := Lib.hid htj
  clear htj
  simp only [thing] at HJN
  go_enter Tryz.func7, Tryz.ntmps7
  go_wp2_with fail
  refine (named_true _).mono ?_
  rintro e w1 ⟨rfl, hb1⟩
  have HB1 := Lib.hid hb1
  clear hb1
  go_wp2_with fail
  refine (HSU.out n hn _ HB1.out).mono ?_
  intro e w2 hr
  obtain ⟨hb2, v2, ev2, rfl, hv2⟩ := list_open hr
  have HB2 := Lib.hid (bl_trans HB1.out hb2)
  have HV2 := Lib.hid hv2
  clear hr hb2 hv2
  go_wp2_with fail
  refine (HSU.out m hm _ HB2.out).mono ?_
  intro e w3 hr
  obtain ⟨hb3, v3, ev3, rfl, hv3⟩ := list_open hr
  have HB3 := Lib.hid (bl_trans HB2.out hb3)
  have HV23 := Lib.hid (HV2.out.below hb3)
  have HV3 := Lib.hid hv3
  clear hr hb3 hv3 HV2
  go_wp2_with fail
  refine (HJN.out _ HB3.out).mono ?_
  rintro e w4 ⟨hb4, hr4⟩
  have HB4 := Lib.hid (bl_trans HB3.out hb4)
  have HV24 := Lib.hid (HV23.out.below hb4)
  have HV34 := Lib.hid (HV3.out.below hb4)
  clear hb4 HV23 HV3
  rcases HV24.out with ⟨hne, rfl, rfl⟩ | ⟨h0, rfl, a2, c2, rfl, hs2⟩
  · generalize withErr l n = z at *
    clear hne
    rcases hr4 with ⟨hne4, rfl⟩ | ⟨_, rfl⟩
    all_goals
      first | clear hne4 | skip
      go_wp2_with fail
      go_ret
      exact ⟨rfl, HB4.out⟩
  rcases HV34.out with ⟨hne, rfl, rfl⟩ | ⟨h0', rfl, a3, c3, rfl, hs3⟩
  · generalize withErr l m = z at *
    clear hne
    rcases hr4 with ⟨hne4, rfl⟩ | ⟨_, rfl⟩
    all_goals
      first | clear hne4 | skip
      go_wp2_with fail
      go_ret
      exact ⟨rfl, HB4.out⟩
  rcases hr4 with ⟨hne4, rfl⟩ | ⟨_, rfl⟩
  · clear hne4
    go_wp2_with fail
    go_ret
    exact ⟨rfl, HB4.out⟩
  obtain ⟨hg, hnn⟩ := withErr_zero.1 h0
  obtain ⟨_, hmm⟩ := withErr_zero.1 h0'
  have HG := Lib.hid hg
  have HFC := Lib.hid (@jn_face l n m)
  have HSP := Lib.hid (fun hf => @jn_spec l hg n m hnn hmm hf)
  have HS2 := Lib.hid hs2
  have HS3 := Lib.hid hs3
  have hl2 := line_len13 hg n
  have hl3 := line_len13 hg m
  clear h0 h0' hg hnn hmm hs2 hs3 HV24 HV34 HJN
  go_wp2_with fail
  refine (HCO.out n _ HB4.out).mono ?_
  rintro e w5 ⟨hb5, cx, px, bx, rfl, hfx⟩
  have HB5 := Lib.hid (bl_trans HB4.out hb5)
  have HB45 := Lib.hid hb5
  have hs5 := hb5.size
  have HB5a := Lib.hid (fun o => HB5.out.alloc HB5.out.size o)
  have HFX := Lib.hid hfx
  clear hb5 hfx
  unfold classV
  go_wp2_with fail
  refine (HCO.out m _ (HB5a.out _)).mono ?_
  rintro e w6 ⟨hb6, cy, py, by', rfl, hfy⟩
  have HB6 := Lib.hid (bl_trans (HB5a.out _) hb6)
  have HB46 := Lib.hid (bl_trans (HB45.out.alloc hs5 _) hb6)
  have hd6 := (blk_new w5 w5.heap.size 41 #[.string ⟨⟨cx.nm⟩⟩, .string ⟨⟨cx.sup⟩⟩, .slice px.fa cx.faces.length px.fc, .bool cx.face, .slice px.ga cx.fields.length px.gc, .slice px.ma cx.meths.length px.mc] rfl).below hb6
  have c3' : w6.cell? ⟨w5.heap.size, 3, none⟩ = some (.bool cx.face) := hd6.cell 3
  have hdl := hd6.lt
  have HFY := Lib.hid hfy
  have hs6 := HB6.out.size
  have HB7 := Lib.hid (HB6.out.alloc hs6 (.cells #[.string ⟨⟨cy.nm⟩⟩, .string ⟨⟨cy.sup⟩⟩, .slice py.fa cy.faces.length py.fc, .bool cy.face, .slice py.ga cy.fields.length py.gc, .slice py.ma cy.meths.length py.mc] 41))
  have HB47 := Lib.hid (HB46.out.alloc HB46.out.size (.cells #[.string ⟨⟨cy.nm⟩⟩, .string ⟨⟨cy.sup⟩⟩, .slice py.fa cy.faces.length py.fc, .bool cy.face, .slice py.ga cy.fields.length py.gc, .slice py.ma cy.meths.length py.mc] 41))
  clear hb6 hd6 hfy
  unfold classV
  obtain ⟨cxn, cxs, cxf, fx, cxg, cxm⟩ := cx
  obtain ⟨cyn, cys, cyf, fy, cyg, cym⟩ := cy
  dsimp only at *
  have hJ : jn (wl l) n m = objN ∨ n = m ∨ ((look (wl l) n).elim false (·.face) = false ∧ (look (wl l) m).elim false (·.face) = false) := by
    cases h1 : (look (wl l) n).elim false (·.face) with
    | true => rcases HFC.out (by rw [h1]; rfl) with h | h; exact Or.inl h; exact Or.inr (Or.inl h)
    | false =>
      cases h2 : (look (wl l) m).elim false (·.face) with
      | true => rcases HFC.out (by rw [h2, Bool.or_true]) with h | h; exact Or.inl h; exact Or.inr (Or.inl h)
      | false => exact Or.inr (Or.inr ⟨rfl, rfl⟩)
  have HJ := Lib.hid hJ
  clear hJ HFC
  by_cases hfa : (fx || fy) = true
  · -- a face
    have hk : tj = [76, 79, 98, 106, 101, 99, 116, 59] ∨ n = m := by
      rcases HJ.out with h | h | ⟨h1, h2⟩
      · left; rw [← HTJ.out, h]; rfl
      · exact Or.inr h
      · rw [← HFX.out, ← HFY.out] at *
        rw [h1, h2] at hfa
        cases hfa
    clear HJ HSP
    rcases hk with rfl | rfl
    · cases fx <;> cases fy <;> first | (exact absurd hfa (by decide)) | skip
      all_goals
        clear hfa
        go_wp2_with fail
        go_ret
        exact ⟨rfl, HB7.out⟩
    · cases htl : tj == [76, 79, 98, 106, 101, 99, 116, 59] <;> cases fx <;> cases fy <;> first | (exact absurd hfa (by decide)) | skip
      all_goals
        clear hfa
        go_wp2_with fail
        go_ret
        exact ⟨rfl, HB7.out⟩
  · have hf0 : fx = false ∧ fy = false := by cases fx <;> cases fy <;> simp_all
    obtain ⟨rfl, rfl⟩ := hf0
    clear hfa HJ
    obtain ⟨hjn, hj1, hj2, hj3⟩ := HSP.out (by rw [← HFX.out, ← HFY.out]; rfl)
    have hjl : (jn (wl l) n m).length ≤ 1048576 := by have := good_names20 HG.out hjn; omega
    have HWE := Lib.hid (withErr_zero.2 ⟨HG.out, hjn⟩)
    have HCI := Lib.hid (fun w => classIn_calls (jn (wl l) n m) hjl w)
    rw [HTJ.out] at HCI
    have HSJ := Lib.hid (HSU.out (jn (wl l) n m) hjl)
    rw [HWE.out] at HSJ
    have hlj := line_len13 HG.out (jn (wl l) n m)
    have HJ1 := Lib.hid hj1
    have HJ2 := Lib.hid hj2
    have HJ3 := Lib.hid hj3
    clear hjn hj1 hj2 hj3 HSP HTJ HSU
    generalize jn (wl l) n m = jj at *
    generalize line (wl l) jj = lj at *
    generalize line (wl l) n = ln at *
    generalize line (wl l) m = lm at *
    go_wp2_with fail
    refine (HCI.out _).mono ?_
    rintro e w8 ⟨rfl, rfl⟩
    go_wp2_with fail
    refine (HSJ.out _ HB7.out).mono ?_
    intro e w9 hr
    obtain ⟨hb9, v9, ev9, rfl, hv9⟩ := list_open hr
    rcases hv9 with ⟨h, _⟩ | ⟨_, rfl, a9, c9, rfl, hs9⟩
    · exact absurd rfl h
    have HB9 := Lib.hid (bl_trans HB7.out hb9)
    have hb49 := bl_trans HB47.out hb9
    have HL2 := Lib.hid (HS2.out.below hb49)
    have HL3 := Lib.hid (HS3.out.below hb49)
    have HI3 := Lib.hid (fun x => ref_in lm x a3 c3 w9 (HS3.out.below hb49) (by omega))
    have HI2 := Lib.hid (fun x => ref_in ln x a2 c2 w9 (HS2.out.below hb49) (by omega))
    have HI9 := Lib.hid (fun x => ref_in lj x a9 c9 w9 hs9 (by omega))
    clear hr hb9 hs9 hb49
    go_wp2_with fail
    go_loopw [21] (fun i wr => ∃ j : Nat, j ≤ ln.length ∧ i = .int .i64 j ∧ wr = w9) (fun i _ => ln.length - (RowKit.intOf i).toNat)
    case atStart => exact ⟨0, by omega, rfl, rfl⟩
    case round =>
      obtain ⟨j, hj, rfl, rfl⟩ := hrel
      by_cases hlk : j < ln.length
      · obtain ⟨z, hz⟩ : ∃ z, ln[j]? = some z := ⟨_, List.getElem?_eq_getElem hlk⟩
        obtain ⟨b1, off, rfl, hlt, c0⟩ := strs_cell HL2.out hz
        have hj0 : (0 : Int) ≤ (j : Int) := Int.natCast_nonneg _
        have hji : (j : Int) < (ln.length : Int) := by omega
        have HZ3 := Lib.hid (HI3.out z)
        have HZ9 := Lib.hid (HI9.out z)
        have HIMP := Lib.hid (show lm.contains z = true → lj.contains z = true from fun h => by
          rw [List.contains_iff_mem] at h ⊢
          exact HJ3.out z (List.mem_of_getElem? hz) h)
        clear hz
        cases hc : lm.contains z with
        | false =>
          rw [hc] at HZ3
          clear hc
          go_wp2_with fail
          refine HZ3.out.mono ?_
          rintro e w10 ⟨rfl, rfl⟩
          go_wp2_with fail
          go_roundw
          case rel => exact ⟨j + 1, by omega, by go_num, trivial⟩
          case measure => simp [RowKit.intOf]; omega
        | true =>
          rw [hc] at HZ3
          rw [HIMP.out hc] at HZ9
          clear hc
          go_wp2_with fail
          refine HZ3.out.mono ?_
          rintro e w10 ⟨rfl, rfl⟩
          go_wp2_with fail
          refine HZ9.out.mono ?_
          rintro e w10 ⟨rfl, rfl⟩
          go_wp2_with fail
          go_roundw
          case rel => exact ⟨j + 1, by omega, by go_num, trivial⟩
          case measure => simp [RowKit.intOf]; omega
      · obtain rfl : j = ln.length := by omega
        have HZ2 := Lib.hid (HI2.out jj)
        have HZ3 := Lib.hid (HI3.out jj)
        rw [show ln.contains jj = true from by rw [List.contains_iff_mem]; exact HJ1.out] at HZ2
        rw [show lm.contains jj = true from by rw [List.contains_iff_mem]; exact HJ2.out] at HZ3
        go_wp2_with fail
        refine HZ2.out.mono ?_
        rintro e w10 ⟨rfl, rfl⟩
        go_wp2_with fail
        refine HZ3.out.mono ?_
        rintro e w10 ⟨rfl, rfl⟩
        go_wp2_with fail
        go_ret
        exact ⟨rfl, HB9.out⟩

set_option maxRecDepth 100000 in
theorem joinSupers.walk {H : Type} {enc : TypeId × Value → H} {W : World} {base : Nat}
    {v0 : Value} {d0 : DataW H} {p0 : List MemPlace} (hv0 : Value.okWide Tryz.prog W .any base 22 v0) (h0 : DataW.Trod enc Tryz.prog W 0 (fun _ => true) true 22 v0 d0 p0)
    (s1 : ByteArray) (hs1 : s1.size ≤ maxLen) (hr1 : s1.data.toList.length ≤ reachBytes)
    (s2 : ByteArray) (hs2 : s2.size ≤ maxLen) (hr2 : s2.data.toList.length ≤ reachBytes)
    (W' : World) (hW : W' = W) (hL : laidMetH Tryz.prog Rows.joinSupersUptoRow.laid W) {S : Prop} (_ : S) (hbulk : Rows.uptoBulkAll [d0, DataW.lit (.string s1.data.toList), DataW.lit (.string s2.data.toList)] ≤ 1048576) :
    Calls Tryz.prog 7 #[v0, .string s1, .string s2] W' fun e w' => e = .returned (.bool true) ∧ Below W'.heap.size W' w' := by
  subst hW
  obtain ⟨a0, len0, cap0, rfl⟩ := WideShapes.okWide_slice Tryz.underlying22 hv0
  obtain ⟨fuel0, hf0⟩ := h0
  obtain ⟨aa0, cc0, l0, ps0, hcs0, hC0, hll0, ht0⟩ := open_classes hf0
  simp only [Value.cells, List.cons.injEq, and_true] at hcs0
  rw [hcs0]
  obtain ⟨⟨x1⟩⟩ := s1
  obtain ⟨⟨x2⟩⟩ := s2
  simp only [Rows.uptoBulkAll, Rows.uptoBulk] at hbulk
  exact joinSupers_go l0 ps0 aa0 cc0 x1 x2 W' hC0 (forms_of_laid hL (by kernel_rfl)) (ht0 (by omega)) (by omega) (by omega) (by omega)
end Go.Proofs.YtpkhfcbkadkadaaGreatDoor
