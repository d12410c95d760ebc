import Derived.Test.YtddbnboicmaooaaGreatDoorOpens
namespace Go.Proofs.YtddbnboicmaooaaGreatDoor
set_option maxRecDepth 100000
set_option maxHeartbeats 16000000
set_option linter.unusedVariables false
set_option linter.unusedSimpArgs false
open Go.RowKit Go.Shelf Go.Lib
def max3 (a b c : Nat) : Nat := if (if a < b then b else a) < c then c else if a < b then b else a
theorem max3_is (a b c : Nat) : a ≤ max3 a b c ∧ b ≤ max3 a b c ∧ c ≤ max3 a b c ∧ (max3 a b c = a ∨ max3 a b c = b ∨ max3 a b c = c) := by
 unfold max3
 split <;> split at * <;> omega
theorem max_run (W : World) (a b c : Nat) : (Builtin.max_ #[3, 3, 3] 3 #[.int .i64 (a : Int), .int .i64 (b : Int), .int .i64 (c : Int)]).run Tryz.prog W = .ok (.int .i64 (max3 a b c : Int)) W := by
 unfold max3
 by_cases h1 : a < b
 · by_cases h2 : b < c
   · simp [Builtin.max_, Builtin.max2, go_sem, h1, h2]
   · simp [Builtin.max_, Builtin.max2, go_sem, h1, h2]
 · by_cases h2 : a < c
   · simp [Builtin.max_, Builtin.max2, go_sem, h1, h2]
   · simp [Builtin.max_, Builtin.max2, go_sem, h1, h2]
noncomputable def rest4 (c : ClassR) : Int :=
 if firstNZ (methsErr c.meths) c.meths.length ≠ 0 then firstNZ (methsErr c.meths) c.meths.length
 else if c.face = true ∧ c.fields ≠ [] then 8
 else 0
noncomputable def rest3 (c : ClassR) : Int := if firstNZ (fieldErr c.fields) c.fields.length ≠ 0 then firstNZ (fieldErr c.fields) c.fields.length else rest4 c
noncomputable def rest2 (c : ClassR) : Int := if 8 < c.faces.length ∨ 8 < c.fields.length ∨ 8 < c.meths.length then 4 else rest3 c
noncomputable def restErr (c : ClassR) : Int := if firstNZ (faceErr c.faces) c.faces.length ≠ 0 then firstNZ (faceErr c.faces) c.faces.length else rest2 c
theorem classErr_rest {c : ClassR} (h : ¬ (nameOk c.nm = false ∨ (c.sup ≠ [] ∧ nameOk c.sup = false))) : classErr c = restErr c := by unfold classErr restErr rest2 rest3 rest4; rw [if_neg h]
theorem restErr_2 {c : ClassR} (h : ∀ j, j < c.faces.length → faceErr c.faces j = 0) : restErr c = rest2 c := by unfold restErr; rw [if_neg (by rw [(firstNZ_zero _ _).2 h]; simp)]
theorem rest3_4 {c : ClassR} (h : ∀ j, j < c.fields.length → fieldErr c.fields j = 0) : rest3 c = rest4 c := by unfold rest3; rw [if_neg (by rw [(firstNZ_zero _ _).2 h]; simp)]
theorem rest3_at {c : ClassR} {k : Nat} (h0 : ∀ j, j < k → fieldErr c.fields j = 0) (hk : fieldErr c.fields k ≠ 0) (hl : k < c.fields.length) : rest3 c = fieldErr c.fields k := by
 have := firstNZ_at h0 hk _ hl
 unfold rest3
 rw [this, if_pos hk]
theorem rest4_at {c : ClassR} {k : Nat} (h0 : ∀ j, j < k → methsErr c.meths j = 0) (hk : methsErr c.meths k ≠ 0) (hl : k < c.meths.length) : rest4 c = methsErr c.meths k := by
 have := firstNZ_at h0 hk _ hl
 unfold rest4
 rw [this, if_pos hk]
theorem rest4_end {c : ClassR} (h : ∀ j, j < c.meths.length → methsErr c.meths j = 0) : rest4 c = if c.face = true ∧ c.fields ≠ [] then 8 else 0 := by unfold rest4; rw [if_neg (by rw [(firstNZ_zero _ _).2 h]; simp)]
theorem faceErr_at {l : List (List UInt8)} {k : Nat} {f : List UInt8} (h : l[k]? = some f) : faceErr l k = if nameOk f = false then 1 else if (l.take k).contains f then 5 else 0 := by unfold faceErr; rw [h]; rfl
open Classical in
theorem fieldErr_at {l : List FieldR} {k : Nat} {f : FieldR} (h : l[k]? = some f) : fieldErr l k = if nameOk f.nm = false ∨ ¬ TypeOk f.ty then 1 else if (l.take k).any (fun x => x.nm == f.nm) then 5 else 0 := by
 unfold fieldErr; rw [h]; rfl
theorem methsErr_at {l : List MethR} {k : Nat} {m : MethR} (h : l[k]? = some m) : methsErr l k = methErr m (l.take k) := by unfold methsErr; rw [h]; rfl
def Mid (w : World) (c : ClassR) (p : CAddr) (wr : World) : Prop := Below w.heap.size w wr ∧ CBox wr w.heap.size c p
theorem Mid.below {w wr wr' : World} {c : ClassR} {p : CAddr} (h : Mid w c p wr) (hb : Below wr.heap.size wr wr') : Mid w c p wr' := ⟨bl_trans h.1 hb, h.2.below hb⟩
theorem Mid.cells {w wr : World} {c : ClassR} {p : CAddr} {fa ga ma : Option Addr} (h : Mid w c p wr) (hf : p.fa = fa) (hg : p.ga = ga) (hm : p.ma = ma) : w.heap.size < wr.heap.size ∧ wr.cell? ⟨w.heap.size, 0, none⟩ = some (.string ⟨⟨c.nm⟩⟩) ∧ wr.cell? ⟨w.heap.size, 1, none⟩ = some (.string ⟨⟨c.sup⟩⟩) ∧ wr.cell? ⟨w.heap.size, 2, none⟩ = some (.slice fa c.faces.length p.fc) ∧ wr.cell? ⟨w.heap.size, 3, none⟩ = some (.bool c.face) ∧
   wr.cell? ⟨w.heap.size, 4, none⟩ = some (.slice ga c.fields.length p.gc) ∧ wr.cell? ⟨w.heap.size, 5, none⟩ = some (.slice ma c.meths.length p.mc) := by
 subst hf hg hm
 exact h.2
theorem rest_face {c : ClassR} {k : Nat} (h0 : ∀ j, j < k → faceErr c.faces j = 0) (hk : faceErr c.faces k ≠ 0) (hl : k < c.faces.length) : restErr c = faceErr c.faces k := by
 have := firstNZ_at h0 hk _ hl
 unfold restErr
 rw [this, if_pos hk]
def FBox (W : World) (g : Nat) (f : FieldR) : Prop := g < W.heap.size ∧ W.cell? ⟨g, 0, none⟩ = some (.string ⟨⟨f.nm⟩⟩) ∧ W.cell? ⟨g, 1, none⟩ = some (.string ⟨⟨f.ty⟩⟩)
theorem FBox.below {W W' : World} {g : Nat} {f : FieldR} (h : FBox W g f) (hb : Below W.heap.size W W') : FBox W' g f := by
 obtain ⟨h0, h1, h2⟩ := h
 refine ⟨Nat.lt_of_lt_of_le h0 hb.size, ?_, ?_⟩ <;> (rw [hb.cell (p := ⟨g, _, none⟩) h0]; assumption)
theorem fbox_new (w : World) (f : FieldR) : FBox (w.alloc (.cells #[.string ⟨⟨f.nm⟩⟩, .string ⟨⟨f.ty⟩⟩] 210)) w.heap.size f := by
 refine ⟨by simp, ?_, ?_⟩ <;> rw [World.cell?_alloc_new] <;> rfl
theorem cut_field {l : List FieldR} {f : FieldR} {W : World} {ga : Option Addr} {cap k g : Nat} (h : FieldsAt W ga cap l) (hk : k ≤ l.length) (hl : l.length ≤ 100000000) (hg : g < W.heap.size) (hc : W.cell? ⟨g, 0, none⟩ = some (.string ⟨⟨f.nm⟩⟩)) :
   Calls Tryz.prog 144 #[.slice ga k cap, .func (.func 145) #[] #[.pointer (some ⟨g, 0, none⟩)]] W fun e w' => e = .returned (.bool ((l.take k).any (fun x => x.nm == f.nm))) ∧ Below W.heap.size W w' := by
 have h1 : (l.take k).length = k := by rw [List.length_take]; omega
 have := containsField (l.take k) ga cap W #[.pointer (some ⟨g, 0, none⟩)] (fun x => x.nm == f.nm) (h.take k) (by omega) (fun j x _ => sameField x f g W hg hc)
 rwa [h1] at this
theorem cut_meth {l : List MethR} {m : MethR} {q : MAddr} {W : World} {ma : Option Addr} {cap k : Nat} {ps : List MAddr} (h : MethsAt W ma cap l ps) (hk : k ≤ l.length) (hl : l.length ≤ 100000000) (hm : MethAt W m q) (hF : FormsAt W) (hB : MethB m) :
   Calls Tryz.prog 146 #[methV m q, .slice ma k cap] W fun e w' => e = .returned (errOf (methErr m (l.take k))) ∧ Below W.heap.size W w' := by
 have h1 : (l.take k).length = k := by rw [List.length_take]; omega
 have := method_walk m q (l.take k) ma cap (ps.take k) W hm (h.take k) hF hB.tys hB.ty hB.code hB.hs (by omega)
 rwa [h1] at this
theorem check_calls (c : ClassR) (p : CAddr) (w : World) (hC : ClassAt w c p) (hF : FormsAt w) (hb : ClassB c) :
   Calls Tryz.prog 82 #[classV c p] w fun e w' => e = .returned (errOf (classErr c)) ∧ Below w.heap.size w w' := by
 generalize hE : errOf (classErr c) = E
 have HE := Hd hE
 have HX := Hd (cbox_new w c p)
 have HC := Hd hC
 have HF := Hd hF
 have HB := Hd hb
 have hfa := hb.faces
 have hfi := hb.fields
 have hme := hb.meths
 clear hE hC hF hb
 unfold classV
 generalize hpfa : p.fa = fa at *
 generalize hpga : p.ga = ga at *
 generalize hpma : p.ma = ma at *
 have HFA := Hd hpfa
 have HGA := Hd hpga
 have HMA := Hd hpma
 clear hpfa hpga hpma
 have HN1 := Hd (fun w => name_calls c.nm w)
 have HN2 := Hd (fun w => name_calls c.sup w)
 cases hn : nameOk c.nm with
 | false =>
   have HEE := Hd (show E = errV 1 by rw [← HE.out]; unfold classErr; rw [if_pos (Or.inl hn)]; rfl)
   rw [hn] at HN1
   simp only [Bool.false_eq_true, if_false] at HN1
   clear hn
   go_enter Tryz.func82, Tryz.ntmps82
   obtain ⟨hg, c0, c1, c2, c3, c4, c5⟩ := HX.out
   clear c1 c2 c3 c4 c5
   go_wp2_with fail
   refine (HN1.out _).mono ?_
   rintro e w1 ⟨rfl, hb1⟩
   have HB1 := Hd (new_below hb1)
   clear hb1
   go_wp2_with fail
   go_ret
   exact ⟨by rw [HEE.out]; rfl, HB1.out⟩
 | true =>
   rw [hn] at HN1
   simp only [if_true] at HN1
   have HNN := Hd hn
   clear hn
   have hway : (c.sup = []) ∨ (∃ b r, c.sup = b :: r ∧ nameOk c.sup = false) ∨ (∃ b r, c.sup = b :: r ∧ nameOk c.sup = true) := by
     cases h : c.sup with
     | nil => exact Or.inl rfl
     | cons b r =>
       right
       cases h2 : nameOk (b :: r)
       · exact Or.inl ⟨b, r, rfl, rfl⟩
       · exact Or.inr ⟨b, r, rfl, rfl⟩
   rcases hway with hs | ⟨b, r, hs, hn⟩ | ⟨b, r, hs, hn⟩
   rotate_left
   · have HEE := Hd (show E = errV 1 by rw [← HE.out]; unfold classErr; rw [if_pos (Or.inr ⟨by rw [hs]; simp, hn⟩)]; rfl)
     rw [hn] at HN2
     rw [hs] at HX HN2
     simp only [Bool.false_eq_true, if_false] at HN2
     clear hn
     go_enter Tryz.func82, Tryz.ntmps82
     obtain ⟨hg, c0, c1, c2, c3, c4, c5⟩ := HX.out
     rw [hs] at c1
     clear c2 c3 c4 c5
     go_wp2_with fail
     refine (HN1.out _).mono ?_
     rintro e w1 ⟨rfl, hb1⟩
     have HB1 := Hd (new_below hb1)
     have HX1 := Hd (HX.out.below hb1)
     obtain ⟨hg, d0, d1, d2, d3, d4, d5⟩ := HX1.out
     rw [hs] at d1
     clear hb1 c0 c1 d2 d3 d4 d5
     go_wp2_with fail
     refine (HN2.out _).mono ?_
     rintro e w2 ⟨rfl, hb2⟩
     have HB2 := Hd (bl_trans HB1.out hb2)
     clear hb2
     go_wp2_with fail
     go_ret
     exact ⟨by rw [HEE.out]; rfl, HB2.out⟩
   · have HR := Hd (show errOf (restErr c) = E by rw [← HE.out, classErr_rest (by rintro (h | ⟨_, h⟩); rw [HNN.out] at h; cases h; rw [hn] at h; cases h)])
     rw [hn] at HN2
     rw [hs] at HX HN2
     simp only [if_true] at HN2
     clear hn HE
     go_enter Tryz.func82, Tryz.ntmps82
     obtain ⟨hg, c0, c1, c2, c3, c4, c5⟩ := HX.out
     rw [hs] at c1
     clear c2 c3 c4 c5
     go_wp2_with fail
     refine (HN1.out _).mono ?_
     rintro e w1 ⟨rfl, hb1⟩
     have HB1 := Hd (new_below hb1)
     have HX1 := Hd (HX.out.below hb1)
     obtain ⟨hg, d0, d1, d2, d3, d4, d5⟩ := HX1.out
     rw [hs] at d1
     clear hb1 c0 c1 d2 d3 d4 d5
     go_wp2_with fail
     refine (HN2.out _).mono ?_
     rintro e w2 ⟨rfl, hb2⟩
     have HM2 := Hd (show Mid w c p w2 from ⟨bl_trans HB1.out hb2, HX1.out.below hb2⟩)
     have HS := Hd hs
     clear hb2 hs d0 d1 HB1 HX HX1 hg
     obtain ⟨hg, c0, c1, c2, c3, c4, c5⟩ := HM2.out.cells HFA.out HGA.out HMA.out
     rw [HS.out] at c1
     go_wp2_with fail
     clear hg c0 c1 c2 c3 c4 c5
     go_loopw [29] (fun i wr => ∃ k : Nat, k ≤ c.faces.length ∧ i = .int .i64 k ∧ Mid w c p wr ∧ Hid (∀ j, j < k → faceErr c.faces j = 0)) (fun i _ => c.faces.length - (RowKit.intOf i).toNat)
     case atStart => exact ⟨0, by omega, rfl, HM2.out, Hd (by omega)⟩
     case round =>
       obtain ⟨k, hk, rfl, hm, HZ⟩ := hrel
       have HM := Hd hm
       clear hm HM2
       obtain ⟨hg, c0, c1, c2, c3, c4, c5⟩ := HM.out.cells HFA.out HGA.out HMA.out
       rw [HS.out] at c1
       by_cases hlk : k < c.faces.length
       · obtain ⟨f, hf⟩ : ∃ f, c.faces[k]? = some f := ⟨_, List.getElem?_eq_getElem hlk⟩
         have hcw : SRow wr fa p.fc c.faces := by rw [← HFA.out]; exact HC.out.1.below HM.out.1
         obtain ⟨b, off, rfl, hlt, d0⟩ := strs_cell hcw hf
         have hkc : k ≤ p.fc := by have := hcw.1; omega
         have HFE := Hd (faceErr_at hf)
         have HCO := Hd (fun W (hb : Below wr.heap.size wr W) => contains_str (c.faces.take k) _ k p.fc f W ((hcw.below hb).take k) (by rw [List.length_take]; omega) (by rw [List.length_take]; omega))
         have HNF := Hd (fun w => name_calls f w)
         clear hcw hf
         cases hn : nameOk f with
         | false =>
           rw [hn] at HNF HFE
           simp only [Bool.false_eq_true, if_false, if_true] at HNF HFE
           have HEE := Hd (show E = errV 1 by rw [← HR.out, rest_face HZ.out (by rw [HFE.out]; simp) hlk, HFE.out]; rfl)
           clear hn
           go_wp2_with fail
           refine (HNF.out _).mono ?_
           rintro e w3 ⟨rfl, hb3⟩
           have HB3 := Hd (bl_trans HM.out.1 hb3)
           clear hb3
           go_wp2_with fail
           go_ret
           exact ⟨by rw [HEE.out]; rfl, HB3.out⟩
         | true =>
           rw [hn] at HNF HFE
           simp only [Bool.true_eq_false, if_false, if_true] at HNF HFE
           clear hn c0 c1 c2 c3 c4 c5
           go_wp2_with fail
           refine (HNF.out _).mono ?_
           rintro e w3 ⟨rfl, hb3⟩
           have HM3 := Hd (HM.out.below hb3)
           have HC3 := Hd (HCO.out w3 hb3)
           clear hb3 HCO
           obtain ⟨hg, c0, c1, c2, c3, c4, c5⟩ := HM3.out.cells HFA.out HGA.out HMA.out
           cases hct : (c.faces.take k).contains f with
           | true =>
             rw [hct] at HC3 HFE
             simp only [if_true] at HFE
             have HEE := Hd (show E = errV 5 by rw [← HR.out, rest_face HZ.out (by rw [HFE.out]; simp) hlk, HFE.out]; rfl)
             clear hct
             go_wp2_with fail
             refine HC3.out.mono ?_
             rintro e w4 ⟨rfl, rfl⟩
             go_wp2_with fail
             go_ret
             exact ⟨by rw [HEE.out]; rfl, HM3.out.1⟩
           | false =>
             rw [hct] at HC3 HFE
             simp only [Bool.false_eq_true, if_false] at HFE
             have HZ2 := Hd (upto_succ HZ.out HFE.out)
             clear hct
             go_wp2_with fail
             refine HC3.out.mono ?_
             rintro e w4 ⟨rfl, rfl⟩
             go_wp2_with fail
             go_roundw
             case rel => exact ⟨k + 1, by omega, by go_num, HM3.out, HZ2⟩
             case measure => simp [RowKit.intOf]; omega
       · obtain rfl : k = c.faces.length := by omega
         have HR2 := Hd (show errOf (rest2 c) = E by rw [← HR.out, restErr_2 HZ.out])
         clear HZ HR hlk
         have hmx := fun W => max_run W c.faces.length c.fields.length c.meths.length
         have hm3 := max3_is c.faces.length c.fields.length c.meths.length
         generalize max3 c.faces.length c.fields.length c.meths.length = my at hmx hm3
         by_cases h8 : 8 < c.faces.length ∨ 8 < c.fields.length ∨ 8 < c.meths.length
         · have HEE := Hd (show E = errV 4 by rw [← HR2.out]; unfold rest2; rw [if_pos h8]; rfl)
           have hn8 : 8 < my := by omega
           clear h8 hm3
           go_wp2_with fail
           go_ret
           exact ⟨by rw [HEE.out]; rfl, HM.out.1⟩
         · have HR3 := Hd (show errOf (rest3 c) = E by rw [← HR2.out]; unfold rest2; rw [if_neg h8])
           have hn8 : my ≤ 8 := by omega
           clear h8 hm3 HR2
           go_wp2_with fail
           clear hmx hn8 hg c0 c1 c2 c3 c4 c5
           go_loopw [61] (fun i wr => ∃ k : Nat, k ≤ c.fields.length ∧ i = .int .i64 k ∧ Mid w c p wr ∧ Hid (∀ j, j < k → fieldErr c.fields j = 0)) (fun i _ => c.fields.length - (RowKit.intOf i).toNat)
           case atStart => exact ⟨0, by omega, rfl, HM.out, Hd (by omega)⟩
           case round =>
             obtain ⟨k, hk, rfl, hm, HZ⟩ := hrel
             have HM2 := Hd hm
             clear hm HM
             obtain ⟨hg, c0, c1, c2, c3, c4, c5⟩ := HM2.out.cells HFA.out HGA.out HMA.out
             rw [HS.out] at c1
             by_cases hlk : k < c.fields.length
             · obtain ⟨f, hf⟩ : ∃ f, c.fields[k]? = some f := ⟨_, List.getElem?_eq_getElem hlk⟩
               have hcw : FieldsAt wr ga p.gc c.fields := by rw [← HGA.out]; exact HC.out.2.1.below HM2.out.1
               obtain ⟨b', off, rfl, hlt, d0, d1⟩ := hcw.cells hf
               have hkc : k ≤ p.gc := by have := hcw.1; rw [List.length_map] at this; omega
               have HFE := Hd (fieldErr_at hf)
               have htl := HB.out.tys f (List.mem_of_getElem? hf)
               have HCO := Hd (fun W (hb : Below wr.heap.size wr W) (hg : wr.heap.size < W.heap.size) (hc : W.cell? ⟨wr.heap.size, 0, none⟩ = some (.string ⟨⟨f.nm⟩⟩)) => cut_field (f := f) (hcw.below hb) hk hfi hg hc)
               have HNF := Hd (fun w => name_calls f.nm w)
               have HFB := Hd (fbox_new wr f)
               clear hcw hf c0 c1 c2 c3 c5
               cases hn : nameOk f.nm with
               | false =>
                 rw [hn] at HNF
                 simp only [Bool.false_eq_true, if_false, if_true] at HNF
                 have hfe : fieldErr c.fields k = 1 := by rw [HFE.out, if_pos (Or.inl hn)]
                 have HEE := Hd (show E = errV 1 by rw [← HR3.out, rest3_at HZ.out (by rw [hfe]; simp) hlk, hfe]; rfl)
                 clear hn hfe
                 go_wp2_with fail
                 refine (HNF.out _).mono ?_
                 rintro e w3 ⟨rfl, hb3⟩
                 have HB3 := Hd (bl_trans HM2.out.1 (new_below hb3))
                 clear hb3
                 go_wp2_with fail
                 go_ret
                 exact ⟨by rw [HEE.out]; rfl, HB3.out⟩
               | true =>
                 rw [hn] at HNF
                 simp only [Bool.true_eq_false, if_false, if_true] at HNF
                 by_cases hty : TypeOk f.ty
                 · have HTY := Hd (fun w => check_ok f.ty hty w)
                   have hfe : fieldErr c.fields k = if (c.fields.take k).any (fun x => x.nm == f.nm) then 5 else 0 := by rw [HFE.out, if_neg (by rintro (h | h); rw [hn] at h; cases h; exact h hty)]
                   have HFE2 := Hd hfe
                   clear hn hty hfe HFE
                   go_wp2_with fail
                   refine (HNF.out _).mono ?_
                   rintro e w3 ⟨rfl, hb3⟩
                   have HM3 := Hd (HM2.out.below (new_below hb3))
                   have HW3 := Hd (new_below hb3)
                   have HFB3 := Hd (HFB.out.below hb3)
                   obtain ⟨hgf, f0, f1⟩ := HFB3.out
                   clear hb3 HFB
                   go_wp2_with fail
                   refine (HTY.out _).mono ?_
                   rintro e w4 ⟨rfl, hb4⟩
                   have HM4 := Hd (HM3.out.below hb4)
                   have HFB4 := Hd (HFB3.out.below hb4)
                   have HCC := Hd (HCO.out w4 (bl_trans HW3.out hb4) HFB4.out.1 HFB4.out.2.1)
                   clear hb4 hgf f0 f1 HFB3 HM3 HW3 HCO c4 hg
                   obtain ⟨hg, c0, c1, c2, c3, c4, c5⟩ := HM4.out.cells HFA.out HGA.out HMA.out
                   rw [HS.out] at c1
                   cases hct : (c.fields.take k).any (fun x => x.nm == f.nm) with
                   | true =>
                     rw [hct] at HCC HFE2
                     simp only [if_true] at HFE2
                     have HEE := Hd (show E = errV 5 by rw [← HR3.out, rest3_at HZ.out (by rw [HFE2.out]; simp) hlk, HFE2.out]; rfl)
                     clear hct
                     go_wp2_with fail
                     refine HCC.out.mono ?_
                     rintro e w5 ⟨rfl, hb5⟩
                     have HB5 := Hd (bl_trans HM4.out.1 hb5)
                     clear hb5
                     go_wp2_with fail
                     go_ret
                     exact ⟨by rw [HEE.out]; rfl, HB5.out⟩
                   | false =>
                     rw [hct] at HCC HFE2
                     simp only [Bool.false_eq_true, if_false] at HFE2
                     have HZ2 := Hd (upto_succ HZ.out HFE2.out)
                     clear hct
                     go_wp2_with fail
                     refine HCC.out.mono ?_
                     rintro e w5 ⟨rfl, hb5⟩
                     have HM5 := Hd (HM4.out.below hb5)
                     clear hb5
                     go_wp2_with fail
                     go_roundw
                     case rel => exact ⟨k + 1, by omega, by go_num, HM5.out, HZ2⟩
                     case measure => simp [RowKit.intOf]; omega
                 · have HTY := Hd (fun w => check_bad f.ty hty (by omega) w)
                   have hfe : fieldErr c.fields k = 1 := by rw [HFE.out, if_pos (Or.inr hty)]
                   have HEE := Hd (show E = errV 1 by rw [← HR3.out, rest3_at HZ.out (by rw [hfe]; simp) hlk, hfe]; rfl)
                   clear hn hty hfe
                   go_wp2_with fail
                   refine (HNF.out _).mono ?_
                   rintro e w3 ⟨rfl, hb3⟩
                   have HB3 := Hd (bl_trans HM2.out.1 (new_below hb3))
                   obtain ⟨hgf, f0, f1⟩ := HFB.out.below hb3
                   clear hb3
                   go_wp2_with fail
                   refine (HTY.out _).mono ?_
                   rintro e w4 ⟨rfl, hb4⟩
                   have HB4 := Hd (bl_trans HB3.out hb4)
                   clear hb4
                   go_wp2_with fail
                   go_ret
                   exact ⟨by rw [HEE.out]; rfl, HB4.out⟩
             · obtain rfl : k = c.fields.length := by omega
               have HR4 := Hd (show errOf (rest4 c) = E by rw [← HR3.out, rest3_4 HZ.out])
               clear HZ HR3 hlk
               go_wp2_with fail
               clear hg c0 c1 c2 c3 c4 c5
               go_loopw [88] (fun i wr => ∃ k : Nat, k ≤ c.meths.length ∧ i = .int .i64 k ∧ Mid w c p wr ∧ Hid (∀ j, j < k → methsErr c.meths j = 0)) (fun i _ => c.meths.length - (RowKit.intOf i).toNat)
               case atStart => exact ⟨0, by omega, rfl, HM2.out, Hd (by omega)⟩
               case round =>
                 obtain ⟨k, hk, rfl, hm, HZ⟩ := hrel
                 have HM3 := Hd hm
                 clear hm HM2
                 obtain ⟨hg, c0, c1, c2, c3, c4, c5⟩ := HM3.out.cells HFA.out HGA.out HMA.out
                 rw [HS.out] at c1
                 by_cases hlk : k < c.meths.length
                 · obtain ⟨m, hx⟩ : ∃ m, c.meths[k]? = some m := ⟨_, List.getElem?_eq_getElem hlk⟩
                   have hcw : MethsAt wr ma p.mc c.meths p.ps := by rw [← HMA.out]; exact HC.out.2.2.below HM3.out.1
                   obtain ⟨b', off, q, rfl, hlt, hq, hmq, d0, d1, d2, d3, d4, d5, d6, d7⟩ := hcw.cells hx
                   have hkc : k ≤ p.mc := by have := hcw.2.1.1; rw [List.length_zipWith, hcw.1] at this; omega
                   have HME := Hd (methsErr_at hx)
                   have HMB := HB.out.ms m (List.mem_of_getElem? hx)
                   have HMW := Hd (fun W (hb : Below wr.heap.size wr W) => cut_meth (hcw.below hb) hk hme (hmq.below hb) (HF.out.below (bl_trans HM3.out.1 hb)) HMB)
                   have HMX := Hd (mbox_new wr m q)
                   unfold methV at HMW
                   clear hcw hx hq hmq HMB c0 c2 c3 c4
                   go_wp2_with fail
                   obtain ⟨hgm, e0, e1, e2, e3, e4, e5, e6, e7⟩ := HMX.out
                   go_region_with (go_at_call 146; refine (HMW.out _ (by repeat (first | exact Below.refl _ _ | refine Below.drew ?_ | refine Below.alloc ?_ (by simp) _))).mono ?_; rintro e w3 ⟨rfl, hb3⟩; have HB3 := Hd (bl_trans (show Below wr.heap.size wr _ by repeat (first | exact Below.refl _ _ | refine Below.drew ?_ | refine Below.alloc ?_ (by simp) _)) hb3); clear hb3)
                   all_goals
                     have HM4 := Hd (HM3.out.below HB3.out)
                     clear HB3 HMX HMW hgm e0 e1 e2 e3 e4 e5 e6 e7 d0 d1 d2 d3 d4 d5 d6 d7 c1 c5 hg
                     by_cases hz : methErr m (c.meths.take k) = 0
                     · have HZ2 := Hd (upto_succ HZ.out (by rw [HME.out]; exact hz))
                       rw [hz, errOf_zero]
                       clear hz
                       go_wp2_with fail
                       go_roundw
                       case rel => exact ⟨k + 1, by omega, by go_num, HM4.out, HZ2⟩
                       case measure => simp [RowKit.intOf]; omega
                     · have HEE := Hd (show E = errV (methErr m (c.meths.take k)) by rw [← HR4.out, rest4_at HZ.out (by rw [HME.out]; exact hz) hlk, HME.out]; exact errOf_ne hz)
                       rw [errOf_ne hz]
                       generalize methErr m (c.meths.take k) = n at *
                       clear hz
                       go_wp2_with fail
                       go_ret
                       exact ⟨by rw [HEE.out]; rfl, HM4.out.1⟩
                 · obtain rfl : k = c.meths.length := by omega
                   have HR5 := Hd (show errOf (if c.face = true ∧ c.fields ≠ [] then 8 else 0) = E by rw [← HR4.out, rest4_end HZ.out])
                   clear HZ HR4 hlk
                   cases hfc : c.face with
                   | false =>
                     have HEE := Hd (show E = .nilIface by rw [← HR5.out, hfc]; rfl)
                     rw [hfc] at c3
                     clear hfc
                     go_wp2_with fail
                     go_ret
                     exact ⟨by rw [HEE.out]; rfl, HM3.out.1⟩
                   | true =>
                     rw [hfc] at c3
                     by_cases hfl : c.fields = []
                     · have HEE := Hd (show E = .nilIface by rw [← HR5.out, hfl]; simp [errOf_zero])
                       have hf0 : c.fields.length = 0 := by rw [hfl]; rfl
                       clear hfc hfl
                       go_wp2_with fail
                       go_ret
                       exact ⟨by rw [HEE.out]; rfl, HM3.out.1⟩
                     · have HEE := Hd (show E = errV 8 by rw [← HR5.out, if_pos ⟨hfc, hfl⟩]; rfl)
                       have hf0 : 0 < c.fields.length := List.length_pos_iff.2 hfl
                       clear hfc hfl
                       go_wp2_with fail
                       go_ret
                       exact ⟨by rw [HEE.out]; rfl, HM3.out.1⟩
   · have HR := Hd (show errOf (restErr c) = E by rw [← HE.out, classErr_rest (by rintro (h | ⟨h, _⟩); rw [HNN.out] at h; cases h; exact h hs)])
     rw [hs] at HX
     clear HE HN2
     go_enter Tryz.func82, Tryz.ntmps82
     obtain ⟨hg, c0, c1, c2, c3, c4, c5⟩ := HX.out
     rw [hs] at c1
     clear c2 c3 c4 c5
     go_wp2_with fail
     refine (HN1.out _).mono ?_
     rintro e w2 ⟨rfl, hb2⟩
     have HM2 := Hd (show Mid w c p w2 from ⟨new_below hb2, HX.out.below hb2⟩)
     have HS := Hd hs
     clear hb2 hs c0 c1 HX hg
     obtain ⟨hg, c0, c1, c2, c3, c4, c5⟩ := HM2.out.cells HFA.out HGA.out HMA.out
     rw [HS.out] at c1
     go_wp2_with fail
     clear hg c0 c1 c2 c3 c4 c5
     go_loopw [29] (fun i wr => ∃ k : Nat, k ≤ c.faces.length ∧ i = .int .i64 k ∧ Mid w c p wr ∧ Hid (∀ j, j < k → faceErr c.faces j = 0)) (fun i _ => c.faces.length - (RowKit.intOf i).toNat)
     case atStart => exact ⟨0, by omega, rfl, HM2.out, Hd (by omega)⟩
     case round =>
       obtain ⟨k, hk, rfl, hm, HZ⟩ := hrel
       have HM := Hd hm
       clear hm HM2
       obtain ⟨hg, c0, c1, c2, c3, c4, c5⟩ := HM.out.cells HFA.out HGA.out HMA.out
       rw [HS.out] at c1
       by_cases hlk : k < c.faces.length
       · obtain ⟨f, hf⟩ : ∃ f, c.faces[k]? = some f := ⟨_, List.getElem?_eq_getElem hlk⟩
         have hcw : SRow wr fa p.fc c.faces := by rw [← HFA.out]; exact HC.out.1.below HM.out.1
         obtain ⟨b, off, rfl, hlt, d0⟩ := strs_cell hcw hf
         have hkc : k ≤ p.fc := by have := hcw.1; omega
         have HFE := Hd (faceErr_at hf)
         have HCO := Hd (fun W (hb : Below wr.heap.size wr W) => contains_str (c.faces.take k) _ k p.fc f W ((hcw.below hb).take k) (by rw [List.length_take]; omega) (by rw [List.length_take]; omega))
         have HNF := Hd (fun w => name_calls f w)
         clear hcw hf
         cases hn : nameOk f with
         | false =>
           rw [hn] at HNF HFE
           simp only [Bool.false_eq_true, if_false, if_true] at HNF HFE
           have HEE := Hd (show E = errV 1 by rw [← HR.out, rest_face HZ.out (by rw [HFE.out]; simp) hlk, HFE.out]; rfl)
           clear hn
           go_wp2_with fail
           refine (HNF.out _).mono ?_
           rintro e w3 ⟨rfl, hb3⟩
           have HB3 := Hd (bl_trans HM.out.1 hb3)
           clear hb3
           go_wp2_with fail
           go_ret
           exact ⟨by rw [HEE.out]; rfl, HB3.out⟩
         | true =>
           rw [hn] at HNF HFE
           simp only [Bool.true_eq_false, if_false, if_true] at HNF HFE
           clear hn c0 c1 c2 c3 c4 c5
           go_wp2_with fail
           refine (HNF.out _).mono ?_
           rintro e w3 ⟨rfl, hb3⟩
           have HM3 := Hd (HM.out.below hb3)
           have HC3 := Hd (HCO.out w3 hb3)
           clear hb3 HCO
           obtain ⟨hg, c0, c1, c2, c3, c4, c5⟩ := HM3.out.cells HFA.out HGA.out HMA.out
           cases hct : (c.faces.take k).contains f with
           | true =>
             rw [hct] at HC3 HFE
             simp only [if_true] at HFE
             have HEE := Hd (show E = errV 5 by rw [← HR.out, rest_face HZ.out (by rw [HFE.out]; simp) hlk, HFE.out]; rfl)
             clear hct
             go_wp2_with fail
             refine HC3.out.mono ?_
             rintro e w4 ⟨rfl, rfl⟩
             go_wp2_with fail
             go_ret
             exact ⟨by rw [HEE.out]; rfl, HM3.out.1⟩
           | false =>
             rw [hct] at HC3 HFE
             simp only [Bool.false_eq_true, if_false] at HFE
             have HZ2 := Hd (upto_succ HZ.out HFE.out)
             clear hct
             go_wp2_with fail
             refine HC3.out.mono ?_
             rintro e w4 ⟨rfl, rfl⟩
             go_wp2_with fail
             go_roundw
             case rel => exact ⟨k + 1, by omega, by go_num, HM3.out, HZ2⟩
             case measure => simp [RowKit.intOf]; omega
       · obtain rfl : k = c.faces.length := by omega
         have HR2 := Hd (show errOf (rest2 c) = E by rw [← HR.out, restErr_2 HZ.out])
         clear HZ HR hlk
         have hmx := fun W => max_run W c.faces.length c.fields.length c.meths.length
         have hm3 := max3_is c.faces.length c.fields.length c.meths.length
         generalize max3 c.faces.length c.fields.length c.meths.length = my at hmx hm3
         by_cases h8 : 8 < c.faces.length ∨ 8 < c.fields.length ∨ 8 < c.meths.length
         · have HEE := Hd (show E = errV 4 by rw [← HR2.out]; unfold rest2; rw [if_pos h8]; rfl)
           have hn8 : 8 < my := by omega
           clear h8 hm3
           go_wp2_with fail
           go_ret
           exact ⟨by rw [HEE.out]; rfl, HM.out.1⟩
         · have HR3 := Hd (show errOf (rest3 c) = E by rw [← HR2.out]; unfold rest2; rw [if_neg h8])
           have hn8 : my ≤ 8 := by omega
           clear h8 hm3 HR2
           go_wp2_with fail
           clear hmx hn8 hg c0 c1 c2 c3 c4 c5
           go_loopw [61] (fun i wr => ∃ k : Nat, k ≤ c.fields.length ∧ i = .int .i64 k ∧ Mid w c p wr ∧ Hid (∀ j, j < k → fieldErr c.fields j = 0)) (fun i _ => c.fields.length - (RowKit.intOf i).toNat)
           case atStart => exact ⟨0, by omega, rfl, HM.out, Hd (by omega)⟩
           case round =>
             obtain ⟨k, hk, rfl, hm, HZ⟩ := hrel
             have HM2 := Hd hm
             clear hm HM
             obtain ⟨hg, c0, c1, c2, c3, c4, c5⟩ := HM2.out.cells HFA.out HGA.out HMA.out
             rw [HS.out] at c1
             by_cases hlk : k < c.fields.length
             · obtain ⟨f, hf⟩ : ∃ f, c.fields[k]? = some f := ⟨_, List.getElem?_eq_getElem hlk⟩
               have hcw : FieldsAt wr ga p.gc c.fields := by rw [← HGA.out]; exact HC.out.2.1.below HM2.out.1
               obtain ⟨b', off, rfl, hlt, d0, d1⟩ := hcw.cells hf
               have hkc : k ≤ p.gc := by have := hcw.1; rw [List.length_map] at this; omega
               have HFE := Hd (fieldErr_at hf)
               have htl := HB.out.tys f (List.mem_of_getElem? hf)
               have HCO := Hd (fun W (hb : Below wr.heap.size wr W) (hg : wr.heap.size < W.heap.size) (hc : W.cell? ⟨wr.heap.size, 0, none⟩ = some (.string ⟨⟨f.nm⟩⟩)) => cut_field (f := f) (hcw.below hb) hk hfi hg hc)
               have HNF := Hd (fun w => name_calls f.nm w)
               have HFB := Hd (fbox_new wr f)
               clear hcw hf c0 c1 c2 c3 c5
               cases hn : nameOk f.nm with
               | false =>
                 rw [hn] at HNF
                 simp only [Bool.false_eq_true, if_false, if_true] at HNF
                 have hfe : fieldErr c.fields k = 1 := by rw [HFE.out, if_pos (Or.inl hn)]
                 have HEE := Hd (show E = errV 1 by rw [← HR3.out, rest3_at HZ.out (by rw [hfe]; simp) hlk, hfe]; rfl)
                 clear hn hfe
                 go_wp2_with fail
                 refine (HNF.out _).mono ?_
                 rintro e w3 ⟨rfl, hb3⟩
                 have HB3 := Hd (bl_trans HM2.out.1 (new_below hb3))
                 clear hb3
                 go_wp2_with fail
                 go_ret
                 exact ⟨by rw [HEE.out]; rfl, HB3.out⟩
               | true =>
                 rw [hn] at HNF
                 simp only [Bool.true_eq_false, if_false, if_true] at HNF
                 by_cases hty : TypeOk f.ty
                 · have HTY := Hd (fun w => check_ok f.ty hty w)
                   have hfe : fieldErr c.fields k = if (c.fields.take k).any (fun x => x.nm == f.nm) then 5 else 0 := by rw [HFE.out, if_neg (by rintro (h | h); rw [hn] at h; cases h; exact h hty)]
                   have HFE2 := Hd hfe
                   clear hn hty hfe HFE
                   go_wp2_with fail
                   refine (HNF.out _).mono ?_
                   rintro e w3 ⟨rfl, hb3⟩
                   have HM3 := Hd (HM2.out.below (new_below hb3))
                   have HW3 := Hd (new_below hb3)
                   have HFB3 := Hd (HFB.out.below hb3)
                   obtain ⟨hgf, f0, f1⟩ := HFB3.out
                   clear hb3 HFB
                   go_wp2_with fail
                   refine (HTY.out _).mono ?_
                   rintro e w4 ⟨rfl, hb4⟩
                   have HM4 := Hd (HM3.out.below hb4)
                   have HFB4 := Hd (HFB3.out.below hb4)
                   have HCC := Hd (HCO.out w4 (bl_trans HW3.out hb4) HFB4.out.1 HFB4.out.2.1)
                   clear hb4 hgf f0 f1 HFB3 HM3 HW3 HCO c4 hg
                   obtain ⟨hg, c0, c1, c2, c3, c4, c5⟩ := HM4.out.cells HFA.out HGA.out HMA.out
                   rw [HS.out] at c1
                   cases hct : (c.fields.take k).any (fun x => x.nm == f.nm) with
                   | true =>
                     rw [hct] at HCC HFE2
                     simp only [if_true] at HFE2
                     have HEE := Hd (show E = errV 5 by rw [← HR3.out, rest3_at HZ.out (by rw [HFE2.out]; simp) hlk, HFE2.out]; rfl)
                     clear hct
                     go_wp2_with fail
                     refine HCC.out.mono ?_
                     rintro e w5 ⟨rfl, hb5⟩
                     have HB5 := Hd (bl_trans HM4.out.1 hb5)
                     clear hb5
                     go_wp2_with fail
                     go_ret
                     exact ⟨by rw [HEE.out]; rfl, HB5.out⟩
                   | false =>
                     rw [hct] at HCC HFE2
                     simp only [Bool.false_eq_true, if_false] at HFE2
                     have HZ2 := Hd (upto_succ HZ.out HFE2.out)
                     clear hct
                     go_wp2_with fail
                     refine HCC.out.mono ?_
                     rintro e w5 ⟨rfl, hb5⟩
                     have HM5 := Hd (HM4.out.below hb5)
                     clear hb5
                     go_wp2_with fail
                     go_roundw
                     case rel => exact ⟨k + 1, by omega, by go_num, HM5.out, HZ2⟩
                     case measure => simp [RowKit.intOf]; omega
                 · have HTY := Hd (fun w => check_bad f.ty hty (by omega) w)
                   have hfe : fieldErr c.fields k = 1 := by rw [HFE.out, if_pos (Or.inr hty)]
                   have HEE := Hd (show E = errV 1 by rw [← HR3.out, rest3_at HZ.out (by rw [hfe]; simp) hlk, hfe]; rfl)
                   clear hn hty hfe
                   go_wp2_with fail
                   refine (HNF.out _).mono ?_
                   rintro e w3 ⟨rfl, hb3⟩
                   have HB3 := Hd (bl_trans HM2.out.1 (new_below hb3))
                   obtain ⟨hgf, f0, f1⟩ := HFB.out.below hb3
                   clear hb3
                   go_wp2_with fail
                   refine (HTY.out _).mono ?_
                   rintro e w4 ⟨rfl, hb4⟩
                   have HB4 := Hd (bl_trans HB3.out hb4)
                   clear hb4
                   go_wp2_with fail
                   go_ret
                   exact ⟨by rw [HEE.out]; rfl, HB4.out⟩
             · obtain rfl : k = c.fields.length := by omega
               have HR4 := Hd (show errOf (rest4 c) = E by rw [← HR3.out, rest3_4 HZ.out])
               clear HZ HR3 hlk
               go_wp2_with fail
               clear hg c0 c1 c2 c3 c4 c5
               go_loopw [88] (fun i wr => ∃ k : Nat, k ≤ c.meths.length ∧ i = .int .i64 k ∧ Mid w c p wr ∧ Hid (∀ j, j < k → methsErr c.meths j = 0)) (fun i _ => c.meths.length - (RowKit.intOf i).toNat)
               case atStart => exact ⟨0, by omega, rfl, HM2.out, Hd (by omega)⟩
               case round =>
                 obtain ⟨k, hk, rfl, hm, HZ⟩ := hrel
                 have HM3 := Hd hm
                 clear hm HM2
                 obtain ⟨hg, c0, c1, c2, c3, c4, c5⟩ := HM3.out.cells HFA.out HGA.out HMA.out
                 rw [HS.out] at c1
                 by_cases hlk : k < c.meths.length
                 · obtain ⟨m, hx⟩ : ∃ m, c.meths[k]? = some m := ⟨_, List.getElem?_eq_getElem hlk⟩
                   have hcw : MethsAt wr ma p.mc c.meths p.ps := by rw [← HMA.out]; exact HC.out.2.2.below HM3.out.1
                   obtain ⟨b', off, q, rfl, hlt, hq, hmq, d0, d1, d2, d3, d4, d5, d6, d7⟩ := hcw.cells hx
                   have hkc : k ≤ p.mc := by have := hcw.2.1.1; rw [List.length_zipWith, hcw.1] at this; omega
                   have HME := Hd (methsErr_at hx)
                   have HMB := HB.out.ms m (List.mem_of_getElem? hx)
                   have HMW := Hd (fun W (hb : Below wr.heap.size wr W) => cut_meth (hcw.below hb) hk hme (hmq.below hb) (HF.out.below (bl_trans HM3.out.1 hb)) HMB)
                   have HMX := Hd (mbox_new wr m q)
                   unfold methV at HMW
                   clear hcw hx hq hmq HMB c0 c2 c3 c4
                   go_wp2_with fail
                   obtain ⟨hgm, e0, e1, e2, e3, e4, e5, e6, e7⟩ := HMX.out
                   go_region_with (go_at_call 146; refine (HMW.out _ (by repeat (first | exact Below.refl _ _ | refine Below.drew ?_ | refine Below.alloc ?_ (by simp) _))).mono ?_; rintro e w3 ⟨rfl, hb3⟩; have HB3 := Hd (bl_trans (show Below wr.heap.size wr _ by repeat (first | exact Below.refl _ _ | refine Below.drew ?_ | refine Below.alloc ?_ (by simp) _)) hb3); clear hb3)
                   all_goals
                     have HM4 := Hd (HM3.out.below HB3.out)
                     clear HB3 HMX HMW hgm e0 e1 e2 e3 e4 e5 e6 e7 d0 d1 d2 d3 d4 d5 d6 d7 c1 c5 hg
                     by_cases hz : methErr m (c.meths.take k) = 0
                     · have HZ2 := Hd (upto_succ HZ.out (by rw [HME.out]; exact hz))
                       rw [hz, errOf_zero]
                       clear hz
                       go_wp2_with fail
                       go_roundw
                       case rel => exact ⟨k + 1, by omega, by go_num, HM4.out, HZ2⟩
                       case measure => simp [RowKit.intOf]; omega
                     · have HEE := Hd (show E = errV (methErr m (c.meths.take k)) by rw [← HR4.out, rest4_at HZ.out (by rw [HME.out]; exact hz) hlk, HME.out]; exact errOf_ne hz)
                       rw [errOf_ne hz]
                       generalize methErr m (c.meths.take k) = n at *
                       clear hz
                       go_wp2_with fail
                       go_ret
                       exact ⟨by rw [HEE.out]; rfl, HM4.out.1⟩
                 · obtain rfl : k = c.meths.length := by omega
                   have HR5 := Hd (show errOf (if c.face = true ∧ c.fields ≠ [] then 8 else 0) = E by rw [← HR4.out, rest4_end HZ.out])
                   clear HZ HR4 hlk
                   cases hfc : c.face with
                   | false =>
                     have HEE := Hd (show E = .nilIface by rw [← HR5.out, hfc]; rfl)
                     rw [hfc] at c3
                     clear hfc
                     go_wp2_with fail
                     go_ret
                     exact ⟨by rw [HEE.out]; rfl, HM3.out.1⟩
                   | true =>
                     rw [hfc] at c3
                     by_cases hfl : c.fields = []
                     · have HEE := Hd (show E = .nilIface by rw [← HR5.out, hfl]; simp [errOf_zero])
                       have hf0 : c.fields.length = 0 := by rw [hfl]; rfl
                       clear hfc hfl
                       go_wp2_with fail
                       go_ret
                       exact ⟨by rw [HEE.out]; rfl, HM3.out.1⟩
                     · have HEE := Hd (show E = errV 8 by rw [← HR5.out, if_pos ⟨hfc, hfl⟩]; rfl)
                       have hf0 : 0 < c.fields.length := List.length_pos_iff.2 hfl
                       clear hfc hfl
                       go_wp2_with fail
                       go_ret
                       exact ⟨by rw [HEE.out]; rfl, HM3.out.1⟩
end Go.Proofs.YtddbnboicmaooaaGreatDoor
