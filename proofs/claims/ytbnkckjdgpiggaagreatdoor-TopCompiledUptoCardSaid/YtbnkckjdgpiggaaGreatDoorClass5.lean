import Derived.Test.YtbnkckjdgpiggaaGreatDoorOpens
namespace Go.Proofs.YtbnkckjdgpiggaaGreatDoor
set_option maxRecDepth 100000
set_option maxHeartbeats 16000000
set_option linter.unusedVariables false
set_option linter.unusedSimpArgs false
open Go.RowKit Go.Shelf Go.Lib
def z0w (a b c : Nat) : Nat := if (if a < b then b else a) < c then c else if a < b then b else a
theorem z0k (a b c : Nat) : a <= z0w a b c /\ b <= z0w a b c /\ c <= z0w a b c /\ (z0w a b c = a \/ z0w a b c = b \/ z0w a b c = c) := by
 unfold z0w
 split <;> split at * <;> omega
theorem zxt (W : World) (a b c : Nat) : (Builtin.max_ #[3, 3, 3] 3 #[.int .i64 (a : Int), .int .i64 (b : Int), .int .i64 (c : Int)]).run Tryz.prog W = .ok (.int .i64 (z0w a b c : Int)) W := by
 unfold z0w
 by_cases h1 : a < b
 . by_cases h2 : b < c
   . simp [Builtin.max_, Builtin.max2, go_sem, h1, h2]
   . simp [Builtin.max_, Builtin.max2, go_sem, h1, h2]
 . by_cases h2 : a < c
   . simp [Builtin.max_, Builtin.max2, go_sem, h1, h2]
   . simp [Builtin.max_, Builtin.max2, go_sem, h1, h2]
noncomputable def zpn (c : zd) : Int :=
 if zw (zbu c.meths) c.meths.length ≠ 0 then zw (zbu c.meths) c.meths.length
 else if c.face = true /\ c.fields ≠ [] then 8
 else 0
noncomputable def zrp (c : zd) : Int := if zw (za9 c.fields) c.fields.length ≠ 0 then zw (za9 c.fields) c.fields.length else zpn c
noncomputable def zoa (c : zd) : Int := if 8 < c.faces.length \/ 8 < c.fields.length \/ 8 < c.meths.length then 4 else zrp c
noncomputable def zg9 (c : zd) : Int := if zw (zdo c.faces) c.faces.length ≠ 0 then zw (zdo c.faces) c.faces.length else zoa c
theorem zie {c : zd} (h : ¬ (zr c.nm = false \/ (c.sup ≠ [] /\ zr c.sup = false))) : za3 c = zg9 c := by unfold za3 zg9 zoa zrp zpn; rw [if_neg h]
theorem zq1 {c : zd} (h : ∀ j, j < c.faces.length -> zdo c.faces j = 0) : zg9 c = zoa c := by unfold zg9; rw [if_neg (by rw [(zx _ _).2 h]; simp)]
theorem z0c {c : zd} (h : ∀ j, j < c.fields.length -> za9 c.fields j = 0) : zrp c = zpn c := by unfold zrp; rw [if_neg (by rw [(zx _ _).2 h]; simp)]
theorem zhf {c : zd} {k : Nat} (h0 : ∀ j, j < k -> za9 c.fields j = 0) (hk : za9 c.fields k ≠ 0) (hl : k < c.fields.length) : zrp c = za9 c.fields k := by
 have := zb8 h0 hk _ hl
 unfold zrp
 rw [this, if_pos hk]
theorem zt5 {c : zd} {k : Nat} (h0 : ∀ j, j < k -> zbu c.meths j = 0) (hk : zbu c.meths k ≠ 0) (hl : k < c.meths.length) : zpn c = zbu c.meths k := by
 have := zb8 h0 hk _ hl
 unfold zpn
 rw [this, if_pos hk]
theorem zp8 {c : zd} (h : ∀ j, j < c.meths.length -> zbu c.meths j = 0) : zpn c = if c.face = true /\ c.fields ≠ [] then 8 else 0 := by unfold zpn; rw [if_neg (by rw [(zx _ _).2 h]; simp)]
theorem znn {l : List (List UInt8)} {k : Nat} {f : List UInt8} (h : l[k]? = some f) : zdo l k = if zr f = false then 1 else if (l.take k).contains f then 5 else 0 := by unfold zdo; rw [h]; rfl
open Classical in
theorem zl1 {l : List za1} {k : Nat} {f : za1} (h : l[k]? = some f) : za9 l k = if zr f.nm = false \/ ¬ zi f.ty then 1 else if (l.take k).any (fun x => x.nm == f.nm) then 5 else 0 := by
 unfold za9; rw [h]; rfl
theorem zmb {l : List zo} {k : Nat} {m : zo} (h : l[k]? = some m) : zbu l k = zbx m (l.take k) := by unfold zbu; rw [h]; rfl
def Mid (w : World) (c : zd) (p : zbf) (wr : World) : Prop := Below w.heap.size w wr /\ z7o wr w.heap.size c p
theorem Mid.below {w wr wr' : World} {c : zd} {p : zbf} (h : Mid w c p wr) (hb : Below wr.heap.size wr wr') : Mid w c p wr' := ⟨zc h.1 hb, h.2.below hb⟩
theorem Mid.cells {w wr : World} {c : zd} {p : zbf} {fa ga ma : Option Addr} (h : Mid w c p wr) (hf : p.fa = fa) (hg : p.ga = ga) (hm : p.ma = ma) : w.heap.size < wr.heap.size /\ wr.cell? ⟨w.heap.size, 0, none⟩ = some (.string ⟨⟨c.nm⟩⟩) /\ wr.cell? ⟨w.heap.size, 1, none⟩ = some (.string ⟨⟨c.sup⟩⟩) /\ wr.cell? ⟨w.heap.size, 2, none⟩ = some (.slice fa c.faces.length p.fc) /\ wr.cell? ⟨w.heap.size, 3, none⟩ = some (.bool c.face) /\
   wr.cell? ⟨w.heap.size, 4, none⟩ = some (.slice ga c.fields.length p.gc) /\ wr.cell? ⟨w.heap.size, 5, none⟩ = some (.slice ma c.meths.length p.mc) := by
 subst hf hg hm
 exact h.2
theorem zil {c : zd} {k : Nat} (h0 : ∀ j, j < k -> zdo c.faces j = 0) (hk : zdo c.faces k ≠ 0) (hl : k < c.faces.length) : zg9 c = zdo c.faces k := by
 have := zb8 h0 hk _ hl
 unfold zg9
 rw [this, if_pos hk]
def z8k (W : World) (g : Nat) (f : za1) : Prop := g < W.heap.size /\ W.cell? ⟨g, 0, none⟩ = some (.string ⟨⟨f.nm⟩⟩) /\ W.cell? ⟨g, 1, none⟩ = some (.string ⟨⟨f.ty⟩⟩)
theorem z8k.below {W W' : World} {g : Nat} {f : za1} (h : z8k W g f) (hb : Below W.heap.size W W') : z8k W' g f := by
 obtain ⟨h0, h1, h2⟩ := h
 refine ⟨Nat.lt_of_lt_of_le h0 hb.size, ?_, ?_⟩ <;> (rw [hb.cell (p := ⟨g, _, none⟩) h0]; assumption)
theorem zug (w : World) (f : za1) : z8k (w.alloc (.cells #[.string ⟨⟨f.nm⟩⟩, .string ⟨⟨f.ty⟩⟩] 174)) w.heap.size f := by
 refine ⟨by simp, ?_, ?_⟩ <;> rw [World.cell?_alloc_new] <;> rfl
theorem zp7 {l : List za1} {f : za1} {W : World} {ga : Option Addr} {cap k g : Nat} (h : zb2 W ga cap l) (hk : k <= l.length) (hl : l.length <= 100000000) (hg : g < W.heap.size) (hc : W.cell? ⟨g, 0, none⟩ = some (.string ⟨⟨f.nm⟩⟩)) :
   Calls Tryz.prog 114 #[.slice ga k cap, .func (.func 115) #[] #[.pointer (some ⟨g, 0, none⟩)]] W fun e w' => e = .returned (.bool ((l.take k).any (fun x => x.nm == f.nm))) /\ Below W.heap.size W w' := by
 have h1 : (l.take k).length = k := by rw [List.length_take]; omega
 have := zoj (l.take k) ga cap W #[.pointer (some ⟨g, 0, none⟩)] (fun x => x.nm == f.nm) (h.take k) (by omega) (fun j x _ => zzw x f g W hg hc)
 rwa [h1] at this
theorem zu4 {l : List zo} {m : zo} {q : zaf} {W : World} {ma : Option Addr} {cap k : Nat} {ps : List zaf} (h : zct W ma cap l ps) (hk : k <= l.length) (hl : l.length <= 100000000) (hm : zer W m q) (hF : zaw W) (hB : z4j m) :
   Calls Tryz.prog 116 #[zca m q, .slice ma k cap] W fun e w' => e = .returned (zaj (zbx m (l.take k))) /\ Below W.heap.size W w' := by
 have h1 : (l.take k).length = k := by rw [List.length_take]; omega
 have := zst m q (l.take k) ma cap (ps.take k) W hm (h.take k) hF hB.tys hB.ty hB.code hB.hs (by omega)
 rwa [h1] at this
theorem zs1 (c : zd) (p : zbf) (w : World) (hC : zf3 w c p) (hF : zaw w) (hb : zze c) :
   Calls Tryz.prog 77 #[zbl c p] w fun e w' => e = .returned (zaj (za3 c)) /\ Below w.heap.size w w' := by
 generalize hE : zaj (za3 c) = E
 have HE := Hq hE
 have HX := Hq (zpk w c p)
 have HC := Hq hC
 have HF := Hq hF
 have HB := Hq hb
 have hfa := hb.faces
 have hfi := hb.fields
 have hme := hb.meths
 clear hE hC hF hb
 unfold zbl
 generalize hpfa : p.fa = fa at *
 generalize hpga : p.ga = ga at *
 generalize hpma : p.ma = ma at *
 have HFA := Hq hpfa
 have HGA := Hq hpga
 have HMA := Hq hpma
 clear hpfa hpga hpma
 have HN1 := Hq (fun w => zbn c.nm w)
 have HN2 := Hq (fun w => zbn c.sup w)
 cases hn : zr c.nm with
 | false =>
   have HEE := Hq (show E = zby 1 by rw [<- HE.out]; unfold za3; rw [if_pos (Or.inl hn)]; rfl)
   rw [hn] at HN1
   simp only [Bool.false_eq_true, if_false] at HN1
   clear hn
   go_enter Tryz.func77, Tryz.ntmps77
   obtain ⟨hg, c0, c1, c2, c3, c4, c5⟩ := HX.out
   clear c1 c2 c3 c4 c5
   go_wp2_with fail
   refine (HN1.out _).mono ?_
   rintro e w1 ⟨rfl, hb1⟩
   have HB1 := Hq (zq hb1)
   clear hb1
   go_wp2_with fail
   go_ret
   exact ⟨by rw [HEE.out]; rfl, HB1.out⟩
 | true =>
   rw [hn] at HN1
   simp only [if_true] at HN1
   have HNN := Hq hn
   clear hn
   have hway : (c.sup = []) \/ (∃ b r, c.sup = b :: r /\ zr c.sup = false) \/ (∃ b r, c.sup = b :: r /\ zr c.sup = true) := by
     cases h : c.sup with
     | nil => exact Or.inl rfl
     | cons b r =>
       right
       cases h2 : zr (b :: r)
       . exact Or.inl ⟨b, r, rfl, rfl⟩
       . exact Or.inr ⟨b, r, rfl, rfl⟩
   rcases hway with hs | ⟨b, r, hs, hn⟩ | ⟨b, r, hs, hn⟩
   rotate_left
   . have HEE := Hq (show E = zby 1 by rw [<- HE.out]; unfold za3; rw [if_pos (Or.inr ⟨by rw [hs]; simp, hn⟩)]; rfl)
     rw [hn] at HN2
     rw [hs] at HX HN2
     simp only [Bool.false_eq_true, if_false] at HN2
     clear hn
     go_enter Tryz.func77, Tryz.ntmps77
     obtain ⟨hg, c0, c1, c2, c3, c4, c5⟩ := HX.out
     rw [hs] at c1
     clear c2 c3 c4 c5
     go_wp2_with fail
     refine (HN1.out _).mono ?_
     rintro e w1 ⟨rfl, hb1⟩
     have HB1 := Hq (zq hb1)
     have HX1 := Hq (HX.out.below hb1)
     obtain ⟨hg, d0, d1, d2, d3, d4, d5⟩ := HX1.out
     rw [hs] at d1
     clear hb1 c0 c1 d2 d3 d4 d5
     go_wp2_with fail
     refine (HN2.out _).mono ?_
     rintro e w2 ⟨rfl, hb2⟩
     have HB2 := Hq (zc HB1.out hb2)
     clear hb2
     go_wp2_with fail
     go_ret
     exact ⟨by rw [HEE.out]; rfl, HB2.out⟩
   . have HR := Hq (show zaj (zg9 c) = E by rw [<- HE.out, zie (by rintro (h | ⟨_, h⟩); rw [HNN.out] at h; cases h; rw [hn] at h; cases h)])
     rw [hn] at HN2
     rw [hs] at HX HN2
     simp only [if_true] at HN2
     clear hn HE
     go_enter Tryz.func77, Tryz.ntmps77
     obtain ⟨hg, c0, c1, c2, c3, c4, c5⟩ := HX.out
     rw [hs] at c1
     clear c2 c3 c4 c5
     go_wp2_with fail
     refine (HN1.out _).mono ?_
     rintro e w1 ⟨rfl, hb1⟩
     have HB1 := Hq (zq hb1)
     have HX1 := Hq (HX.out.below hb1)
     obtain ⟨hg, d0, d1, d2, d3, d4, d5⟩ := HX1.out
     rw [hs] at d1
     clear hb1 c0 c1 d2 d3 d4 d5
     go_wp2_with fail
     refine (HN2.out _).mono ?_
     rintro e w2 ⟨rfl, hb2⟩
     have HM2 := Hq (show Mid w c p w2 from ⟨zc HB1.out hb2, HX1.out.below hb2⟩)
     have HS := Hq hs
     clear hb2 hs d0 d1 HB1 HX HX1 hg
     obtain ⟨hg, c0, c1, c2, c3, c4, c5⟩ := HM2.out.cells HFA.out HGA.out HMA.out
     rw [HS.out] at c1
     go_wp2_with fail
     clear hg c0 c1 c2 c3 c4 c5
     go_loopw [29] (fun i wr => ∃ k : Nat, k <= c.faces.length /\ i = .int .i64 k /\ Mid w c p wr /\ Hid (∀ j, j < k -> zdo c.faces j = 0)) (fun i _ => c.faces.length - (RowKit.intOf i).toNat)
     case atStart => exact ⟨0, by omega, rfl, HM2.out, Hq (by omega)⟩
     case round =>
       obtain ⟨k, hk, rfl, hm, HZ⟩ := hrel
       have HM := Hq hm
       clear hm HM2
       obtain ⟨hg, c0, c1, c2, c3, c4, c5⟩ := HM.out.cells HFA.out HGA.out HMA.out
       rw [HS.out] at c1
       by_cases hlk : k < c.faces.length
       . obtain ⟨f, hf⟩ : ∃ f, c.faces[k]? = some f := ⟨_, List.getElem?_eq_getElem hlk⟩
         have hcw : zdl wr fa p.fc c.faces := by rw [<- HFA.out]; exact HC.out.1.below HM.out.1
         obtain ⟨b, off, rfl, hlt, d0⟩ := zbr hcw hf
         have hkc : k <= p.fc := by have := hcw.1; omega
         have HFE := Hq (znn hf)
         have HCO := Hq (fun W (hb : Below wr.heap.size wr W) => zc9 (c.faces.take k) _ k p.fc f W ((hcw.below hb).take k) (by rw [List.length_take]; omega) (by rw [List.length_take]; omega))
         have HNF := Hq (fun w => zbn f w)
         clear hcw hf
         cases hn : zr f with
         | false =>
           rw [hn] at HNF HFE
           simp only [Bool.false_eq_true, if_false, if_true] at HNF HFE
           have HEE := Hq (show E = zby 1 by rw [<- HR.out, zil HZ.out (by rw [HFE.out]; simp) hlk, HFE.out]; rfl)
           clear hn
           go_wp2_with fail
           refine (HNF.out _).mono ?_
           rintro e w3 ⟨rfl, hb3⟩
           have HB3 := Hq (zc HM.out.1 hb3)
           clear hb3
           go_wp2_with fail
           go_ret
           exact ⟨by rw [HEE.out]; rfl, HB3.out⟩
         | true =>
           rw [hn] at HNF HFE
           simp only [Bool.true_eq_false, if_false, if_true] at HNF HFE
           clear hn c0 c1 c2 c3 c4 c5
           go_wp2_with fail
           refine (HNF.out _).mono ?_
           rintro e w3 ⟨rfl, hb3⟩
           have HM3 := Hq (HM.out.below hb3)
           have HC3 := Hq (HCO.out w3 hb3)
           clear hb3 HCO
           obtain ⟨hg, c0, c1, c2, c3, c4, c5⟩ := HM3.out.cells HFA.out HGA.out HMA.out
           cases hct : (c.faces.take k).contains f with
           | true =>
             rw [hct] at HC3 HFE
             simp only [if_true] at HFE
             have HEE := Hq (show E = zby 5 by rw [<- HR.out, zil HZ.out (by rw [HFE.out]; simp) hlk, HFE.out]; rfl)
             clear hct
             go_wp2_with fail
             refine HC3.out.mono ?_
             rintro e w4 ⟨rfl, rfl⟩
             go_wp2_with fail
             go_ret
             exact ⟨by rw [HEE.out]; rfl, HM3.out.1⟩
           | false =>
             rw [hct] at HC3 HFE
             simp only [Bool.false_eq_true, if_false] at HFE
             have HZ2 := Hq (zb6 HZ.out HFE.out)
             clear hct
             go_wp2_with fail
             refine HC3.out.mono ?_
             rintro e w4 ⟨rfl, rfl⟩
             go_wp2_with fail
             go_roundw
             case rel => exact ⟨k + 1, by omega, by go_num, HM3.out, HZ2⟩
             case measure => simp [RowKit.intOf]; omega
       . obtain rfl : k = c.faces.length := by omega
         have HR2 := Hq (show zaj (zoa c) = E by rw [<- HR.out, zq1 HZ.out])
         clear HZ HR hlk
         have hmx := fun W => zxt W c.faces.length c.fields.length c.meths.length
         have hm3 := z0k c.faces.length c.fields.length c.meths.length
         generalize z0w c.faces.length c.fields.length c.meths.length = my at hmx hm3
         by_cases h8 : 8 < c.faces.length \/ 8 < c.fields.length \/ 8 < c.meths.length
         . have HEE := Hq (show E = zby 4 by rw [<- HR2.out]; unfold zoa; rw [if_pos h8]; rfl)
           have hn8 : 8 < my := by omega
           clear h8 hm3
           go_wp2_with fail
           go_ret
           exact ⟨by rw [HEE.out]; rfl, HM.out.1⟩
         . have HR3 := Hq (show zaj (zrp c) = E by rw [<- HR2.out]; unfold zoa; rw [if_neg h8])
           have hn8 : my <= 8 := by omega
           clear h8 hm3 HR2
           go_wp2_with fail
           clear hmx hn8 hg c0 c1 c2 c3 c4 c5
           go_loopw [61] (fun i wr => ∃ k : Nat, k <= c.fields.length /\ i = .int .i64 k /\ Mid w c p wr /\ Hid (∀ j, j < k -> za9 c.fields j = 0)) (fun i _ => c.fields.length - (RowKit.intOf i).toNat)
           case atStart => exact ⟨0, by omega, rfl, HM.out, Hq (by omega)⟩
           case round =>
             obtain ⟨k, hk, rfl, hm, HZ⟩ := hrel
             have HM2 := Hq hm
             clear hm HM
             obtain ⟨hg, c0, c1, c2, c3, c4, c5⟩ := HM2.out.cells HFA.out HGA.out HMA.out
             rw [HS.out] at c1
             by_cases hlk : k < c.fields.length
             . obtain ⟨f, hf⟩ : ∃ f, c.fields[k]? = some f := ⟨_, List.getElem?_eq_getElem hlk⟩
               have hcw : zb2 wr ga p.gc c.fields := by rw [<- HGA.out]; exact HC.out.2.1.below HM2.out.1
               obtain ⟨b', off, rfl, hlt, d0, d1⟩ := hcw.cells hf
               have hkc : k <= p.gc := by have := hcw.1; rw [List.length_map] at this; omega
               have HFE := Hq (zl1 hf)
               have htl := HB.out.tys f (List.mem_of_getElem? hf)
               have HCO := Hq (fun W (hb : Below wr.heap.size wr W) (hg : wr.heap.size < W.heap.size) (hc : W.cell? ⟨wr.heap.size, 0, none⟩ = some (.string ⟨⟨f.nm⟩⟩)) => zp7 (f := f) (hcw.below hb) hk hfi hg hc)
               have HNF := Hq (fun w => zbn f.nm w)
               have HFB := Hq (zug wr f)
               clear hcw hf c0 c1 c2 c3 c5
               cases hn : zr f.nm with
               | false =>
                 rw [hn] at HNF
                 simp only [Bool.false_eq_true, if_false, if_true] at HNF
                 have hfe : za9 c.fields k = 1 := by rw [HFE.out, if_pos (Or.inl hn)]
                 have HEE := Hq (show E = zby 1 by rw [<- HR3.out, zhf HZ.out (by rw [hfe]; simp) hlk, hfe]; rfl)
                 clear hn hfe
                 go_wp2_with fail
                 refine (HNF.out _).mono ?_
                 rintro e w3 ⟨rfl, hb3⟩
                 have HB3 := Hq (zc HM2.out.1 (zq hb3))
                 clear hb3
                 go_wp2_with fail
                 go_ret
                 exact ⟨by rw [HEE.out]; rfl, HB3.out⟩
               | true =>
                 rw [hn] at HNF
                 simp only [Bool.true_eq_false, if_false, if_true] at HNF
                 by_cases hty : zi f.ty
                 . have HTY := Hq (fun w => zc1 f.ty hty w)
                   have hfe : za9 c.fields k = if (c.fields.take k).any (fun x => x.nm == f.nm) then 5 else 0 := by rw [HFE.out, if_neg (by rintro (h | h); rw [hn] at h; cases h; exact h hty)]
                   have HFE2 := Hq hfe
                   clear hn hty hfe HFE
                   go_wp2_with fail
                   refine (HNF.out _).mono ?_
                   rintro e w3 ⟨rfl, hb3⟩
                   have HM3 := Hq (HM2.out.below (zq hb3))
                   have HW3 := Hq (zq hb3)
                   have HFB3 := Hq (HFB.out.below hb3)
                   obtain ⟨hgf, f0, f1⟩ := HFB3.out
                   clear hb3 HFB
                   go_wp2_with fail
                   refine (HTY.out _).mono ?_
                   rintro e w4 ⟨rfl, hb4⟩
                   have HM4 := Hq (HM3.out.below hb4)
                   have HFB4 := Hq (HFB3.out.below hb4)
                   have HCC := Hq (HCO.out w4 (zc HW3.out hb4) HFB4.out.1 HFB4.out.2.1)
                   clear hb4 hgf f0 f1 HFB3 HM3 HW3 HCO c4 hg
                   obtain ⟨hg, c0, c1, c2, c3, c4, c5⟩ := HM4.out.cells HFA.out HGA.out HMA.out
                   rw [HS.out] at c1
                   cases hct : (c.fields.take k).any (fun x => x.nm == f.nm) with
                   | true =>
                     rw [hct] at HCC HFE2
                     simp only [if_true] at HFE2
                     have HEE := Hq (show E = zby 5 by rw [<- HR3.out, zhf HZ.out (by rw [HFE2.out]; simp) hlk, HFE2.out]; rfl)
                     clear hct
                     go_wp2_with fail
                     refine HCC.out.mono ?_
                     rintro e w5 ⟨rfl, hb5⟩
                     have HB5 := Hq (zc HM4.out.1 hb5)
                     clear hb5
                     go_wp2_with fail
                     go_ret
                     exact ⟨by rw [HEE.out]; rfl, HB5.out⟩
                   | false =>
                     rw [hct] at HCC HFE2
                     simp only [Bool.false_eq_true, if_false] at HFE2
                     have HZ2 := Hq (zb6 HZ.out HFE2.out)
                     clear hct
                     go_wp2_with fail
                     refine HCC.out.mono ?_
                     rintro e w5 ⟨rfl, hb5⟩
                     have HM5 := Hq (HM4.out.below hb5)
                     clear hb5
                     go_wp2_with fail
                     go_roundw
                     case rel => exact ⟨k + 1, by omega, by go_num, HM5.out, HZ2⟩
                     case measure => simp [RowKit.intOf]; omega
                 . have HTY := Hq (fun w => zdi f.ty hty (by omega) w)
                   have hfe : za9 c.fields k = 1 := by rw [HFE.out, if_pos (Or.inr hty)]
                   have HEE := Hq (show E = zby 1 by rw [<- HR3.out, zhf HZ.out (by rw [hfe]; simp) hlk, hfe]; rfl)
                   clear hn hty hfe
                   go_wp2_with fail
                   refine (HNF.out _).mono ?_
                   rintro e w3 ⟨rfl, hb3⟩
                   have HB3 := Hq (zc HM2.out.1 (zq hb3))
                   obtain ⟨hgf, f0, f1⟩ := HFB.out.below hb3
                   clear hb3
                   go_wp2_with fail
                   refine (HTY.out _).mono ?_
                   rintro e w4 ⟨rfl, hb4⟩
                   have HB4 := Hq (zc HB3.out hb4)
                   clear hb4
                   go_wp2_with fail
                   go_ret
                   exact ⟨by rw [HEE.out]; rfl, HB4.out⟩
             . obtain rfl : k = c.fields.length := by omega
               have HR4 := Hq (show zaj (zpn c) = E by rw [<- HR3.out, z0c HZ.out])
               clear HZ HR3 hlk
               go_wp2_with fail
               clear hg c0 c1 c2 c3 c4 c5
               go_loopw [88] (fun i wr => ∃ k : Nat, k <= c.meths.length /\ i = .int .i64 k /\ Mid w c p wr /\ Hid (∀ j, j < k -> zbu c.meths j = 0)) (fun i _ => c.meths.length - (RowKit.intOf i).toNat)
               case atStart => exact ⟨0, by omega, rfl, HM2.out, Hq (by omega)⟩
               case round =>
                 obtain ⟨k, hk, rfl, hm, HZ⟩ := hrel
                 have HM3 := Hq hm
                 clear hm HM2
                 obtain ⟨hg, c0, c1, c2, c3, c4, c5⟩ := HM3.out.cells HFA.out HGA.out HMA.out
                 rw [HS.out] at c1
                 by_cases hlk : k < c.meths.length
                 . obtain ⟨m, hx⟩ : ∃ m, c.meths[k]? = some m := ⟨_, List.getElem?_eq_getElem hlk⟩
                   have hcw : zct wr ma p.mc c.meths p.ps := by rw [<- HMA.out]; exact HC.out.2.2.below HM3.out.1
                   obtain ⟨b', off, q, rfl, hlt, hq, hmq, d0, d1, d2, d3, d4, d5, d6, d7⟩ := hcw.cells hx
                   have hkc : k <= p.mc := by have := hcw.2.1.1; rw [List.length_zipWith, hcw.1] at this; omega
                   have HME := Hq (zmb hx)
                   have HMB := HB.out.ms m (List.mem_of_getElem? hx)
                   have HMW := Hq (fun W (hb : Below wr.heap.size wr W) => zu4 (hcw.below hb) hk hme (hmq.below hb) (HF.out.below (zc HM3.out.1 hb)) HMB)
                   have HMX := Hq (zga wr m q)
                   unfold zca at HMW
                   clear hcw hx hq hmq HMB c0 c2 c3 c4
                   go_wp2_with fail
                   obtain ⟨hgm, e0, e1, e2, e3, e4, e5, e6, e7⟩ := HMX.out
                   go_region_with (go_at_call 116; refine (HMW.out _ (by repeat (first | exact Below.refl _ _ | refine Below.drew ?_ | refine Below.alloc ?_ (by simp) _))).mono ?_; rintro e w3 ⟨rfl, hb3⟩; have HB3 := Hq (zc (show Below wr.heap.size wr _ by repeat (first | exact Below.refl _ _ | refine Below.drew ?_ | refine Below.alloc ?_ (by simp) _)) hb3); clear hb3)
                   all_goals
                     have HM4 := Hq (HM3.out.below HB3.out)
                     clear HB3 HMX HMW hgm e0 e1 e2 e3 e4 e5 e6 e7 d0 d1 d2 d3 d4 d5 d6 d7 c1 c5 hg
                     by_cases hz : zbx m (c.meths.take k) = 0
                     . have HZ2 := Hq (zb6 HZ.out (by rw [HME.out]; exact hz))
                       rw [hz, errOf_zero]
                       clear hz
                       go_wp2_with fail
                       go_roundw
                       case rel => exact ⟨k + 1, by omega, by go_num, HM4.out, HZ2⟩
                       case measure => simp [RowKit.intOf]; omega
                     . have HEE := Hq (show E = zby (zbx m (c.meths.take k)) by rw [<- HR4.out, zt5 HZ.out (by rw [HME.out]; exact hz) hlk, HME.out]; exact za4 hz)
                       rw [za4 hz]
                       generalize zbx m (c.meths.take k) = n at *
                       clear hz
                       go_wp2_with fail
                       go_ret
                       exact ⟨by rw [HEE.out]; rfl, HM4.out.1⟩
                 . obtain rfl : k = c.meths.length := by omega
                   have HR5 := Hq (show zaj (if c.face = true /\ c.fields ≠ [] then 8 else 0) = E by rw [<- HR4.out, zp8 HZ.out])
                   clear HZ HR4 hlk
                   cases hfc : c.face with
                   | false =>
                     have HEE := Hq (show E = .nilIface by rw [<- HR5.out, hfc]; rfl)
                     rw [hfc] at c3
                     clear hfc
                     go_wp2_with fail
                     go_ret
                     exact ⟨by rw [HEE.out]; rfl, HM3.out.1⟩
                   | true =>
                     rw [hfc] at c3
                     by_cases hfl : c.fields = []
                     . have HEE := Hq (show E = .nilIface by rw [<- HR5.out, hfl]; simp [errOf_zero])
                       have hf0 : c.fields.length = 0 := by rw [hfl]; rfl
                       clear hfc hfl
                       go_wp2_with fail
                       go_ret
                       exact ⟨by rw [HEE.out]; rfl, HM3.out.1⟩
                     . have HEE := Hq (show E = zby 8 by rw [<- HR5.out, if_pos ⟨hfc, hfl⟩]; rfl)
                       have hf0 : 0 < c.fields.length := List.length_pos_iff.2 hfl
                       clear hfc hfl
                       go_wp2_with fail
                       go_ret
                       exact ⟨by rw [HEE.out]; rfl, HM3.out.1⟩
   . have HR := Hq (show zaj (zg9 c) = E by rw [<- HE.out, zie (by rintro (h | ⟨h, _⟩); rw [HNN.out] at h; cases h; exact h hs)])
     rw [hs] at HX
     clear HE HN2
     go_enter Tryz.func77, Tryz.ntmps77
     obtain ⟨hg, c0, c1, c2, c3, c4, c5⟩ := HX.out
     rw [hs] at c1
     clear c2 c3 c4 c5
     go_wp2_with fail
     refine (HN1.out _).mono ?_
     rintro e w2 ⟨rfl, hb2⟩
     have HM2 := Hq (show Mid w c p w2 from ⟨zq hb2, HX.out.below hb2⟩)
     have HS := Hq hs
     clear hb2 hs c0 c1 HX hg
     obtain ⟨hg, c0, c1, c2, c3, c4, c5⟩ := HM2.out.cells HFA.out HGA.out HMA.out
     rw [HS.out] at c1
     go_wp2_with fail
     clear hg c0 c1 c2 c3 c4 c5
     go_loopw [29] (fun i wr => ∃ k : Nat, k <= c.faces.length /\ i = .int .i64 k /\ Mid w c p wr /\ Hid (∀ j, j < k -> zdo c.faces j = 0)) (fun i _ => c.faces.length - (RowKit.intOf i).toNat)
     case atStart => exact ⟨0, by omega, rfl, HM2.out, Hq (by omega)⟩
     case round =>
       obtain ⟨k, hk, rfl, hm, HZ⟩ := hrel
       have HM := Hq hm
       clear hm HM2
       obtain ⟨hg, c0, c1, c2, c3, c4, c5⟩ := HM.out.cells HFA.out HGA.out HMA.out
       rw [HS.out] at c1
       by_cases hlk : k < c.faces.length
       . obtain ⟨f, hf⟩ : ∃ f, c.faces[k]? = some f := ⟨_, List.getElem?_eq_getElem hlk⟩
         have hcw : zdl wr fa p.fc c.faces := by rw [<- HFA.out]; exact HC.out.1.below HM.out.1
         obtain ⟨b, off, rfl, hlt, d0⟩ := zbr hcw hf
         have hkc : k <= p.fc := by have := hcw.1; omega
         have HFE := Hq (znn hf)
         have HCO := Hq (fun W (hb : Below wr.heap.size wr W) => zc9 (c.faces.take k) _ k p.fc f W ((hcw.below hb).take k) (by rw [List.length_take]; omega) (by rw [List.length_take]; omega))
         have HNF := Hq (fun w => zbn f w)
         clear hcw hf
         cases hn : zr f with
         | false =>
           rw [hn] at HNF HFE
           simp only [Bool.false_eq_true, if_false, if_true] at HNF HFE
           have HEE := Hq (show E = zby 1 by rw [<- HR.out, zil HZ.out (by rw [HFE.out]; simp) hlk, HFE.out]; rfl)
           clear hn
           go_wp2_with fail
           refine (HNF.out _).mono ?_
           rintro e w3 ⟨rfl, hb3⟩
           have HB3 := Hq (zc HM.out.1 hb3)
           clear hb3
           go_wp2_with fail
           go_ret
           exact ⟨by rw [HEE.out]; rfl, HB3.out⟩
         | true =>
           rw [hn] at HNF HFE
           simp only [Bool.true_eq_false, if_false, if_true] at HNF HFE
           clear hn c0 c1 c2 c3 c4 c5
           go_wp2_with fail
           refine (HNF.out _).mono ?_
           rintro e w3 ⟨rfl, hb3⟩
           have HM3 := Hq (HM.out.below hb3)
           have HC3 := Hq (HCO.out w3 hb3)
           clear hb3 HCO
           obtain ⟨hg, c0, c1, c2, c3, c4, c5⟩ := HM3.out.cells HFA.out HGA.out HMA.out
           cases hct : (c.faces.take k).contains f with
           | true =>
             rw [hct] at HC3 HFE
             simp only [if_true] at HFE
             have HEE := Hq (show E = zby 5 by rw [<- HR.out, zil HZ.out (by rw [HFE.out]; simp) hlk, HFE.out]; rfl)
             clear hct
             go_wp2_with fail
             refine HC3.out.mono ?_
             rintro e w4 ⟨rfl, rfl⟩
             go_wp2_with fail
             go_ret
             exact ⟨by rw [HEE.out]; rfl, HM3.out.1⟩
           | false =>
             rw [hct] at HC3 HFE
             simp only [Bool.false_eq_true, if_false] at HFE
             have HZ2 := Hq (zb6 HZ.out HFE.out)
             clear hct
             go_wp2_with fail
             refine HC3.out.mono ?_
             rintro e w4 ⟨rfl, rfl⟩
             go_wp2_with fail
             go_roundw
             case rel => exact ⟨k + 1, by omega, by go_num, HM3.out, HZ2⟩
             case measure => simp [RowKit.intOf]; omega
       . obtain rfl : k = c.faces.length := by omega
         have HR2 := Hq (show zaj (zoa c) = E by rw [<- HR.out, zq1 HZ.out])
         clear HZ HR hlk
         have hmx := fun W => zxt W c.faces.length c.fields.length c.meths.length
         have hm3 := z0k c.faces.length c.fields.length c.meths.length
         generalize z0w c.faces.length c.fields.length c.meths.length = my at hmx hm3
         by_cases h8 : 8 < c.faces.length \/ 8 < c.fields.length \/ 8 < c.meths.length
         . have HEE := Hq (show E = zby 4 by rw [<- HR2.out]; unfold zoa; rw [if_pos h8]; rfl)
           have hn8 : 8 < my := by omega
           clear h8 hm3
           go_wp2_with fail
           go_ret
           exact ⟨by rw [HEE.out]; rfl, HM.out.1⟩
         . have HR3 := Hq (show zaj (zrp c) = E by rw [<- HR2.out]; unfold zoa; rw [if_neg h8])
           have hn8 : my <= 8 := by omega
           clear h8 hm3 HR2
           go_wp2_with fail
           clear hmx hn8 hg c0 c1 c2 c3 c4 c5
           go_loopw [61] (fun i wr => ∃ k : Nat, k <= c.fields.length /\ i = .int .i64 k /\ Mid w c p wr /\ Hid (∀ j, j < k -> za9 c.fields j = 0)) (fun i _ => c.fields.length - (RowKit.intOf i).toNat)
           case atStart => exact ⟨0, by omega, rfl, HM.out, Hq (by omega)⟩
           case round =>
             obtain ⟨k, hk, rfl, hm, HZ⟩ := hrel
             have HM2 := Hq hm
             clear hm HM
             obtain ⟨hg, c0, c1, c2, c3, c4, c5⟩ := HM2.out.cells HFA.out HGA.out HMA.out
             rw [HS.out] at c1
             by_cases hlk : k < c.fields.length
             . obtain ⟨f, hf⟩ : ∃ f, c.fields[k]? = some f := ⟨_, List.getElem?_eq_getElem hlk⟩
               have hcw : zb2 wr ga p.gc c.fields := by rw [<- HGA.out]; exact HC.out.2.1.below HM2.out.1
               obtain ⟨b', off, rfl, hlt, d0, d1⟩ := hcw.cells hf
               have hkc : k <= p.gc := by have := hcw.1; rw [List.length_map] at this; omega
               have HFE := Hq (zl1 hf)
               have htl := HB.out.tys f (List.mem_of_getElem? hf)
               have HCO := Hq (fun W (hb : Below wr.heap.size wr W) (hg : wr.heap.size < W.heap.size) (hc : W.cell? ⟨wr.heap.size, 0, none⟩ = some (.string ⟨⟨f.nm⟩⟩)) => zp7 (f := f) (hcw.below hb) hk hfi hg hc)
               have HNF := Hq (fun w => zbn f.nm w)
               have HFB := Hq (zug wr f)
               clear hcw hf c0 c1 c2 c3 c5
               cases hn : zr f.nm with
               | false =>
                 rw [hn] at HNF
                 simp only [Bool.false_eq_true, if_false, if_true] at HNF
                 have hfe : za9 c.fields k = 1 := by rw [HFE.out, if_pos (Or.inl hn)]
                 have HEE := Hq (show E = zby 1 by rw [<- HR3.out, zhf HZ.out (by rw [hfe]; simp) hlk, hfe]; rfl)
                 clear hn hfe
                 go_wp2_with fail
                 refine (HNF.out _).mono ?_
                 rintro e w3 ⟨rfl, hb3⟩
                 have HB3 := Hq (zc HM2.out.1 (zq hb3))
                 clear hb3
                 go_wp2_with fail
                 go_ret
                 exact ⟨by rw [HEE.out]; rfl, HB3.out⟩
               | true =>
                 rw [hn] at HNF
                 simp only [Bool.true_eq_false, if_false, if_true] at HNF
                 by_cases hty : zi f.ty
                 . have HTY := Hq (fun w => zc1 f.ty hty w)
                   have hfe : za9 c.fields k = if (c.fields.take k).any (fun x => x.nm == f.nm) then 5 else 0 := by rw [HFE.out, if_neg (by rintro (h | h); rw [hn] at h; cases h; exact h hty)]
                   have HFE2 := Hq hfe
                   clear hn hty hfe HFE
                   go_wp2_with fail
                   refine (HNF.out _).mono ?_
                   rintro e w3 ⟨rfl, hb3⟩
                   have HM3 := Hq (HM2.out.below (zq hb3))
                   have HW3 := Hq (zq hb3)
                   have HFB3 := Hq (HFB.out.below hb3)
                   obtain ⟨hgf, f0, f1⟩ := HFB3.out
                   clear hb3 HFB
                   go_wp2_with fail
                   refine (HTY.out _).mono ?_
                   rintro e w4 ⟨rfl, hb4⟩
                   have HM4 := Hq (HM3.out.below hb4)
                   have HFB4 := Hq (HFB3.out.below hb4)
                   have HCC := Hq (HCO.out w4 (zc HW3.out hb4) HFB4.out.1 HFB4.out.2.1)
                   clear hb4 hgf f0 f1 HFB3 HM3 HW3 HCO c4 hg
                   obtain ⟨hg, c0, c1, c2, c3, c4, c5⟩ := HM4.out.cells HFA.out HGA.out HMA.out
                   rw [HS.out] at c1
                   cases hct : (c.fields.take k).any (fun x => x.nm == f.nm) with
                   | true =>
                     rw [hct] at HCC HFE2
                     simp only [if_true] at HFE2
                     have HEE := Hq (show E = zby 5 by rw [<- HR3.out, zhf HZ.out (by rw [HFE2.out]; simp) hlk, HFE2.out]; rfl)
                     clear hct
                     go_wp2_with fail
                     refine HCC.out.mono ?_
                     rintro e w5 ⟨rfl, hb5⟩
                     have HB5 := Hq (zc HM4.out.1 hb5)
                     clear hb5
                     go_wp2_with fail
                     go_ret
                     exact ⟨by rw [HEE.out]; rfl, HB5.out⟩
                   | false =>
                     rw [hct] at HCC HFE2
                     simp only [Bool.false_eq_true, if_false] at HFE2
                     have HZ2 := Hq (zb6 HZ.out HFE2.out)
                     clear hct
                     go_wp2_with fail
                     refine HCC.out.mono ?_
                     rintro e w5 ⟨rfl, hb5⟩
                     have HM5 := Hq (HM4.out.below hb5)
                     clear hb5
                     go_wp2_with fail
                     go_roundw
                     case rel => exact ⟨k + 1, by omega, by go_num, HM5.out, HZ2⟩
                     case measure => simp [RowKit.intOf]; omega
                 . have HTY := Hq (fun w => zdi f.ty hty (by omega) w)
                   have hfe : za9 c.fields k = 1 := by rw [HFE.out, if_pos (Or.inr hty)]
                   have HEE := Hq (show E = zby 1 by rw [<- HR3.out, zhf HZ.out (by rw [hfe]; simp) hlk, hfe]; rfl)
                   clear hn hty hfe
                   go_wp2_with fail
                   refine (HNF.out _).mono ?_
                   rintro e w3 ⟨rfl, hb3⟩
                   have HB3 := Hq (zc HM2.out.1 (zq hb3))
                   obtain ⟨hgf, f0, f1⟩ := HFB.out.below hb3
                   clear hb3
                   go_wp2_with fail
                   refine (HTY.out _).mono ?_
                   rintro e w4 ⟨rfl, hb4⟩
                   have HB4 := Hq (zc HB3.out hb4)
                   clear hb4
                   go_wp2_with fail
                   go_ret
                   exact ⟨by rw [HEE.out]; rfl, HB4.out⟩
             . obtain rfl : k = c.fields.length := by omega
               have HR4 := Hq (show zaj (zpn c) = E by rw [<- HR3.out, z0c HZ.out])
               clear HZ HR3 hlk
               go_wp2_with fail
               clear hg c0 c1 c2 c3 c4 c5
               go_loopw [88] (fun i wr => ∃ k : Nat, k <= c.meths.length /\ i = .int .i64 k /\ Mid w c p wr /\ Hid (∀ j, j < k -> zbu c.meths j = 0)) (fun i _ => c.meths.length - (RowKit.intOf i).toNat)
               case atStart => exact ⟨0, by omega, rfl, HM2.out, Hq (by omega)⟩
               case round =>
                 obtain ⟨k, hk, rfl, hm, HZ⟩ := hrel
                 have HM3 := Hq hm
                 clear hm HM2
                 obtain ⟨hg, c0, c1, c2, c3, c4, c5⟩ := HM3.out.cells HFA.out HGA.out HMA.out
                 rw [HS.out] at c1
                 by_cases hlk : k < c.meths.length
                 . obtain ⟨m, hx⟩ : ∃ m, c.meths[k]? = some m := ⟨_, List.getElem?_eq_getElem hlk⟩
                   have hcw : zct wr ma p.mc c.meths p.ps := by rw [<- HMA.out]; exact HC.out.2.2.below HM3.out.1
                   obtain ⟨b', off, q, rfl, hlt, hq, hmq, d0, d1, d2, d3, d4, d5, d6, d7⟩ := hcw.cells hx
                   have hkc : k <= p.mc := by have := hcw.2.1.1; rw [List.length_zipWith, hcw.1] at this; omega
                   have HME := Hq (zmb hx)
                   have HMB := HB.out.ms m (List.mem_of_getElem? hx)
                   have HMW := Hq (fun W (hb : Below wr.heap.size wr W) => zu4 (hcw.below hb) hk hme (hmq.below hb) (HF.out.below (zc HM3.out.1 hb)) HMB)
                   have HMX := Hq (zga wr m q)
                   unfold zca at HMW
                   clear hcw hx hq hmq HMB c0 c2 c3 c4
                   go_wp2_with fail
                   obtain ⟨hgm, e0, e1, e2, e3, e4, e5, e6, e7⟩ := HMX.out
                   go_region_with (go_at_call 116; refine (HMW.out _ (by repeat (first | exact Below.refl _ _ | refine Below.drew ?_ | refine Below.alloc ?_ (by simp) _))).mono ?_; rintro e w3 ⟨rfl, hb3⟩; have HB3 := Hq (zc (show Below wr.heap.size wr _ by repeat (first | exact Below.refl _ _ | refine Below.drew ?_ | refine Below.alloc ?_ (by simp) _)) hb3); clear hb3)
                   all_goals
                     have HM4 := Hq (HM3.out.below HB3.out)
                     clear HB3 HMX HMW hgm e0 e1 e2 e3 e4 e5 e6 e7 d0 d1 d2 d3 d4 d5 d6 d7 c1 c5 hg
                     by_cases hz : zbx m (c.meths.take k) = 0
                     . have HZ2 := Hq (zb6 HZ.out (by rw [HME.out]; exact hz))
                       rw [hz, errOf_zero]
                       clear hz
                       go_wp2_with fail
                       go_roundw
                       case rel => exact ⟨k + 1, by omega, by go_num, HM4.out, HZ2⟩
                       case measure => simp [RowKit.intOf]; omega
                     . have HEE := Hq (show E = zby (zbx m (c.meths.take k)) by rw [<- HR4.out, zt5 HZ.out (by rw [HME.out]; exact hz) hlk, HME.out]; exact za4 hz)
                       rw [za4 hz]
                       generalize zbx m (c.meths.take k) = n at *
                       clear hz
                       go_wp2_with fail
                       go_ret
                       exact ⟨by rw [HEE.out]; rfl, HM4.out.1⟩
                 . obtain rfl : k = c.meths.length := by omega
                   have HR5 := Hq (show zaj (if c.face = true /\ c.fields ≠ [] then 8 else 0) = E by rw [<- HR4.out, zp8 HZ.out])
                   clear HZ HR4 hlk
                   cases hfc : c.face with
                   | false =>
                     have HEE := Hq (show E = .nilIface by rw [<- HR5.out, hfc]; rfl)
                     rw [hfc] at c3
                     clear hfc
                     go_wp2_with fail
                     go_ret
                     exact ⟨by rw [HEE.out]; rfl, HM3.out.1⟩
                   | true =>
                     rw [hfc] at c3
                     by_cases hfl : c.fields = []
                     . have HEE := Hq (show E = .nilIface by rw [<- HR5.out, hfl]; simp [errOf_zero])
                       have hf0 : c.fields.length = 0 := by rw [hfl]; rfl
                       clear hfc hfl
                       go_wp2_with fail
                       go_ret
                       exact ⟨by rw [HEE.out]; rfl, HM3.out.1⟩
                     . have HEE := Hq (show E = zby 8 by rw [<- HR5.out, if_pos ⟨hfc, hfl⟩]; rfl)
                       have hf0 : 0 < c.fields.length := List.length_pos_iff.2 hfl
                       clear hfc hfl
                       go_wp2_with fail
                       go_ret
                       exact ⟨by rw [HEE.out]; rfl, HM3.out.1⟩
end Go.Proofs.YtbnkckjdgpiggaaGreatDoor
