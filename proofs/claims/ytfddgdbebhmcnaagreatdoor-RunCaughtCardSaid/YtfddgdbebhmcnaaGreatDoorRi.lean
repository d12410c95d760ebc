import Derived.Test.YtfddgdbebhmcnaaGreatDoorRg
import Derived.Test.YtfddgdbebhmcnaaGreatDoorCls
import Derived.Test.YtfddgdbebhmcnaaGreatDoorWBase
import Derived.Test.YtfddgdbebhmcnaaGreatDoorSa
import Derived.Test.YtfddgdbebhmcnaaGreatDoorRh
import Derived.BigQuiet
import Derived.Test.YtfddgdbebhmcnaaGreatDoorRc
namespace Go.Proofs.YtfddgdbebhmcnaaGreatDoor
set_option maxRecDepth 100000
set_option maxHeartbeats 8000000
set_option linter.unusedVariables false
set_option linter.unusedSimpArgs false
open Go.RowKit Go.Shelf Go.Lib Go.Sort
theorem bfs_pre (ab : Nm → List Nm) : ∀ (f : Nat) (out : List Nm) (i : Nat), ∃ r, bfs ab f out i = out ++ r
 | 0, out, i => ⟨[], by simp [bfs]⟩
 | f + 1, out, i => by
   unfold bfs
   split
   · exact ⟨[], by simp⟩
   · rename_i x hx
     obtain ⟨r1, h1⟩ := addNew_pre (ab x) out
     obtain ⟨r2, h2⟩ := bfs_pre ab f (addNew out (ab x)) (i + 1)
     exact ⟨r1 ++ r2, by rw [h2, h1, List.append_assoc]⟩
theorem every_self (L : List ClassR) (n : Nm) : (every L n).contains n = true := by
 rw [List.contains_iff_mem, every_mem]
 obtain ⟨r, h⟩ := bfs_pre (above L) 100 [n] 0
 unfold everyU
 rw [h]; simp
theorem cfirst_none (l : List ClassR) (L : List CP) (b : Nat) (m : MethR) (p : MAddr) (at_ : Int) (w : World) (hW : WOk w b l L) (hm : m.hs = []) :
   Calls Tryz.prog 165 #[.map (some b), methV m p, .int .i64 at_, .string ⟨⟨fltN⟩⟩] w fun e w' => e = .returned (.tuple #[.int .i64 (-1), .bool true]) ∧ Below w.heap.size w w' := by
 have HE := Hd (fun W (hw : Below w.heap.size w W) => every_w (hW.below hw) fltN (by simp [fltN]))
 have HX := Hd (blk_new w w.heap.size 39 (mArr m p) rfl)
 have hl0 : (m.hs.length : Int) = 0 := by rw [hm]; rfl
 have hb0 := bl_alloc (Below.refl w.heap.size w) (.cells (mArr m p) 39)
 clear hW hm
 obtain ⟨ev, hev⟩ : ∃ ev, ev = every (wl l) fltN := ⟨_, rfl⟩
 rw [← hev] at HE
 clear hev
 unfold methV
 unfold mArr at HX hb0
 unfold fltN at *
 go_enter Tryz.func165, Tryz.ntmps165
 go_wp2_with fail
 refine (HE.out _ hb0).mono ?_
 rintro e w1 ⟨⟨v1, rfl, _⟩, hb1⟩
 have HB1 := Hd (bl_trans hb0 hb1)
 have c7 := (HX.out.below hb1).cell 7
 have c9 := (HX.out.below hb1).lt
 clear hb1 HE HX
 go_wp2_with fail
 go_loopw [21] (fun i wr => i = .int .i64 0 ∧ wr = w1) (fun _ _ => 0)
 case atStart => exact ⟨rfl, rfl⟩
 case round =>
   obtain ⟨rfl, rfl⟩ := hrel
   go_wp2_with fail
   go_ret2
   exact ⟨rfl, HB1.out⟩
theorem cfirst_hit (l : List ClassR) (L : List CP) (b : Nat) (m : MethR) (p : MAddr) (h : HandR) (at_ : Int) (w : World) (hW : WOk w b l L) (hM : MethAt w m p) (hm : m.hs = [h]) (hc : h.cl = fltN) (h1 : h.lo ≤ at_) (h2 : at_ < h.hi) :
   Calls Tryz.prog 165 #[.map (some b), methV m p, .int .i64 at_, .string ⟨⟨fltN⟩⟩] w fun e w' => e = .returned (.tuple #[.int .i64 h.at_, .bool true]) ∧ Below w.heap.size w w' := by
 have HE := Hd (fun W (hw : Below w.heap.size w W) => every_w (hW.below hw) fltN (by simp [fltN]))
 have hb0 := bl_alloc (Below.refl w.heap.size w) (.cells (mArr m p) 39)
 have HX := Hd (blk_new w w.heap.size 39 (mArr m p) rfl)
 have hl0 : (m.hs.length : Int) = 1 := by rw [hm]; rfl
 have HW := Hd hW
 have HM := Hd hM
 have HH := Hd hm
 have hn1 : ¬ at_ < h.lo := by omega
 have hn2 : ¬ h.hi ≤ at_ := by omega
 have hcon := every_self (wl l) fltN
 have hle : (every (wl l) fltN).length ≤ 1000000000 := by have := every_le50 hW.good fltN; omega
 have hlook : (look (wl l) fltN).isSome = true := by simp [look, wl, objC, fltC, objN, fltN]
 have HLK := Hd (fun W (hw : Below w.heap.size w W) => (cur_look2 (n := fltN) (hW.below hw).at_ (by unfold maxLen; simp [fltN])))
 rw [hW.cl, hlook] at HLK
 clear hW hM hm h1 h2 hlook
 obtain ⟨ev, hev⟩ : ∃ ev, ev = every (wl l) fltN := ⟨_, rfl⟩
 rw [← hev] at HE hcon hle
 have HCO := Hd hcon
 have HLE := Hd hle
 clear hev hcon hle
 unfold methV
 unfold mArr at HX hb0
 unfold classV at HLK
 unfold fltN at *
 go_enter Tryz.func165, Tryz.ntmps165
 go_wp2_with fail
 refine (HE.out _ hb0).mono ?_
 rintro e w1 ⟨⟨v1, rfl, ho⟩, hb1⟩
 obtain ⟨av, cv, rfl, hrv⟩ := srow_of_own ho
 have HRV := Hd hrv
 have HB1 := Hd (bl_trans hb0 hb1)
 have c7 := (HX.out.below hb1).cell 7
 have c9 := (HX.out.below hb1).lt
 clear hb1 HE HX ho hrv
 go_wp2_with fail
 go_loopw [21] (fun i wr => i = .int .i64 0 ∧ wr = w1) (fun _ _ => 1)
 case atStart => exact ⟨rfl, rfl⟩
 case round =>
   obtain ⟨rfl, rfl⟩ := hrel
   obtain ⟨b1, off, hpa, hlt, d0, d1, d2, d3⟩ := (HM.out.2.below HB1.out).cells (k := 0) (x := h) (by rw [HH.out]; rfl)
   simp only [Nat.zero_mul, Nat.add_zero] at d0 d1 d2 d3
   rw [hc] at d3
   rw [hpa]
   obtain ⟨wq, hwq⟩ : ∃ wq, wq = wr.alloc (.cells #[.int .i64 h.lo, .int .i64 h.hi, .int .i64 h.at_, .string ⟨⟨[70, 97, 117, 108, 116]⟩⟩] 74) := ⟨_, rfl⟩
   have hbq : Below wr.heap.size wr wq := by rw [hwq]; exact bl_alloc (Below.refl _ _) _
   have HQ := Hd (show Blk wq wr.heap.size 74 #[.int .i64 h.lo, .int .i64 h.hi, .int .i64 h.at_, .string ⟨⟨[70, 97, 117, 108, 116]⟩⟩] by rw [hwq]; exact blk_new _ _ _ _ rfl)
   have HBQ := Hd hbq
   have hlk := HLK.out wq (bl_trans HB1.out hbq)
   have x0 := HQ.out.cell 0
   have x1 := HQ.out.cell 1
   have x2 := HQ.out.cell 2
   have x3 := HQ.out.cell 3
   have x9 := HQ.out.lt
   clear hpa hbq
   go_upto_region 5 with fail
   rw [← hwq]
   clear hwq d0 d1 d2 d3
   go_wp2_with fail
   have hbz : Below wr.heap.size wr (wq.alloc (.cells #[.string ⟨⟨(curP L [70, 97, 117, 108, 116]).1.nm⟩⟩, .string ⟨⟨(curP L [70, 97, 117, 108, 116]).1.sup⟩⟩, .slice (curP L [70, 97, 117, 108, 116]).2.fa (curP L [70, 97, 117, 108, 116]).1.faces.length (curP L [70, 97, 117, 108, 116]).2.fc, .bool (curP L [70, 97, 117, 108, 116]).1.face, .slice (curP L [70, 97, 117, 108, 116]).2.ga (curP L [70, 97, 117, 108, 116]).1.fields.length (curP L [70, 97, 117, 108, 116]).2.gc, .slice (curP L [70, 97, 117, 108, 116]).2.ma (curP L [70, 97, 117, 108, 116]).1.meths.length (curP L [70, 97, 117, 108, 116]).2.mc] 31)) := bl_alloc HBQ.out _
   refine (contains_str ev av ev.length cv [70, 97, 117, 108, 116] _ (HRV.out.below hbz) rfl HLE.out).mono ?_
   rw [HCO.out]
   rintro e w4 ⟨rfl, rfl⟩
   have HB9 := Hd (bl_trans HB1.out hbz)
   clear hbz
   have x2 := (HQ.out.below (bl_alloc (Below.refl _ _) (.cells #[.string ⟨⟨(curP L [70, 97, 117, 108, 116]).1.nm⟩⟩, .string ⟨⟨(curP L [70, 97, 117, 108, 116]).1.sup⟩⟩, .slice (curP L [70, 97, 117, 108, 116]).2.fa (curP L [70, 97, 117, 108, 116]).1.faces.length (curP L [70, 97, 117, 108, 116]).2.fc, .bool (curP L [70, 97, 117, 108, 116]).1.face, .slice (curP L [70, 97, 117, 108, 116]).2.ga (curP L [70, 97, 117, 108, 116]).1.fields.length (curP L [70, 97, 117, 108, 116]).2.gc, .slice (curP L [70, 97, 117, 108, 116]).2.ma (curP L [70, 97, 117, 108, 116]).1.meths.length (curP L [70, 97, 117, 108, 116]).2.mc] 31))).cell 2
   go_wp2_with fail
   go_ret2
   exact ⟨rfl, HB9.out⟩
theorem class_flt (w : World) : Calls Tryz.prog 115 #[.string ⟨⟨thing fltN⟩⟩] w fun e w' => e = .returned (.string ⟨⟨fltN⟩⟩) ∧ w = w' := class_calls 0 (.cls fltN) (by show fltN.length ≤ _; simp [fltN]) w
theorem throw_none (l : List ClassR) (L : List CP) (W0 : World) (K c lb cs cc b gt ct : Nat) (s : Int) (cl : Nm) (m : MethR) (q : MAddr) (pc : Int) (lo st : List ValR) (lq sq : HA) (w : World) (hM : MacAt W0 w K c lb cs cc b (.slice (some ⟨gt, 0, none⟩) 1 ct) s cl m q pc lo st lq sq) (hW : WOk w b l L) (hm : m.hs = []) (hg : w.cell? ⟨gt, 0, none⟩ = some (.string ⟨⟨thing fltN⟩⟩)) (hgl : gt < w.heap.size) :
   Calls Tryz.prog 118 #[.pointer (some ⟨K, 0, none⟩), .agg #[.int .i64 3, .int .i64 1]] w fun e w' => e = .returned (.tuple #[]) ∧ Blk w' K 94 (macArr b (.slice (some ⟨gt, 0, none⟩) 1 ct) (.slice (some ⟨cs, 0, none⟩) 0 cc) 0 0 fltN s true) ∧ w.grownBy w' (some K) := by
 obtain ⟨W, hWd⟩ : ∃ W, W = w.alloc (.cells #[.int .i64 3, .int .i64 1] 42) := ⟨_, rfl⟩
 have hbW : Below w.heap.size w W := by rw [hWd]; exact bl_alloc (Below.refl _ _) _
 have HV := Hd (show Blk W w.heap.size 42 #[.int .i64 3, .int .i64 1] by rw [hWd]; exact blk_new _ _ _ _ rfl)
 have HM := Hd (hM.below hbW)
 have HBW := Hd hbW
 have hKl := hM.blk.lt
 have HCL := Hd (fun W' => class_flt W')
 have HFI := Hd (fun W' (hw : Below w.heap.size w W') => cfirst_none l L b m q pc W' (hW.below hw) hm)
 have g0 := (hbW.cell (p := ⟨gt, 0, none⟩) hgl).trans hg
 have g1 : gt < W.heap.size := Nat.lt_of_lt_of_le hgl hbW.size
 have k1 := HM.out.blk.cell 1
 have k2 := HM.out.blk.lt
 have v0 := HV.out.cell 1
 have v1 := HV.out.lt
 unfold macArr at k1
 obtain ⟨T, hT⟩ : ∃ T, T = thing fltN := ⟨_, rfl⟩
 rw [← hT] at HCL g0
 unfold methV at HFI
 obtain ⟨N, hN⟩ : ∃ N, N = fltN := ⟨_, rfl⟩
 rw [← hN] at HCL HFI ⊢
 clear hM hW hm hg hgl hbW hT hN
 go_enter Tryz.func118, Tryz.ntmps118
 go_upto_region 1 with fail
 rw [← hWd]
 clear hWd
 go_quiet (exact (HCL.out _).mono (fun e w1 h => by obtain ⟨rfl, rfl⟩ := h; exact ⟨rfl, _, rfl⟩))
 obtain ⟨w1, hw1⟩ : ∃ w1, w1 = W.drewN nq := ⟨_, rfl⟩
 have hb1 : Below W.heap.size W w1 := by rw [hw1]; exact below_dn (Below.refl _ _) _
 have HM1 := Hd (HM.out.below hb1)
 have HB1 := Hd (bl_trans HBW.out hb1)
 rw [← hw1]
 clear hw1 hb1 g0 g1 k1 k2 v0 v1
 go_wp2_with fail
 go_loopg [] 1 (fun gk wr => (gk = 1 ∧ MacAt W0 wr K c lb cs cc b (.slice (some ⟨gt, 0, none⟩) 1 ct) s cl m q pc lo st lq sq ∧ Below w.heap.size w wr) ∨ (gk = 0 ∧ Blk wr K 94 (macArr b (.slice (some ⟨gt, 0, none⟩) 1 ct) (.slice (some ⟨cs, 0, none⟩) 0 cc) 0 0 [] s false) ∧ w.grownBy wr (some K)))
 case atStart => exact Or.inl ⟨rfl, HM1.out, HB1.out⟩
 case round =>
   rcases hrel with ⟨rfl, hm, hb⟩ | ⟨rfl, hk, hg⟩
   · have HMr := Hd hm
     have HBr := Hd hb
     obtain ⟨hc1, hc2, hc3⟩ := hm.csat
     have k2 := hm.blk.cell 2
     have k3 := hm.blk.lt
     have k4 := hm.blk.frozen 2
     unfold macArr at k2
     clear hm hb
     go_upto_region 3 with fail
     go_region
     obtain ⟨w2, hw2⟩ : ∃ w2, w2 = wr.drew := ⟨_, rfl⟩
     have hb2 : Below wr.heap.size wr w2 := by rw [hw2]; exact (Below.refl _ _).drew
     have HM2 := Hd (HMr.out.below hb2)
     have HB2 := Hd (bl_trans HBr.out hb2)
     rw [← hw2]
     clear hw2 hb2 hc1 hc2 k2 k3 k4
     have HGR := Hd (fun (d : Nat) (os : Array Obj) => below_regrown w2 d os)
     have gk0 := fun (d : Nat) (os : Array Obj) => (show (grow (redrawn w2 d) os).cell? ⟨K, 0, none⟩ = some (.map (some b)) from ((HM2.out.below (HGR.out d os)).blk.cell 0))
     have gc := fun (d : Nat) (os : Array Obj) (j : Nat) => ((HM2.out.below (HGR.out d os)).call.blk.cell j)
     have gc1 := fun (d : Nat) (os : Array Obj) => (show (grow (redrawn w2 d) os).cell? ⟨c, 1, none⟩ = some (.string ⟨⟨m.nm⟩⟩) from gc d os 1)
     have gc2 := fun (d : Nat) (os : Array Obj) => (show (grow (redrawn w2 d) os).cell? ⟨c, 2, none⟩ = some (.string ⟨⟨m.ty⟩⟩) from gc d os 2)
     have gc3 := fun (d : Nat) (os : Array Obj) => (show (grow (redrawn w2 d) os).cell? ⟨c, 3, none⟩ = some (.bool m.stat) from gc d os 3)
     have gc4 := fun (d : Nat) (os : Array Obj) => (show (grow (redrawn w2 d) os).cell? ⟨c, 4, none⟩ = some (.bool m.abst) from gc d os 4)
     have gc5 := fun (d : Nat) (os : Array Obj) => (show (grow (redrawn w2 d) os).cell? ⟨c, 5, none⟩ = some (.bool m.priv) from gc d os 5)
     have gc6 := fun (d : Nat) (os : Array Obj) => (show (grow (redrawn w2 d) os).cell? ⟨c, 6, none⟩ = some (.int .i64 m.loc) from gc d os 6)
     have gc7 := fun (d : Nat) (os : Array Obj) => (show (grow (redrawn w2 d) os).cell? ⟨c, 7, none⟩ = some (.slice q.ca m.code.length q.cc) from gc d os 7)
     have gc8 := fun (d : Nat) (os : Array Obj) => (show (grow (redrawn w2 d) os).cell? ⟨c, 8, none⟩ = some (.slice q.ha m.hs.length q.hc) from gc d os 8)
     have gc9 := fun (d : Nat) (os : Array Obj) => (show (grow (redrawn w2 d) os).cell? ⟨c, 9, none⟩ = some (.int .i64 pc) from gc d os 9)
     have HFR := Hd (fun W' (hw : Below w2.heap.size w2 W') => HFI.out W' (bl_trans HB2.out hw))
     have c9 := HM2.out.call.blk.lt
     have k9 := HM2.out.blk.lt
     clear gc
     go_upto_region 4 with fail
     refine wp_region_quiet_below (by kernel_rfl) (by kernel_rfl) ?_
     repeat (first | go_big_quiet_step (exact Calls.regrown_of (HFR.out _ (HGR.out _ _))) | quiet_step (exact Calls.regrown_of (HFR.out _ (HGR.out _ _))))
     refine wpQuiet_nil ?_
     intro _ hw'
     obtain ⟨⟨dq, osq⟩, hw''⟩ := hw'
     subst hw''
     have HB3 := Hd (HGR.out dq osq)
     clear gk0 gc1 gc2 gc3 gc4 gc5 gc6 gc7 gc8 gc9
     generalize grow (redrawn w2 dq) osq = w3 at *
     have HM3 := Hd (HM2.out.below HB3.out)
     have HBw3 := Hd (bl_trans HB2.out HB3.out)
     have k2 := HM3.out.blk.cell 2
     have k3 := HM3.out.blk.lt
     have k4 := HM3.out.blk.frozen 2
     unfold macArr at k2
     clear HGR HFR
     go_wp2_with fail
     go_region
     have HK9 := Hd (show Blk (w3.setCell ⟨K, 2, none⟩ (.slice (some ⟨cs, 0, none⟩) 0 cc)) K 94 (macArr b (.slice (some ⟨gt, 0, none⟩) 1 ct) (.slice (some ⟨cs, 0, none⟩) 0 cc) 0 0 [] s false) from blk_set HM3.out.blk 2 _)
     have HG9 := Hd (gb_set (gb_below (gb_refl w K) HBw3.out) 2 (.slice (some ⟨cs, 0, none⟩) 0 cc))
     clear k2 k3 k4
     go_wp2_with fail
     go_roundg 0
     case measure => omega
     case rel => exact Or.inr ⟨rfl, HK9.out, gb_drew HG9.out⟩
   · have HK := Hd hk
     have HG := Hd hg
     have k2 := hk.cell 2
     have k3 := hk.lt
     have k5 := hk.cell 5
     have k7 := hk.cell 7
     have k8 := hk.frozen 5
     have k9 := hk.frozen 7
     unfold macArr at k2 k5 k7
     have HK9 := Hd (show Blk ((wr.setCell ⟨K, 5, none⟩ (.string ⟨⟨N⟩⟩)).setCell ⟨K, 7, none⟩ (.bool true)) K 94 (macArr b (.slice (some ⟨gt, 0, none⟩) 1 ct) (.slice (some ⟨cs, 0, none⟩) 0 cc) 0 0 N s true) from blk_set (blk_set hk 5 _) 7 _)
     have HG9 := Hd (gb_set (gb_set hg 5 (.string ⟨⟨N⟩⟩)) 7 (.bool true))
     clear hk hg
     go_wp2_with fail
     go_end0
     exact ⟨rfl, HK9.out, HG9.out⟩
theorem throw_hit (l : List ClassR) (L : List CP) (W0 : World) (K c lb cs cc b gt ct : Nat) (s : Int) (cl : Nm) (m : MethR) (q : MAddr) (pc : Int) (lo st : List ValR) (lq sq : HA) (w : World) (hM : MacAt W0 w K c lb cs cc b (.slice (some ⟨gt, 0, none⟩) 1 ct) s cl m q pc lo st lq sq) (hW : WOk w b l L) (hMA : MethAt w m q) (h : HandR) (hm : m.hs = [h]) (hc : h.cl = fltN) (h1 : h.lo ≤ pc) (h2 : pc < h.hi) (hat : 0 ≤ h.at_) (hg : w.cell? ⟨gt, 0, none⟩ = some (.string ⟨⟨thing fltN⟩⟩)) (hgl : gt < w.heap.size) :
   Calls Tryz.prog 118 #[.pointer (some ⟨K, 0, none⟩), .agg #[.int .i64 3, .int .i64 1]] w fun e w' => e = .returned (.tuple #[]) ∧ (∃ sq', MacAt W0 w' K c lb cs cc b (.slice (some ⟨gt, 0, none⟩) 1 ct) s cl m q h.at_ lo [⟨3, 1⟩] lq sq') ∧ KeepT w w' := by
 obtain ⟨W, hWd⟩ : ∃ W, W = w.alloc (.cells #[.int .i64 3, .int .i64 1] 42) := ⟨_, rfl⟩
 have hbW : Below w.heap.size w W := by rw [hWd]; exact bl_alloc (Below.refl _ _) _
 have HV := Hd (show Blk W w.heap.size 42 #[.int .i64 3, .int .i64 1] by rw [hWd]; exact blk_new _ _ _ _ rfl)
 have HM := Hd (hM.below hbW)
 have HBW := Hd hbW
 have hKl := hM.blk.lt
 have HCL := Hd (fun W' => class_flt W')
 have HFI := Hd (fun W' (hw : Below w.heap.size w W') => cfirst_hit l L b m q h pc W' (hW.below hw) (hMA.below hw) hm hc h1 h2)
 have g0 := (hbW.cell (p := ⟨gt, 0, none⟩) hgl).trans hg
 have g1 : gt < W.heap.size := Nat.lt_of_lt_of_le hgl hbW.size
 have k1 := HM.out.blk.cell 1
 have k2 := HM.out.blk.lt
 have v0 := HV.out.cell 1
 have v1 := HV.out.lt
 unfold macArr at k1
 obtain ⟨T, hT⟩ : ∃ T, T = thing fltN := ⟨_, rfl⟩
 rw [← hT] at HCL g0
 unfold methV at HFI
 obtain ⟨N, hN⟩ : ∃ N, N = fltN := ⟨_, rfl⟩
 rw [← hN] at HCL HFI
 clear hM hW hm hg hgl hbW hT hN hMA hc h1 h2
 go_enter Tryz.func118, Tryz.ntmps118
 go_upto_region 1 with fail
 rw [← hWd]
 clear hWd
 go_quiet (exact (HCL.out _).mono (fun e w1 h => by obtain ⟨rfl, rfl⟩ := h; exact ⟨rfl, _, rfl⟩))
 obtain ⟨w1, hw1⟩ : ∃ w1, w1 = W.drewN nq := ⟨_, rfl⟩
 have hb1 : Below W.heap.size W w1 := by rw [hw1]; exact below_dn (Below.refl _ _) _
 have HM1 := Hd (HM.out.below hb1)
 have HV1 := Hd (HV.out.below hb1)
 have HB1 := Hd (bl_trans HBW.out hb1)
 rw [← hw1]
 clear hw1 hb1 g0 g1 k1 k2 v0 v1
 go_wp2_with fail
 go_loopg [] 1 (fun gk wr => gk = 1 ∧ MacAt W0 wr K c lb cs cc b (.slice (some ⟨gt, 0, none⟩) 1 ct) s cl m q pc lo st lq sq ∧ Below w.heap.size w wr ∧ Blk wr w.heap.size 42 #[.int .i64 3, .int .i64 1])
 case atStart => exact ⟨rfl, HM1.out, HB1.out, HV1.out⟩
 case round =>
   obtain ⟨rfl, hm, hb, hv⟩ := hrel
   have HVr := Hd hv
   have HMr := Hd hm
   have HBr := Hd hb
   obtain ⟨hc1, hc2, hc3⟩ := hm.csat
   have k2 := hm.blk.cell 2
   have k3 := hm.blk.lt
   have k4 := hm.blk.frozen 2
   unfold macArr at k2
   clear hm hb hv
   go_upto_region 3 with fail
   go_region
   obtain ⟨w2, hw2⟩ : ∃ w2, w2 = wr.drew := ⟨_, rfl⟩
   have hb2 : Below wr.heap.size wr w2 := by rw [hw2]; exact (Below.refl _ _).drew
   have HM2 := Hd (HMr.out.below hb2)
   have HB2 := Hd (bl_trans HBr.out hb2)
   have HV2 := Hd (HVr.out.below hb2)
   rw [← hw2]
   clear hw2 hb2 hc1 hc2 k2 k3 k4
   have HGR := Hd (fun (d : Nat) (os : Array Obj) => below_regrown w2 d os)
   have gk0 := fun (d : Nat) (os : Array Obj) => (show (grow (redrawn w2 d) os).cell? ⟨K, 0, none⟩ = some (.map (some b)) from ((HM2.out.below (HGR.out d os)).blk.cell 0))
   have gc := fun (d : Nat) (os : Array Obj) (j : Nat) => ((HM2.out.below (HGR.out d os)).call.blk.cell j)
   have gc1 := fun (d : Nat) (os : Array Obj) => (show (grow (redrawn w2 d) os).cell? ⟨c, 1, none⟩ = some (.string ⟨⟨m.nm⟩⟩) from gc d os 1)
   have gc2 := fun (d : Nat) (os : Array Obj) => (show (grow (redrawn w2 d) os).cell? ⟨c, 2, none⟩ = some (.string ⟨⟨m.ty⟩⟩) from gc d os 2)
   have gc3 := fun (d : Nat) (os : Array Obj) => (show (grow (redrawn w2 d) os).cell? ⟨c, 3, none⟩ = some (.bool m.stat) from gc d os 3)
   have gc4 := fun (d : Nat) (os : Array Obj) => (show (grow (redrawn w2 d) os).cell? ⟨c, 4, none⟩ = some (.bool m.abst) from gc d os 4)
   have gc5 := fun (d : Nat) (os : Array Obj) => (show (grow (redrawn w2 d) os).cell? ⟨c, 5, none⟩ = some (.bool m.priv) from gc d os 5)
   have gc6 := fun (d : Nat) (os : Array Obj) => (show (grow (redrawn w2 d) os).cell? ⟨c, 6, none⟩ = some (.int .i64 m.loc) from gc d os 6)
   have gc7 := fun (d : Nat) (os : Array Obj) => (show (grow (redrawn w2 d) os).cell? ⟨c, 7, none⟩ = some (.slice q.ca m.code.length q.cc) from gc d os 7)
   have gc8 := fun (d : Nat) (os : Array Obj) => (show (grow (redrawn w2 d) os).cell? ⟨c, 8, none⟩ = some (.slice q.ha m.hs.length q.hc) from gc d os 8)
   have gc9 := fun (d : Nat) (os : Array Obj) => (show (grow (redrawn w2 d) os).cell? ⟨c, 9, none⟩ = some (.int .i64 pc) from gc d os 9)
   have HFR := Hd (fun W' (hw : Below w2.heap.size w2 W') => HFI.out W' (bl_trans HB2.out hw))
   have c9 := HM2.out.call.blk.lt
   have k9 := HM2.out.blk.lt
   clear gc
   go_upto_region 4 with fail
   refine wp_region_quiet_below (by kernel_rfl) (by kernel_rfl) ?_
   repeat (first | go_big_quiet_step (exact Calls.regrown_of (HFR.out _ (HGR.out _ _))) | quiet_step (exact Calls.regrown_of (HFR.out _ (HGR.out _ _))))
   refine wpQuiet_nil ?_
   intro _ hw'
   obtain ⟨⟨dq, osq⟩, hw''⟩ := hw'
   subst hw''
   have HB3 := Hd (HGR.out dq osq)
   clear gk0 gc1 gc2 gc3 gc4 gc5 gc6 gc7 gc8 gc9
   generalize grow (redrawn w2 dq) osq = w3 at *
   have HM3 := Hd (HM2.out.below HB3.out)
   have HBw3 := Hd (bl_trans HB2.out HB3.out)
   have k2 := HM3.out.blk.cell 2
   have k3 := HM3.out.blk.lt
   have k4 := HM3.out.blk.frozen 2
   unfold macArr at k2
   clear HGR HFR k2 k3 k4
   have hat0 : ¬ h.at_ < 0 := by omega
   have HV3 := Hd (HV2.out.below HB3.out)
   go_upto_region 6 with fail
   have c4 := HM3.out.call.blk.cell 9
   have c5 := HM3.out.call.blk.cell 11
   have c6 := HM3.out.call.blk.frozen 9
   have c7 := HM3.out.call.blk.frozen 11
   have c8 := HM3.out.call.blk.lt
   have v0 := HV3.out.cell 0
   have v1 := HV3.out.cell 1
   have v2 := HV3.out.lt
   unfold rcArr at c4 c5
   go_region
   obtain ⟨u3, hu3⟩ : ∃ u3, u3 = (w3.setCell ⟨c, 9, none⟩ (.int .i64 h.at_)).setCell ⟨c, 11, none⟩ (.slice (some ⟨w3.heap.size, 0, none⟩) 1 1) := ⟨_, rfl⟩
   have hus : u3.heap.size = w3.heap.size := by rw [hu3]; simp [World.setCell]
   obtain ⟨w9, hw9⟩ : ∃ w9, w9 = (u3.alloc (.cells #[.int .i64 3, .int .i64 1] 42)).drew := ⟨_, rfl⟩
   rw [← hu3, ← hw9]
   have hb9 : Below u3.heap.size u3 w9 := by rw [hw9]; exact (bl_alloc (Below.refl _ _) _).drew
   have hn9 : Blk w9 w3.heap.size 42 #[.int .i64 3, .int .i64 1] := by rw [hw9]; exact (blk_new _ _ _ _ hus.symm).drew
   have hCA := HM3.out.call
   have n1 : (hsV lo lq).ownBlock ≠ some c := ownv_ne hCA.low hCA.blk (by decide)
   have hblk : Blk u3 c 138 (rcArr cl m q h.at_ lo [⟨3, 1⟩] lq (some ⟨w3.heap.size, 0, none⟩, 1)) := by rw [hu3]; exact blk_set (blk_set hCA.blk 9 _) 11 _
   have hlow : OwnV u3 W0.heap.size lo lq := by rw [hu3]; exact own_set (own_set hCA.low n1 _) n1 _
   have hB0 : W0.heap.size ≤ w3.heap.size := HM3.out.bel.size
   have hsow : OwnV w9 W0.heap.size [⟨3, 1⟩] (some ⟨w3.heap.size, 0, none⟩, 1) := ⟨rfl, Or.inr ⟨w3.heap.size, 1, _, rfl, hB0, hn9, Nat.le_refl _, by unfold maxLen; omega, rfl, rfl⟩⟩
   have hcall : CallAt w9 W0.heap.size c lb cl m q h.at_ lo [⟨3, 1⟩] lq (some ⟨w3.heap.size, 0, none⟩, 1) := ⟨hblk.below hb9, own_below hlow hb9, hsow, fun k hk e => by
     have h1 := (hCA.low.lt k hk).2
     simp only [hsV, Value.ownBlock, Option.some.injEq] at e
     omega, hCA.lb, hCA.cB⟩
   have hkb : KbR c lb (hsV st sq) w3 w9 := by
     have h1 : KbR c lb (hsV st sq) w3 u3 := by
       rw [hu3]
       exact ⟨rfl, rfl, rfl, by simp [World.setCell], fun k hk n1 _ _ => (Below.heap_setCell _ _ _ _ (by exact n1)).trans (Below.heap_setCell _ _ _ _ (by exact n1))⟩
     exact h1.trans (KbR.of_below hb9) (VUp.refl _ _)
   have HM9 := Hd (HM3.out.keep hkb hcall)
   have HK9 := Hd (show KeepT w w9 from (KeepT.of_below HBw3.out).trans (hCA.keepT hkb))
   clear hu3 hus hw9 hb9 hn9 hCA n1 hblk hlow hB0 hsow hcall hkb c4 c5 c6 c7 c8 v0 v1 v2
   go_wp2_with fail
   exact bodyPost_ret (v := .tuple #[]) (by simp [results, Tryz.results118, go_sem]) rfl ⟨rfl, ⟨_, _, HM9.out⟩, HK9.out⟩
theorem rcatch_fault (l : List ClassR) (L : List CP) (t K b : Nat) (cv : Value) (s : Int) (w : World) (P : World → Prop) (hW : WOk w b l L) (hp : Blk w t 91 #[.pointer (some ⟨K, 0, none⟩)]) (hK : Blk w K 94 (macArr b (.slice none 0 0) cv 0 0 [] s false))
   (hT : ∀ (w1 w2 : World) (gt ct : Nat), Below w.heap.size w w1 → w1.grownBy w2 (some K) → Blk w2 K 94 (macArr b (.slice (some ⟨gt, 0, none⟩) 1 ct) cv 0 0 [] s false) → w2.cell? ⟨gt, 0, none⟩ = some (.string ⟨⟨thing fltN⟩⟩) → gt < w2.heap.size → w.heap.size ≤ gt →
     Calls Tryz.prog 118 #[.pointer (some ⟨K, 0, none⟩), .agg #[.int .i64 3, .int .i64 1]] w2 fun e w3 => e = .returned (.tuple #[]) ∧ P w3 ∧ w3.cell? ⟨t, 0, none⟩ = some (.pointer (some ⟨K, 0, none⟩)) ∧ w3.cell? ⟨K, 0, none⟩ = some (.map (some b))) :
   CallsD Tryz.prog 117 #[.pointer (some ⟨t, 0, none⟩)] (.panicking faultP) w fun e u' w' => e = .returned (.tuple #[]) ∧ u' = .panicking [{ v := .iface 189 (.agg #[]), recovered := true }] ∧ P w' := by
 have hta : ∀ w, (Instr.typeAssert (.iface 189 (.agg #[])) 20 189 true).run Tryz.prog w = .ok (.tuple #[.agg #[], .bool true]) w := fun _ => by kernel_rfl
 obtain ⟨W, hWd⟩ : ∃ W, W = w.alloc (.cells #[] 189) := ⟨_, rfl⟩
 have hbW : Below w.heap.size w W := by rw [hWd]; exact bl_alloc (Below.refl _ _) _
 have hne : t ≠ K := fun e => by
   have h1 : w.heap[t]? = some (.cells _ _ (0, 0)) := hp
   have h2 : w.heap[K]? = some (.cells _ _ (0, 0)) := hK
   rw [e, h2] at h1
   simp at h1
 have HBW := Hd hbW
 have HP := Hd (hp.below hbW)
 have HK := Hd (hK.below hbW)
 have HSC := Hd (fun W' (hw : Below W.heap.size W W') => (show W'.cell? ⟨t, 0, none⟩ = some (.pointer (some ⟨K, 0, none⟩)) ∧ W'.cell? ⟨K, 0, none⟩ = some (.map (some b)) from ⟨((hp.below hbW).below hw).cell 0, ((hK.below hbW).below hw).cell 0⟩))
 have HFR := Hd (fun W' (hw : Below W.heap.size W W') => fresh_flt l L b W' ((hW.below hbW).below hw))
 have HMO := Hd (fun W' g (hw : Below W.heap.size W W') => rmore_flt l L K b g cv s W' ((hW.below hbW).below hw) ((hK.below hbW).below hw))
 have HSG := Hd (fun (W' w2 : World) (gt ct : Nat) (hw : Below W.heap.size W W') (hg : W'.grownBy w2 (some K)) (hk : Blk w2 K 94 (macArr b (.slice (some ⟨gt, 0, none⟩) 1 ct) cv 0 0 [] s false)) => (show w2.cell? ⟨t, 0, none⟩ = some (.pointer (some ⟨K, 0, none⟩)) ∧ w2.cell? ⟨K, 0, none⟩ = some (.map (some b)) from
   ⟨(gb_blk hg ((hp.below hbW).below hw) hne).cell 0, hk.cell 0⟩))
 have HTH := Hd hT
 have p0 := HP.out.cell 0
 have p1 := HP.out.lt
 have k1 := HK.out.lt
 have hws : w.heap.size ≤ W.heap.size := hbW.size
 clear hW hp hK hbW hT
 unfold faultP
 unfold fltN at HFR
 refine callsD_of_wpS Tryz.func117 rfl fun c₀ cs hu => ?_
 apply wpS_seq
 apply wpS_region
 simp [wpOpsS, go_sem, recoverD, hu, Tryz.ntmps117, Exit.thenS]
 refine wpS_of_wp ?_
 simp only [show (24 : Nat) = 23 + 1 from rfl, Array.replicate, List.replicate, List.setIfInBounds_toArray, List.set_cons_zero, List.set_cons_succ, List.append_toArray, List.cons_append, List.nil_append]
 go_upto_region 5 with fail
 rw [← hWd]
 clear hWd
 go_region_held3 (fun W' => W'.cell? ⟨t, 0, none⟩ = some (.pointer (some ⟨K, 0, none⟩)) ∧ W'.cell? ⟨K, 0, none⟩ = some (.map (some b)))
   (first | exact HSC.out _ (Below.refl _ _) | exact HSC.out _ (Below.refl _ _).drew | exact hsC | exact hsB | exact hsA)
   ((first
   | (go_at_call 120
      refine (HFR.out W.drew (Below.refl _ _).drew).mono ?_
      rintro e wa ⟨⟨g, rfl⟩, hba⟩
      have hba' := bl_trans (Below.refl W.heap.size W).drew hba
      have hsA := HSC.out _ hba')
   | (go_at_call 119
      refine (HMO.out wa g hba').mono ?_
      rintro e wb ⟨rfl, hgb, gt, ct, hkb, hcb, hlb, hgt⟩
      have hsB := HSG.out wa wb gt ct hba' hgb hkb)
   | (go_at_call 118
      refine (HTH.out wa wb gt ct (bl_trans HBW.out hba') hgb hkb hcb hlb (by have := hba'.size; omega)).mono ?_
      rintro e wc ⟨rfl, hP, hsC1, hsC2⟩
      have hsC : wc.cell? ⟨t, 0, none⟩ = some (.pointer (some ⟨K, 0, none⟩)) ∧ wc.cell? ⟨K, 0, none⟩ = some (.map (some b)) := ⟨hsC1, hsC2⟩)))
 have HPC := Hd hP
 clear hsA hsB hsC hsC1 hsC2 hP hcb hkb hgb hba hba' p0 p1 k1
 go_wp2_with fail
 simp [bodyPostS, results, Tryz.results117]
 exact HPC.out
theorem step_fault (W0 : World) (K c lb cs cc b : Nat) (hv : Value) (s : Int) (cl : Nm) (m : MethR) (q : MAddr) (p : Nat) (lo st lo' st' : List ValR) (nx : Int) (lq sq : HA) (x : InsR) (w : World) (hM : MacAt W0 w K c lb cs cc b hv s cl m q p lo st lq sq) (hC : CodeAt W0 q.ca q.cc m.code) (hx : m.code[p]? = some x) (hml : m.code.length ≤ 1000)
   (h24 : (x.op == 24) = false) (h25 : (x.op == 25) = false) (h26 : (x.op == 26) = false) (h27 : (x.op == 27) = false) (h28 : (x.op == 28) = false)
   (l : List ClassR) (L : List CP) (hW : WOk W0 b l L) (hh : hv = .slice none 0 0) (P : World → Prop)
   (hPL : ∀ W, Below w.heap.size w W → Calls Tryz.prog 125 #[.pointer (some ⟨c, 0, none⟩), insV x] W fun e w' => e = .panicked faultP ∧ ∃ sq', CallAt w' W0.heap.size c lb cl m q p lo' st' lq sq' ∧ KbR c lb (hsV st sq) W w' ∧ VUp W (hsV st sq) (hsV st' sq'))
   (hT : ∀ (w2 : World) (gt ct : Nat) (sq' : HA), MacAt W0 w2 K c lb cs cc b (.slice (some ⟨gt, 0, none⟩) 1 ct) s cl m q p lo' st' lq sq' → w2.cell? ⟨gt, 0, none⟩ = some (.string ⟨⟨thing fltN⟩⟩) → gt < w2.heap.size → KeepT w w2 →
     Calls Tryz.prog 118 #[.pointer (some ⟨K, 0, none⟩), .agg #[.int .i64 3, .int .i64 1]] w2 fun e w3 => e = .returned (.tuple #[]) ∧ P w3 ∧ KeepT w2 w3 ∧ w3.cell? ⟨K, 0, none⟩ = some (.map (some b))) :
   Calls Tryz.prog 68 #[.pointer (some ⟨K, 0, none⟩)] w fun e w' => e = .returned (.tuple #[]) ∧ P w' := by
 have hmf : ∀ (fn : Fn) (first cap : Array Value) (w : World), (Instr.makeFunc fn first cap).run Tryz.prog w = .ok (.func fn first cap) w := fun _ _ _ _ => rfl
 obtain ⟨w1, hw1⟩ : ∃ w1, w1 = w.alloc (.cells #[.pointer (some ⟨K, 0, none⟩)] 91) := ⟨_, rfl⟩
 have hb1 : Below w.heap.size w w1 := by rw [hw1]; exact bl_alloc (Below.refl _ _) _
 have HP1 := Hd (show Blk w1 w.heap.size 91 #[.pointer (some ⟨K, 0, none⟩)] by rw [hw1]; exact blk_new _ _ _ _ rfl)
 have hM1 := hM.below hb1
 have HM1 := Hd hM1
 have HB1 := Hd hb1
 have HPL := Hd hPL
 have HTH := Hd hT
 have HW0 := Hd hW
 obtain ⟨hk1, hk2, hk3⟩ := hM1.csat
 have e0 := hM1.blk.cell 2
 have e1 := hM1.blk.lt
 have p0 := HP1.out.cell 0
 have p1 := HP1.out.lt
 have c8 := hM1.call.blk.cell 7
 have c9 := hM1.call.blk.cell 9
 have c10 := hM1.call.blk.lt
 obtain ⟨bi, off, hqa, hlt, i0, i1, i2, i3, i4, i5⟩ := (hC.below hM1.bel).cells hx
 have hpl : p < m.code.length := (List.getElem?_eq_some_iff.1 hx).1
 have hp0 : (0 : Int) ≤ (p : Int) := Int.natCast_nonneg _
 have hp1 : (p : Int) < (m.code.length : Int) := by omega
 unfold macArr at e0
 unfold rcArr at c8 c9
 rw [hqa] at c8
 have HC := Hd hC
 have HX := Hd hx
 have HQ := Hd hqa
 obtain ⟨op, ia, ib, ty, cn, nm⟩ := x
 unfold insV at *
 dsimp only at h24 h25 h26 h27 h28
 clear hM hC hx hPL hT hW hb1 hM1 hqa
 go_enter_defers Tryz.func68, Tryz.ntmps68
 go_upto_region 2 with fail
 rw [← hw1]
 clear hw1
 go_region
 obtain ⟨w2, hw2⟩ : ∃ w2, w2 = w1.drew := ⟨_, rfl⟩
 have hb2 : Below w1.heap.size w1 w2 := by rw [hw2]; exact (Below.refl _ _).drew
 have hs2 : w2.heap.size = w1.heap.size := by rw [hw2]; rfl
 rw [← hw2]
 have HM2 := Hd (HM1.out.below hb2)
 have HP2 := Hd (HP1.out.below hb2)
 have HB2 := Hd (bl_trans HB1.out hb2)
 clear e0 e1 p0 p1 c8 c9 c10 i0 i1 i2 i3 i4 i5 hk1 hk2 hk3 hw2 hb2 hs2 hlt
 have HSC := Hd (fun W (hw : Below w2.heap.size w2 W) => (show W.cell? ⟨c, 7, none⟩ = some (.slice (some ⟨bi, off, none⟩) m.code.length q.cc) ∧ W.cell? ⟨c, 9, none⟩ = some (.int .i64 p) ∧ W.cell? ⟨bi, off + p * 6, none⟩ = some (.int .i64 op) ∧ W.cell? ⟨bi, off + p * 6 + 1, none⟩ = some (.int .i64 ia) ∧ W.cell? ⟨bi, off + p * 6 + 2, none⟩ = some (.int .i64 ib) ∧ W.cell? ⟨bi, off + p * 6 + 3, none⟩ = some (.string ⟨⟨ty⟩⟩) ∧ W.cell? ⟨bi, off + p * 6 + 4, none⟩ = some (.string ⟨⟨cn⟩⟩) ∧ W.cell? ⟨bi, off + p * 6 + 5, none⟩ = some (.string ⟨⟨nm⟩⟩) from by
   obtain ⟨bi2, off2, hqa2, hlt2, i0, i1, i2, i3, i4, i5⟩ := (HC.out.below (HM2.out.below hw).bel).cells HX.out
   rw [HQ.out] at hqa2
   simp only [Option.some.injEq, Addr.mk.injEq, and_true] at hqa2
   obtain ⟨rfl, rfl⟩ := hqa2
   have c8 := (HM2.out.below hw).call.blk.cell 7
   have c9 := (HM2.out.below hw).call.blk.cell 9
   unfold rcArr at c8 c9
   rw [HQ.out] at c8
   exact ⟨c8, c9, i0, i1, i2, i3, i4, i5⟩))
 go_upto_region 3 with fail
 go_region_held3 (fun W' => W'.cell? ⟨c, 7, none⟩ = some (.slice (some ⟨bi, off, none⟩) m.code.length q.cc) ∧ W'.cell? ⟨c, 9, none⟩ = some (.int .i64 p) ∧ W'.cell? ⟨bi, off + p * 6, none⟩ = some (.int .i64 op) ∧ W'.cell? ⟨bi, off + p * 6 + 1, none⟩ = some (.int .i64 ia) ∧ W'.cell? ⟨bi, off + p * 6 + 2, none⟩ = some (.int .i64 ib) ∧ W'.cell? ⟨bi, off + p * 6 + 3, none⟩ = some (.string ⟨⟨ty⟩⟩) ∧ W'.cell? ⟨bi, off + p * 6 + 4, none⟩ = some (.string ⟨⟨cn⟩⟩) ∧ W'.cell? ⟨bi, off + p * 6 + 5, none⟩ = some (.string ⟨⟨nm⟩⟩))
   (first | exact HSC.out _ (Below.refl _ _) | exact HSC.out _ (Below.refl _ _).drew | exact HSC.out _ (bl_alloc (Below.refl _ _) _) | exact HSC.out _ (bl_alloc (Below.refl _ _) _).drew | exact HSC.out _ (bl_alloc (Below.refl _ _).drew _))
   (fail)
 obtain ⟨w3, hw3⟩ : ∃ w3, w3 = (w2.alloc (.cells #[.int .i64 op, .int .i64 ia, .int .i64 ib, .string ⟨⟨ty⟩⟩, .string ⟨⟨cn⟩⟩, .string ⟨⟨nm⟩⟩] 35)).drew := ⟨_, rfl⟩
 have hb3 : Below w2.heap.size w2 w3 := by rw [hw3]; exact (bl_alloc (Below.refl _ _) _).drew
 have HX3 := Hd (show Blk w3 w2.heap.size 35 #[.int .i64 op, .int .i64 ia, .int .i64 ib, .string ⟨⟨ty⟩⟩, .string ⟨⟨cn⟩⟩, .string ⟨⟨nm⟩⟩] by rw [hw3]; exact (blk_new _ _ _ _ rfl).drew)
 have HM3 := Hd (HM2.out.below hb3)
 have HP3 := Hd (HP2.out.below hb3)
 have HB3 := Hd (bl_trans HB2.out hb3)
 rw [← hw3]
 clear hw3 hb3 HSC
 have x0 := HX3.out.cell 0
 have x1 := HX3.out.cell 1
 have x2 := HX3.out.cell 2
 have x3 := HX3.out.cell 3
 have x4 := HX3.out.cell 4
 have x5 := HX3.out.cell 5
 have x9 := HX3.out.lt
 go_wp2_with fail
 refine (HPL.out w3 HB3.out).mono ?_
 rintro e w4 ⟨rfl, sq', hc4, hk4, hv4⟩
 have HK4 := Hd (HM3.out.call.keepT hk4)
 have HM4 := Hd (HM3.out.keep hk4 hc4)
 have HP4 := Hd (HK4.out _ _ _ (by unfold OwnTy; decide) HP3.out)
 clear hc4 hk4 hv4 x0 x1 x2 x3 x4 x5 x9
 go_wp2_with fail
 refine leaves_cons (f := 117) (args := #[.pointer (some ⟨w.heap.size, 0, none⟩)]) (by simp) (by simp [go_sem]) ?_
 refine (rcatch_fault l L w.heap.size K b (.slice (some ⟨cs, 0, none⟩) 1 cc) s w4 P (HW0.out.below HM4.out.bel) HP4.out (by have := HM4.out.blk; rw [hh] at this; exact this) ?_).mono ?_
 · intro wa wb gt ct hba hgb hkb hcb hlb hgt
   have hMa := HM4.out.below hba
   have hne : ∀ {g : Nat} {cur : Array Value} {T : TypeId}, Blk wa g T cur → T ≠ 94 → g ≠ K := fun {g cur T} h hT e => by
     have h1 : wa.heap[g]? = some (.cells _ _ (0, 0)) := h
     have h2 : wa.heap[K]? = some (.cells _ _ (0, 0)) := hMa.blk
     rw [e, h2] at h1
     simp at h1
     exact hT h1.2.symm
   have hrk : (Value.slice (some ⟨cs, 0, none⟩) 1 cc).ownBlock ≠ some K := fun e => by
     simp only [Value.ownBlock, Option.some.injEq] at e
     subst e
     rcases hMa.row.2 with ⟨h0, _⟩ | ⟨g2, _, cur, h0, _, hg2, _⟩
     · cases h0
     · simp only [Value.slice.injEq, Option.some.injEq, Addr.mk.injEq, and_true] at h0
       obtain ⟨e1, _⟩ := h0
       subst e1
       exact hne (show Blk wa _ _ _ from hg2) (by decide) rfl
   have hlk : (hsV lo' lq).ownBlock ≠ some K := ownv_ne hMa.call.low hMa.blk (by decide)
   have hsk : (hsV st' sq').ownBlock ≠ some K := ownv_ne hMa.call.sow hMa.blk (by decide)
   have hMb : MacAt W0 wb K c lb cs cc b (.slice (some ⟨gt, 0, none⟩) 1 ct) s cl m q p lo' st' lq sq' := ⟨hkb, own_keep2 hMa.row (fun g hg => hgb.block g (hMa.row.lt g hg).2 (fun e => hrk (by rw [hg]; exact e))), ⟨gb_blk hgb hMa.call.blk (hne hMa.call.blk (by decide)), own_keep2 hMa.call.low (fun g hg => hgb.block g (hMa.call.low.lt g hg).2 (fun e => hlk (by rw [hg]; exact e))), own_keep2 hMa.call.sow (fun g hg => hgb.block g (hMa.call.sow.lt g hg).2 (fun e => hsk (by rw [hg]; exact e))), hMa.call.ap, hMa.call.lb, hMa.call.cB⟩, hMa.bK, below_grown hMa.bel hgb hMa.bK hMa.bel.size⟩
   have hKb : KeepT w wb := ((KeepT.of_below HB3.out).trans HK4.out).trans ((KeepT.of_below hba).trans (KeepT.grown hMa.blk (Or.inr (Or.inr (Or.inl rfl))) hgb))
   have hPb : Blk wb w.heap.size 91 #[.pointer (some ⟨K, 0, none⟩)] := gb_blk hgb (HP4.out.below hba) (hne (HP4.out.below hba) (by decide))
   refine (HTH.out wb gt ct sq' hMb hcb hlb hKb).mono ?_
   rintro e w5 ⟨he, hP, hkt, hk0⟩
   exact ⟨he, hP, (hkt _ _ _ (by unfold OwnTy; decide) hPb).cell 0, hk0⟩
 · rintro e u' w9 ⟨rfl, rfl, hP⟩
   simp [Leaves, settle, results, Tryz.results68, go_sem]
   exact hP
end Go.Proofs.YtfddgdbebhmcnaaGreatDoor
