import Derived.Test.YtddbnboicmaooaaGreatDoorFlowCheck
namespace Go.Proofs.YtddbnboicmaooaaGreatDoor
set_option maxRecDepth 100000
set_option maxHeartbeats 16000000
set_option linter.unusedVariables false
set_option linter.unusedSimpArgs false
open Go.RowKit
def fieldCells (x : FieldR) : List Value := [.string ⟨⟨x.nm⟩⟩, .string ⟨⟨x.ty⟩⟩]
def handCells (h : HandR) : List Value := [.int .i64 h.lo, .int .i64 h.hi, .int .i64 h.at_, .string ⟨⟨h.cl⟩⟩]
def FieldsAt (w : World) (a : Option Addr) (cap : Nat) (l : List FieldR) : Prop := RowsAt w 2 a cap (l.map fieldCells)
def HandsAt (w : World) (a : Option Addr) (cap : Nat) (l : List HandR) : Prop := RowsAt w 4 a cap (l.map handCells)
theorem FieldsAt.below {w w' : World} {a : Option Addr} {cap : Nat} {l : List FieldR} (h : FieldsAt w a cap l) (hb : Below w.heap.size w w') : FieldsAt w' a cap l := RowsAt.below h hb
theorem HandsAt.below {w w' : World} {a : Option Addr} {cap : Nat} {l : List HandR} (h : HandsAt w a cap l) (hb : Below w.heap.size w w') : HandsAt w' a cap l := RowsAt.below h hb
theorem FieldsAt.cells {w : World} {a : Option Addr} {cap : Nat} {l : List FieldR} (h : FieldsAt w a cap l) {k : Nat} {x : FieldR} (hx : l[k]? = some x) : ∃ b off, a = some ⟨b, off, none⟩ ∧ b < w.heap.size ∧
   w.cell? ⟨b, off + k * 2, none⟩ = some (.string ⟨⟨x.nm⟩⟩) ∧ w.cell? ⟨b, off + k * 2 + 1, none⟩ = some (.string ⟨⟨x.ty⟩⟩) := by
 obtain ⟨_, h2 | ⟨b, off, rfl, hlt, hc⟩⟩ := h
 · have : l = [] := by simpa using h2
   subst this; simp at hx
 · have hk : (l.map fieldCells)[k]? = some (fieldCells x) := by rw [List.getElem?_map, hx]; rfl
   have hh := hc k _ hk
   exact ⟨b, off, rfl, hlt, hh 0 _ rfl, hh 1 _ rfl⟩
theorem HandsAt.cells {w : World} {a : Option Addr} {cap : Nat} {l : List HandR} (h : HandsAt w a cap l) {k : Nat} {x : HandR} (hx : l[k]? = some x) : ∃ b off, a = some ⟨b, off, none⟩ ∧ b < w.heap.size ∧
   w.cell? ⟨b, off + k * 4, none⟩ = some (.int .i64 x.lo) ∧ w.cell? ⟨b, off + k * 4 + 1, none⟩ = some (.int .i64 x.hi) ∧ w.cell? ⟨b, off + k * 4 + 2, none⟩ = some (.int .i64 x.at_) ∧
   w.cell? ⟨b, off + k * 4 + 3, none⟩ = some (.string ⟨⟨x.cl⟩⟩) := by
 obtain ⟨_, h2 | ⟨b, off, rfl, hlt, hc⟩⟩ := h
 · have : l = [] := by simpa using h2
   subst this; simp at hx
 · have hk : (l.map handCells)[k]? = some (handCells x) := by rw [List.getElem?_map, hx]; rfl
   have hh := hc k _ hk
   exact ⟨b, off, rfl, hlt, hh 0 _ rfl, hh 1 _ rfl, hh 2 _ rfl, hh 3 _ rfl⟩
theorem strs_cell {w : World} {a : Option Addr} {cap : Nat} {l : List (List UInt8)} (h : SRow w a cap l) {k : Nat} {x : List UInt8} (hx : l[k]? = some x) : ∃ b off, a = some ⟨b, off, none⟩ ∧ b < w.heap.size ∧
   w.cell? ⟨b, off + k, none⟩ = some (.string ⟨⟨x⟩⟩) := by
 obtain ⟨_, rfl | ⟨b, off, rfl, hlt, hc⟩⟩ := h
 · simp at hx
 · exact ⟨b, off, rfl, hlt, hc k x hx⟩
structure MAddr where
 ca : Option Addr
 cc : Nat
 ha : Option Addr
 hc : Nat
def methCells (m : MethR) (p : MAddr) : List Value := [.string ⟨⟨m.nm⟩⟩, .string ⟨⟨m.ty⟩⟩, .bool m.stat, .bool m.abst, .bool m.priv, .int .i64 m.loc, .slice p.ca m.code.length p.cc, .slice p.ha m.hs.length p.hc]
def methV (m : MethR) (p : MAddr) : Value := .agg #[.string ⟨⟨m.nm⟩⟩, .string ⟨⟨m.ty⟩⟩, .bool m.stat, .bool m.abst, .bool m.priv, .int .i64 m.loc, .slice p.ca m.code.length p.cc, .slice p.ha m.hs.length p.hc]
def MethAt (w : World) (m : MethR) (p : MAddr) : Prop := CodeAt w p.ca p.cc m.code ∧ HandsAt w p.ha p.hc m.hs
theorem MethAt.below {w w' : World} {m : MethR} {p : MAddr} (h : MethAt w m p) (hb : Below w.heap.size w w') : MethAt w' m p := ⟨h.1.below hb, h.2.below hb⟩
def MethsAt (w : World) (a : Option Addr) (cap : Nat) (l : List MethR) (ps : List MAddr) : Prop :=
 ps.length = l.length ∧ RowsAt w 8 a cap (List.zipWith methCells l ps) ∧ ∀ (k : Nat) (m : MethR) (p : MAddr), l[k]? = some m → ps[k]? = some p → MethAt w m p
theorem MethsAt.below {w w' : World} {a : Option Addr} {cap : Nat} {l : List MethR} {ps : List MAddr} (h : MethsAt w a cap l ps) (hb : Below w.heap.size w w') : MethsAt w' a cap l ps :=
 ⟨h.1, h.2.1.below hb, fun k m p hm hp => (h.2.2 k m p hm hp).below hb⟩
theorem MethsAt.cells {w : World} {a : Option Addr} {cap : Nat} {l : List MethR} {ps : List MAddr} (h : MethsAt w a cap l ps) {k : Nat} {m : MethR} (hx : l[k]? = some m) : ∃ (b : Nat) (off : Nat) (p : MAddr), a = some ⟨b, off, none⟩ ∧ b < w.heap.size ∧ ps[k]? = some p ∧ MethAt w m p ∧
   w.cell? ⟨b, off + k * 8, none⟩ = some (.string ⟨⟨m.nm⟩⟩) ∧ w.cell? ⟨b, off + k * 8 + 1, none⟩ = some (.string ⟨⟨m.ty⟩⟩) ∧ w.cell? ⟨b, off + k * 8 + 2, none⟩ = some (.bool m.stat) ∧ w.cell? ⟨b, off + k * 8 + 3, none⟩ = some (.bool m.abst) ∧
   w.cell? ⟨b, off + k * 8 + 4, none⟩ = some (.bool m.priv) ∧ w.cell? ⟨b, off + k * 8 + 5, none⟩ = some (.int .i64 m.loc) ∧ w.cell? ⟨b, off + k * 8 + 6, none⟩ = some (.slice p.ca m.code.length p.cc) ∧ w.cell? ⟨b, off + k * 8 + 7, none⟩ = some (.slice p.ha m.hs.length p.hc) := by
 obtain ⟨hl, hr, hm⟩ := h
 obtain ⟨hk, hx'⟩ := List.getElem?_eq_some_iff.1 hx
 have hkp : k < ps.length := by omega
 obtain ⟨p, hp⟩ : ∃ p, ps[k]? = some p := ⟨_, List.getElem?_eq_getElem hkp⟩
 have hz : (List.zipWith methCells l ps)[k]? = some (methCells m p) := by
   rw [List.getElem?_zipWith, hx, hp]
 obtain ⟨_, h2 | ⟨b, off, rfl, hlt, hc⟩⟩ := hr
 · rw [h2] at hz; simp at hz
 · have hh := hc k _ hz
   exact ⟨b, off, p, rfl, hlt, hp, hm k m p hx hp, hh 0 _ rfl, hh 1 _ rfl, hh 2 _ rfl, hh 3 _ rfl, hh 4 _ rfl, hh 5 _ rfl, hh 6 _ rfl, hh 7 _ rfl⟩
def MBox (W : World) (g : Nat) (m : MethR) (p : MAddr) : Prop :=
 g < W.heap.size ∧ W.cell? ⟨g, 0, none⟩ = some (.string ⟨⟨m.nm⟩⟩) ∧ W.cell? ⟨g, 1, none⟩ = some (.string ⟨⟨m.ty⟩⟩) ∧ W.cell? ⟨g, 2, none⟩ = some (.bool m.stat) ∧ W.cell? ⟨g, 3, none⟩ = some (.bool m.abst) ∧
   W.cell? ⟨g, 4, none⟩ = some (.bool m.priv) ∧ W.cell? ⟨g, 5, none⟩ = some (.int .i64 m.loc) ∧ W.cell? ⟨g, 6, none⟩ = some (.slice p.ca m.code.length p.cc) ∧ W.cell? ⟨g, 7, none⟩ = some (.slice p.ha m.hs.length p.hc)
theorem MBox.below {W W' : World} {g : Nat} {m : MethR} {p : MAddr} (h : MBox W g m p) (hb : Below W.heap.size W W') : MBox W' g m p := by
 obtain ⟨h0, h1, h2, h3, h4, h5, h6, h7, h8⟩ := h
 refine ⟨Nat.lt_of_lt_of_le h0 hb.size, ?_, ?_, ?_, ?_, ?_, ?_, ?_, ?_⟩ <;> (rw [hb.cell (p := ⟨g, _, none⟩) h0]; assumption)
theorem mbox_new (w : World) (m : MethR) (p : MAddr) : MBox (w.alloc (.cells #[.string ⟨⟨m.nm⟩⟩, .string ⟨⟨m.ty⟩⟩, .bool m.stat, .bool m.abst, .bool m.priv, .int .i64 m.loc, .slice p.ca m.code.length p.cc, .slice p.ha m.hs.length p.hc] 45)) w.heap.size m p := by
 refine ⟨by simp, ?_, ?_, ?_, ?_, ?_, ?_, ?_, ?_⟩ <;> rw [World.cell?_alloc_new] <;> rfl
structure CAddr where
 fa : Option Addr
 fc : Nat
 ga : Option Addr
 gc : Nat
 ma : Option Addr
 mc : Nat
 ps : List MAddr
def classCells (c : ClassR) (p : CAddr) : List Value := [.string ⟨⟨c.nm⟩⟩, .string ⟨⟨c.sup⟩⟩, .slice p.fa c.faces.length p.fc, .bool c.face, .slice p.ga c.fields.length p.gc, .slice p.ma c.meths.length p.mc]
def classV (c : ClassR) (p : CAddr) : Value := .agg #[.string ⟨⟨c.nm⟩⟩, .string ⟨⟨c.sup⟩⟩, .slice p.fa c.faces.length p.fc, .bool c.face, .slice p.ga c.fields.length p.gc, .slice p.ma c.meths.length p.mc]
def ClassAt (w : World) (c : ClassR) (p : CAddr) : Prop := SRow w p.fa p.fc c.faces ∧ FieldsAt w p.ga p.gc c.fields ∧ MethsAt w p.ma p.mc c.meths p.ps
theorem ClassAt.below {w w' : World} {c : ClassR} {p : CAddr} (h : ClassAt w c p) (hb : Below w.heap.size w w') : ClassAt w' c p := ⟨h.1.below hb, h.2.1.below hb, h.2.2.below hb⟩
def CBox (W : World) (g : Nat) (c : ClassR) (p : CAddr) : Prop :=
 g < W.heap.size ∧ W.cell? ⟨g, 0, none⟩ = some (.string ⟨⟨c.nm⟩⟩) ∧ W.cell? ⟨g, 1, none⟩ = some (.string ⟨⟨c.sup⟩⟩) ∧ W.cell? ⟨g, 2, none⟩ = some (.slice p.fa c.faces.length p.fc) ∧ W.cell? ⟨g, 3, none⟩ = some (.bool c.face) ∧
   W.cell? ⟨g, 4, none⟩ = some (.slice p.ga c.fields.length p.gc) ∧ W.cell? ⟨g, 5, none⟩ = some (.slice p.ma c.meths.length p.mc)
theorem CBox.below {W W' : World} {g : Nat} {c : ClassR} {p : CAddr} (h : CBox W g c p) (hb : Below W.heap.size W W') : CBox W' g c p := by
 obtain ⟨h0, h1, h2, h3, h4, h5, h6⟩ := h
 refine ⟨Nat.lt_of_lt_of_le h0 hb.size, ?_, ?_, ?_, ?_, ?_, ?_⟩ <;> (rw [hb.cell (p := ⟨g, _, none⟩) h0]; assumption)
theorem cbox_new (w : World) (c : ClassR) (p : CAddr) : CBox (w.alloc (.cells #[.string ⟨⟨c.nm⟩⟩, .string ⟨⟨c.sup⟩⟩, .slice p.fa c.faces.length p.fc, .bool c.face, .slice p.ga c.fields.length p.gc, .slice p.ma c.meths.length p.mc] 50)) w.heap.size c p := by
 refine ⟨by simp, ?_, ?_, ?_, ?_, ?_, ?_⟩ <;> rw [World.cell?_alloc_new] <;> rfl
open Go.Shelf Go.Lib
theorem name_errOf (l : List UInt8) (w : World) : Calls Tryz.prog 35 #[.string ⟨⟨l⟩⟩] w fun e w' => e = .returned (errOf (if nameOk l then 0 else 1)) ∧ Below w.heap.size w w' := by
 cases h : nameOk l
 · exact name_bad ⟨⟨l⟩⟩ w h
 · exact name_ok ⟨⟨l⟩⟩ w h
@[go_sem] theorem errOf_zero : errOf 0 = .nilIface := rfl
@[go_sem] theorem errOf_one : errOf 1 = errV 1 := rfl
theorem errOf_ne {n : Int} (h : n ≠ 0) : errOf n = errV n := by unfold errOf; rw [if_neg h]
theorem hand_ways (n : Int) (h : HandR) : (hand1 n h = 2 ∧ (h.lo < 0 ∨ (0 ≤ h.lo ∧ h.hi ≤ h.lo) ∨ (0 ≤ h.lo ∧ h.lo < h.hi ∧ n < h.hi) ∨ (0 ≤ h.lo ∧ h.lo < h.hi ∧ h.hi ≤ n ∧ h.at_ < 0) ∨ (0 ≤ h.lo ∧ h.lo < h.hi ∧ h.hi ≤ n ∧ 0 ≤ h.at_ ∧ n ≤ h.at_))) ∨
   ((0 ≤ h.lo ∧ h.lo < h.hi ∧ h.hi ≤ n ∧ 0 ≤ h.at_ ∧ h.at_ < n) ∧ hand1 n h = if nameOk h.cl then 0 else 1) := by
 unfold hand1
 by_cases hb : h.lo < 0 ∨ h.hi ≤ h.lo ∨ n < h.hi ∨ h.at_ < 0 ∨ n ≤ h.at_
 · rw [if_pos hb]
   left
   exact ⟨rfl, by omega⟩
 · rw [if_neg hb]
   right
   refine ⟨by omega, ?_⟩
   cases nameOk h.cl <;> simp
def hErr (n : Int) (hs : List HandR) (j : Nat) : Int := (hs[j]?).elim 0 (hand1 n)
theorem hErr_at {n : Int} {hs : List HandR} {j : Nat} {h : HandR} (hj : hs[j]? = some h) : hErr n hs j = hand1 n h := by unfold hErr; rw [hj]; rfl
theorem handErr_at {n : Int} {hs : List HandR} {k : Nat} (h0 : ∀ j, j < k → hErr n hs j = 0) (hk : hErr n hs k ≠ 0) (hl : k < hs.length) : handErr n hs = hErr n hs k := by
 have := firstNZ_at h0 hk _ hl
 unfold handErr
 show (if firstNZ (hErr n hs) hs.length ≠ 0 then firstNZ (hErr n hs) hs.length else _) = _
 rw [this, if_pos hk]
theorem handErr_zero {n : Int} {hs : List HandR} (h0 : ∀ j, j < hs.length → hErr n hs j = 0) : handErr n hs = if 8 < hs.length then 4 else 0 := by
 have := (firstNZ_zero (hErr n hs) hs.length).2 h0
 unfold handErr
 show (if firstNZ (hErr n hs) hs.length ≠ 0 then firstNZ (hErr n hs) hs.length else _) = _
 rw [this, if_neg (by simp)]
theorem upto_succ {f : Nat → Int} {k : Nat} (h : ∀ j, j < k → f j = 0) (hk : f k = 0) : ∀ j, j < k + 1 → f j = 0 := by
 intro j hj
 by_cases e : j = k
 · rw [e]; exact hk
 · exact h j (by omega)
theorem handlers_calls (m : MethR) (p : MAddr) (w : World) (hM : MethAt w m p) (hcl : m.code.length ≤ 100000000) (hhl : m.hs.length ≤ 100000000) :
   Calls Tryz.prog 228 #[methV m p] w fun e w' => e = .returned (errOf (handErr m.code.length m.hs)) ∧ Below w.heap.size w w' := by
 generalize hE : errOf (handErr m.code.length m.hs) = E
 have HE := Hd hE
 have HM := Hd hM
 have HX := Hd (mbox_new w m p)
 clear hE hM
 unfold methV
 go_enter Tryz.func228, Tryz.ntmps228
 obtain ⟨hg, c0, c1, c2, c3, c4, c5, c6, c7⟩ := HX.out
 go_wp2_with fail
 clear hg c0 c1 c2 c3 c4 c5 c6 c7
 go_loopw [8] (fun i wr => ∃ k : Nat, k ≤ m.hs.length ∧ i = .int .i64 k ∧ Below w.heap.size w wr ∧ MBox wr w.heap.size m p ∧ Hid (∀ j, j < k → hErr m.code.length m.hs j = 0)) (fun i _ => m.hs.length - (RowKit.intOf i).toNat)
 case atStart => exact ⟨0, by omega, rfl, (Below.refl _ _).alloc (Nat.le_refl _) _, HX.out, Hd (by omega)⟩
 case round =>
   obtain ⟨k, hk, rfl, hb, hbx, HZ⟩ := hrel
   have HB := Hd hb
   have HBX := Hd hbx
   obtain ⟨hg, c0, c1, c2, c3, c4, c5, c6, c7⟩ := hbx
   have hcw := HM.out.2.below hb
   have hsz := hb.size
   clear hb
   by_cases hlk : k < m.hs.length
   · obtain ⟨x, hx⟩ : ∃ x, m.hs[k]? = some x := ⟨_, List.getElem?_eq_getElem hlk⟩
     obtain ⟨b, off, hpa, hlt, d0, d1, d2, d3⟩ := hcw.cells hx
     have HXE := Hd (hErr_at (n := m.code.length) hx)
     rw [hpa] at *
     clear hcw hx c0 c1 c2 c3 c4 c5
     rcases hand_ways m.code.length x with ⟨h2, hway⟩ | ⟨hgood, h2⟩
     · have HEE := Hd (show E = errV 2 by
         rw [← HE.out, handErr_at HZ.out (by rw [HXE.out, h2]; omega) hlk, HXE.out, h2]; rfl)
       clear h2
       rcases hway with h | ⟨h1, h⟩ | ⟨h1, h3, h⟩ | ⟨h1, h3, h4, h⟩ | ⟨h1, h3, h4, h5, h⟩
       all_goals
         go_wp2_with fail
         go_ret
         exact ⟨by rw [HEE.out]; rfl, HB.out.alloc hsz _⟩
     · obtain ⟨h1, h3, h4, h5, h6⟩ := hgood
       have HN := Hd (fun w => name_errOf x.cl w)
       have H2 := Hd h2
       clear h2
       cases hn : nameOk x.cl with
       | true =>
         rw [hn] at HN H2
         simp only [if_true, if_false, Bool.false_eq_true, errOf_zero, errOf_one] at HN
         have HZ2 := Hd (upto_succ HZ.out (by rw [HXE.out, H2.out]; rfl))
         clear hn
         go_wp2_with fail
         refine (HN.out _).mono ?_
         rintro e w2 ⟨rfl, hb2⟩
         have HB2 := Hd (bl_trans HB.out (new_below hb2))
         have HBX2 := Hd (HBX.out.below (new_below hb2))
         clear hb2
         go_wp2_with fail
         go_roundw
         case rel => exact ⟨k + 1, by omega, by go_num, HB2.out, HBX2.out, HZ2⟩
         case measure => simp [RowKit.intOf]; omega
       | false =>
         rw [hn] at HN H2
         simp only [if_true, if_false, Bool.false_eq_true, errOf_zero, errOf_one] at HN
         have HEE := Hd (show E = errV 1 by
           rw [← HE.out, handErr_at HZ.out (by rw [HXE.out, H2.out]; simp) hlk, HXE.out, H2.out]; rfl)
         clear hn
         go_wp2_with fail
         refine (HN.out _).mono ?_
         rintro e w2 ⟨rfl, hb2⟩
         have HB2 := Hd (bl_trans HB.out (new_below hb2))
         clear hb2
         go_wp2_with fail
         go_ret
         exact ⟨by rw [HEE.out]; rfl, HB2.out⟩
   · obtain rfl : k = m.hs.length := by omega
     have hz := handErr_zero HZ.out
     clear hcw c0 c1 c2 c3 c4 c5
     by_cases h8 : 8 < m.hs.length
     · rw [if_pos h8] at hz
       have HEE := Hd (show E = errV 4 by rw [← HE.out, hz]; rfl)
       clear hz
       go_wp2_with fail
       go_ret
       exact ⟨by rw [HEE.out]; rfl, HB.out⟩
     · rw [if_neg h8] at hz
       have HEE := Hd (show E = .nilIface by rw [← HE.out, hz]; rfl)
       clear hz
       go_wp2_with fail
       go_ret
       exact ⟨by rw [HEE.out]; rfl, HB.out⟩
theorem mty_calls (t : List UInt8) (ht : t.length ≤ 8388608) (w : World) : Calls Tryz.prog 22 #[.string ⟨⟨t⟩⟩] w fun e w' => ∃ a n cap g, e = .returned (.tuple #[.slice a n cap, .string ⟨⟨g⟩⟩, errOf (mtyErr t)]) ∧ Below w.heap.size w w' ∧ (mtyErr t = 0 → (n : Int) = argsN t) ∧ n ≤ 5 := by
 refine (method_calls t ht w).mono ?_
 rintro e w' ⟨hb, ⟨rfl, hn⟩ | ⟨v, A, g, rfl, hm, ho⟩⟩
 · have h0 : mtyErr t = 1 := by unfold mtyErr; rw [if_neg (by rintro ⟨A, g, h⟩; exact hn A g h)]
   exact ⟨none, 0, 0, [], by rw [h0]; rfl, hb, by rw [h0]; omega, by omega⟩
 · have h0 : mtyErr t = 0 := by unfold mtyErr; rw [if_pos ⟨A, g, hm⟩]
   obtain ⟨a, cap, rfl, _⟩ := slice_of_own ho
   exact ⟨a, A.length, cap, g, by rw [h0]; rfl, hb, fun _ => (argsN_of hm).symm, hm.2.2.1⟩
theorem args_calls (m : MethR) (p : MAddr) (w : World) (ht : m.ty.length ≤ 8388608) :
   Calls Tryz.prog 227 #[methV m p] w fun e w' => e = .returned (.int .i64 (argsOf m)) ∧ Below w.heap.size w w' := by
 have HX := Hd (mbox_new w m p)
 have HT := Hd (fun w => mty_calls m.ty ht w)
 generalize hR : argsOf m = R
 have HR := Hd hR
 clear hR
 unfold methV
 go_enter Tryz.func227, Tryz.ntmps227
 obtain ⟨hg, c0, c1, c2, c3, c4, c5, c6, c7⟩ := HX.out
 go_wp2_with fail
 clear hg c0 c1 c2 c3 c4 c5 c6 c7
 refine (HT.out _).mono ?_
 rintro e w1 ⟨a, n, cap, g, rfl, hb1, hn, hn5⟩
 have HN := Hd hn
 have HB1 := Hd (new_below hb1)
 obtain ⟨hg, c0, c1, c2, c3, c4, c5, c6, c7⟩ := HX.out.below hb1
 clear hb1 hn c0 c1 c3 c4 c5 c6 c7
 by_cases he : mtyErr m.ty = 0
 · have hr : R = if m.stat then (n : Int) else (n : Int) + 1 := by
     rw [← HR.out]
     unfold argsOf
     rw [if_neg (by simp [he]), HN.out he]
   have HRR := Hd hr
   rw [he, errOf_zero]
   clear he hr
   cases hs : m.stat with
   | true =>
     rw [hs] at HRR c2
     go_wp2_with fail
     go_ret
     exact ⟨by rw [HRR.out]; rfl, HB1.out⟩
   | false =>
     rw [hs] at HRR c2
     go_wp2_with fail
     go_ret
     exact ⟨by rw [HRR.out]; rfl, HB1.out⟩
 · have HRR := Hd (show R = 0 by rw [← HR.out]; unfold argsOf; rw [if_pos he])
   rw [errOf_ne he]
   generalize mtyErr m.ty = q at *
   have HQ := Hd he
   clear he c2
   go_wp2_with fail
   go_ret
   exact ⟨by rw [HRR.out]; rfl, HB1.out⟩
def PredB (g : Nat) (lb : Array Value) (v : Value) (r : Bool) (w : World) : Prop :=
 ∀ W : World, Below w.heap.size w W → Calls Tryz.prog g (#[v] ++ lb) W fun e w' => e = .returned (.bool r) ∧ Below w.heap.size w w'
theorem any_hit {α : Type} {l : List α} {k : Nat} {x : α} {q : α → Bool} (hx : l[k]? = some x) (hq : q x = true) : l.any q = true := List.any_eq_true.2 ⟨x, List.mem_of_getElem? hx, hq⟩
theorem any_miss {α : Type} {l : List α} {q : α → Bool} (h : ∀ x ∈ l, q x = false) : l.any q = false := by
 rw [List.any_eq_false]
 intro x hx
 simp [h x hx]
def fieldV (x : FieldR) : Value := .agg #[.string ⟨⟨x.nm⟩⟩, .string ⟨⟨x.ty⟩⟩]
theorem indexField (l : List FieldR) (a : Option Addr) (cap : Nat) (w : World) (lb : Array Value) (q : FieldR → Bool) (h : FieldsAt w a cap l) (hl : l.length ≤ 1000000000) (hq : ∀ (k : Nat) (x : FieldR), l[k]? = some x → PredB 145 lb (fieldV x) (q x) w) :
   Calls Tryz.prog 200 #[.slice a l.length cap, .func (.func 145) #[] lb] w fun e w' => (∃ i : Int, e = .returned (.int .i64 i) ∧ decide (0 ≤ i) = l.any q) ∧ Below w.heap.size w w' := by
 have HQ := Hd hq
 have HL := Hd h
 clear hq h
 go_enter Tryz.func200, Tryz.ntmps200
 go_wp2_with fail
 go_loopw [8] (fun i wr => ∃ k : Nat, k ≤ l.length ∧ i = .int .i64 k ∧ Below w.heap.size w wr ∧ Hid (∀ x ∈ l.take k, q x = false)) (fun i _ => l.length - (RowKit.intOf i).toNat)
 case atStart => exact ⟨0, by omega, rfl, Below.refl _ _, Hd (by simp)⟩
 case round =>
   obtain ⟨k, hk, rfl, hb, HZ⟩ := hrel
   have HB := Hd hb
   by_cases hlk : k < l.length
   · obtain ⟨x, hx⟩ : ∃ x, l[k]? = some x := ⟨_, List.getElem?_eq_getElem hlk⟩
     obtain ⟨b, off, rfl, hlt, c0, c1⟩ := (HL.out.below hb).cells hx
     have HP := Hd (HQ.out k x hx wr hb)
     have HX := Hd hx
     unfold fieldV at HP
     clear hx hb
     cases hr : q x with
     | true =>
       rw [hr] at HP
       have HA := Hd (any_hit HX.out hr)
       clear hr
       go_wp2_with fail
       refine HP.out.mono ?_
       rintro e w2 ⟨rfl, hb2⟩
       have HB2 := Hd hb2
       clear hb2
       go_wp2_with fail
       go_ret
       exact ⟨⟨k, rfl, by rw [HA.out]; simp⟩, HB2.out⟩
     | false =>
       rw [hr] at HP
       have HZ2 := Hd (take_all_succ HZ.out HX.out hr)
       clear hr
       go_wp2_with fail
       refine HP.out.mono ?_
       rintro e w2 ⟨rfl, hb2⟩
       have HB2 := Hd hb2
       clear hb2
       go_wp2_with fail
       go_roundw
       case rel => exact ⟨k + 1, by omega, by go_num, HB2.out, HZ2⟩
       case measure => simp [RowKit.intOf]; omega
   · obtain rfl : k = l.length := by omega
     have HA := Hd (any_miss (by have := HZ.out; rwa [List.take_length] at this))
     go_wp2_with fail
     go_ret
     exact ⟨⟨-1, rfl, by rw [HA.out]; rfl⟩, HB.out⟩
theorem containsField (l : List FieldR) (a : Option Addr) (cap : Nat) (w : World) (lb : Array Value) (q : FieldR → Bool) (h : FieldsAt w a cap l) (hl : l.length ≤ 1000000000) (hq : ∀ (k : Nat) (x : FieldR), l[k]? = some x → PredB 145 lb (fieldV x) (q x) w) :
   Calls Tryz.prog 144 #[.slice a l.length cap, .func (.func 145) #[] lb] w fun e w' => e = .returned (.bool (l.any q)) ∧ Below w.heap.size w w' := by
 have HI := Hd (indexField l a cap w lb q h hl hq)
 clear hq h
 go_enter Tryz.func144, Tryz.ntmps144
 go_wp2_with fail
 refine HI.out.mono ?_
 rintro e w2 ⟨⟨i, rfl, hi⟩, hb2⟩
 have H1 := Hd hi
 have HB2 := Hd hb2
 clear hi hb2
 go_wp2_with fail
 go_ret
 exact ⟨ret_bool H1.out, HB2.out⟩
theorem indexMeth (l : List MethR) (a : Option Addr) (cap : Nat) (ps : List MAddr) (w : World) (lb : Array Value) (q : MethR → Bool) (h : MethsAt w a cap l ps) (hl : l.length ≤ 1000000000) (hq : ∀ (k : Nat) (x : MethR) (p : MAddr), l[k]? = some x → ps[k]? = some p → PredB 202 lb (methV x p) (q x) w) :
   Calls Tryz.prog 30 #[.slice a l.length cap, .func (.func 202) #[] lb] w fun e w' => (∃ i : Int, e = .returned (.int .i64 i) ∧ decide (0 ≤ i) = l.any q) ∧ Below w.heap.size w w' := by
 have HQ := Hd hq
 have HL := Hd h
 clear hq h
 go_enter Tryz.func30, Tryz.ntmps30
 go_wp2_with fail
 go_loopw [8] (fun i wr => ∃ k : Nat, k ≤ l.length ∧ i = .int .i64 k ∧ Below w.heap.size w wr ∧ Hid (∀ x ∈ l.take k, q x = false)) (fun i _ => l.length - (RowKit.intOf i).toNat)
 case atStart => exact ⟨0, by omega, rfl, Below.refl _ _, Hd (by simp)⟩
 case round =>
   obtain ⟨k, hk, rfl, hb, HZ⟩ := hrel
   have HB := Hd hb
   by_cases hlk : k < l.length
   · obtain ⟨x, hx⟩ : ∃ x, l[k]? = some x := ⟨_, List.getElem?_eq_getElem hlk⟩
     obtain ⟨b, off, p, rfl, hlt, hpp, _, c0, c1, c2, c3, c4, c5, c6, c7⟩ := (HL.out.below hb).cells hx
     have HP := Hd (HQ.out k x p hx hpp wr hb)
     have HX := Hd hx
     unfold methV at HP
     clear hx hb
     cases hr : q x with
     | true =>
       rw [hr] at HP
       have HA := Hd (any_hit HX.out hr)
       clear hr
       go_wp2_with fail
       refine HP.out.mono ?_
       rintro e w2 ⟨rfl, hb2⟩
       have HB2 := Hd hb2
       clear hb2
       go_wp2_with fail
       go_ret
       exact ⟨⟨k, rfl, by rw [HA.out]; simp⟩, HB2.out⟩
     | false =>
       rw [hr] at HP
       have HZ2 := Hd (take_all_succ HZ.out HX.out hr)
       clear hr
       go_wp2_with fail
       refine HP.out.mono ?_
       rintro e w2 ⟨rfl, hb2⟩
       have HB2 := Hd hb2
       clear hb2
       go_wp2_with fail
       go_roundw
       case rel => exact ⟨k + 1, by omega, by go_num, HB2.out, HZ2⟩
       case measure => simp [RowKit.intOf]; omega
   · obtain rfl : k = l.length := by omega
     have HA := Hd (any_miss (by have := HZ.out; rwa [List.take_length] at this))
     go_wp2_with fail
     go_ret
     exact ⟨⟨-1, rfl, by rw [HA.out]; rfl⟩, HB.out⟩
theorem containsMeth (l : List MethR) (a : Option Addr) (cap : Nat) (ps : List MAddr) (w : World) (lb : Array Value) (q : MethR → Bool) (h : MethsAt w a cap l ps) (hl : l.length ≤ 1000000000) (hq : ∀ (k : Nat) (x : MethR) (p : MAddr), l[k]? = some x → ps[k]? = some p → PredB 202 lb (methV x p) (q x) w) :
   Calls Tryz.prog 201 #[.slice a l.length cap, .func (.func 202) #[] lb] w fun e w' => e = .returned (.bool (l.any q)) ∧ Below w.heap.size w w' := by
 have HI := Hd (indexMeth l a cap ps w lb q h hl hq)
 clear hq h
 go_enter Tryz.func201, Tryz.ntmps201
 go_wp2_with fail
 refine HI.out.mono ?_
 rintro e w2 ⟨⟨i, rfl, hi⟩, hb2⟩
 have H1 := Hd hi
 have HB2 := Hd hb2
 clear hi hb2
 go_wp2_with fail
 go_ret
 exact ⟨ret_bool H1.out, HB2.out⟩
theorem sameField (x y : FieldR) (g : Nat) (w : World) (hg : g < w.heap.size) (hc : w.cell? ⟨g, 0, none⟩ = some (.string ⟨⟨y.nm⟩⟩)) : PredB 145 #[.pointer (some ⟨g, 0, none⟩)] (fieldV x) (x.nm == y.nm) w := by
 intro W hb
 have hc2 : W.cell? ⟨g, 0, none⟩ = some (.string ⟨⟨y.nm⟩⟩) := by rw [hb.cell (p := ⟨g, 0, none⟩) hg]; exact hc
 have hg2 : g < W.heap.size := Nat.lt_of_lt_of_le hg hb.size
 have HB := Hd hb
 clear hb hc
 unfold fieldV
 show Calls Tryz.prog _ #[_, _] W _
 go_enter Tryz.func145, Tryz.ntmps145
 go_wp2_with fail
 go_ret
 exact ⟨ret_bool rfl, HB.out.alloc HB.out.size _⟩
theorem sameMeth (x m : MethR) (p : MAddr) (g : Nat) (w : World) (hg : g < w.heap.size) (h0 : w.cell? ⟨g, 0, none⟩ = some (.string ⟨⟨m.nm⟩⟩)) (h1 : w.cell? ⟨g, 1, none⟩ = some (.string ⟨⟨m.ty⟩⟩)) :
   PredB 202 #[.pointer (some ⟨g, 0, none⟩)] (methV x p) (x.nm == m.nm && x.ty == m.ty) w := by
 intro W hb
 have hc2 : W.cell? ⟨g, 0, none⟩ = some (.string ⟨⟨m.nm⟩⟩) := by rw [hb.cell (p := ⟨g, 0, none⟩) hg]; exact h0
 have hc3 : W.cell? ⟨g, 1, none⟩ = some (.string ⟨⟨m.ty⟩⟩) := by rw [hb.cell (p := ⟨g, 1, none⟩) hg]; exact h1
 have hg2 : g < W.heap.size := Nat.lt_of_lt_of_le hg hb.size
 have HB := Hd hb
 clear hb h0 h1
 unfold methV
 show Calls Tryz.prog _ #[_, _] W _
 cases hq : x.nm == m.nm with
 | true =>
   go_enter Tryz.func202, Tryz.ntmps202
   go_wp2_with fail
   go_ret
   exact ⟨ret_bool (by simp), HB.out.alloc HB.out.size _⟩
 | false =>
   go_enter Tryz.func202, Tryz.ntmps202
   go_wp2_with fail
   go_ret
   exact ⟨ret_bool (by simp), HB.out.alloc HB.out.size _⟩
theorem SRow.take {w : World} {a : Option Addr} {cap : Nat} {A : List (List UInt8)} (h : SRow w a cap A) (k : Nat) : SRow w a cap (A.take k) := by
 obtain ⟨h1, h2⟩ := h
 refine ⟨by rw [List.length_take]; omega, ?_⟩
 rcases h2 with rfl | ⟨b, off, rfl, hlt, hc⟩
 · exact Or.inl (by simp)
 · exact Or.inr ⟨b, off, rfl, hlt, fun j x hx => hc j x (by rw [List.getElem?_take] at hx; split at hx <;> simp_all)⟩
theorem RowsAt.take {w : World} {size : Nat} {a : Option Addr} {cap : Nat} {L : List (List Value)} (h : RowsAt w size a cap L) (k : Nat) : RowsAt w size a cap (L.take k) := by
 obtain ⟨h1, h2⟩ := h
 refine ⟨by rw [List.length_take]; omega, ?_⟩
 rcases h2 with rfl | ⟨b, off, rfl, hlt, hc⟩
 · exact Or.inl (by simp)
 · exact Or.inr ⟨b, off, rfl, hlt, fun j x hx => hc j x (by rw [List.getElem?_take] at hx; split at hx <;> simp_all)⟩
theorem FieldsAt.take {w : World} {a : Option Addr} {cap : Nat} {l : List FieldR} (h : FieldsAt w a cap l) (k : Nat) : FieldsAt w a cap (l.take k) := by
 have := RowsAt.take h k
 unfold FieldsAt
 rw [List.map_take]
 exact this
theorem MethsAt.take {w : World} {a : Option Addr} {cap : Nat} {l : List MethR} {ps : List MAddr} (h : MethsAt w a cap l ps) (k : Nat) : MethsAt w a cap (l.take k) (ps.take k) := by
 obtain ⟨h1, h2, h3⟩ := h
 refine ⟨by simp [h1], ?_, ?_⟩
 · have := RowsAt.take h2 k
   rw [← List.take_zipWith]
   exact this
 · intro j m p hm hp
   rw [List.getElem?_take] at hm hp
   split at hm
   · rename_i hj
     rw [if_pos hj] at hp
     exact h3 j m p hm hp
   · cases hm
theorem idx_contains (l : List (List UInt8)) (x : List UInt8) : Lib.containsS (l.map fun t => (⟨⟨t⟩⟩ : ByteArray)) ⟨⟨x⟩⟩ = l.contains x := by
 rw [Bool.eq_iff_iff, Lib.containsS_iff, List.contains_iff_mem, List.mem_map]
 constructor
 · rintro ⟨t, ht, e⟩
   have : t = x := by simpa using e
   rw [← this]; exact ht
 · intro h; exact ⟨x, h, rfl⟩
theorem contains_str (l : List (List UInt8)) (a : Option Addr) (n cap : Nat) (x : List UInt8) (w : World) (h : SRow w a cap l) (hn : n = l.length) (hl : l.length ≤ 1000000000) :
   Calls Tryz.prog 116 #[.slice a n cap, .string ⟨⟨x⟩⟩] w fun e w' => e = .returned (.bool (l.contains x)) ∧ w = w' := by
 subst hn
 obtain ⟨_, rfl | ⟨b, off, rfl, hlt, hc⟩⟩ := h
 · exact (Tryz.slices_Contains_string_empty a cap ⟨⟨x⟩⟩ w).mono fun e w' ⟨h1, h2⟩ => ⟨h1, h2.symm⟩
 · refine (Tryz.slices_Contains_string b off l.length cap (l.map fun t => (⟨⟨t⟩⟩ : ByteArray)) ⟨⟨x⟩⟩ w (by simp) (by omega) (fun j hj => ?_)).mono ?_
   · rw [List.length_map] at hj
     have := hc j l[j] (List.getElem?_eq_getElem hj)
     rw [this]
     simp [List.getD, List.getElem?_eq_getElem hj, strV]
   · rintro e w' ⟨rfl, rfl⟩
     refine ⟨ret_bool ?_, rfl⟩
     rw [List.take_of_length_le (by simp)]
     exact idx_contains l x
theorem flow_errOf (l : List InsR) (a : Option Addr) (cap : Nat) (w : World) (hC : CodeAt w a cap l) (hF : FormsAt w) (hT : ∀ x ∈ l, x.ty.length ≤ 8388608) :
   Calls Tryz.prog 226 #[.slice a l.length cap] w fun e w' => e = .returned (errOf (flowErr l)) ∧ Below w.heap.size w w' := flowCheck_calls l a cap w hC hF hT
theorem body_abst (m : MethR) (p : MAddr) (w : World) (ha : m.abst = true) :
   Calls Tryz.prog 203 #[methV m p] w fun e w' => e = .returned (errOf (bodyErr m)) ∧ Below w.heap.size w w' := by
 have HX := Hd (mbox_new w m p)
 by_cases hb : m.stat || m.priv || !m.code.isEmpty || !m.hs.isEmpty
 · have he : bodyErr m = 8 := by unfold bodyErr; rw [if_pos ha, if_pos hb]
   rw [he]
   clear he
   have hway : m.stat = true ∨ (m.stat = false ∧ m.priv = true) ∨ (m.stat = false ∧ m.priv = false ∧ 0 < m.code.length) ∨ (m.stat = false ∧ m.priv = false ∧ m.code.length = 0 ∧ 0 < m.hs.length) := by
     cases h1 : m.stat
     · cases h2 : m.priv
       · cases h3 : m.code with
         | nil =>
           cases h4 : m.hs with
           | nil => simp [h1, h2, h3, h4] at hb
           | cons => simp
         | cons => simp
       · simp
     · simp
   clear hb
   rcases hway with h1 | ⟨h1, h2⟩ | ⟨h1, h2, h3⟩ | ⟨h1, h2, h3, h4⟩
   all_goals
     unfold methV
     go_enter Tryz.func203, Tryz.ntmps203
     obtain ⟨hg, c0, c1, c2, c3, c4, c5, c6, c7⟩ := HX.out
     rw [ha] at c3
     rw [h1] at c2
     try rw [h2] at c4
     go_wp2_with fail
     go_ret
     exact ⟨rfl, (Below.refl _ _).alloc (Nat.le_refl _) _⟩
 · have he : bodyErr m = 0 := by unfold bodyErr; rw [if_pos ha, if_neg hb]
   rw [he]
   clear he
   simp only [Bool.or_eq_true, not_or, Bool.not_eq_true, Bool.not_eq_false', List.isEmpty_iff] at hb
   obtain ⟨⟨⟨h1, h2⟩, h3⟩, h4⟩ := hb
   unfold methV
   go_enter Tryz.func203, Tryz.ntmps203
   obtain ⟨hg, c0, c1, c2, c3, c4, c5, c6, c7⟩ := HX.out
   rw [ha] at c3
   rw [h1] at c2
   rw [h2] at c4
   rw [h3] at c6
   rw [h4] at c7
   simp only [List.length_nil] at c6 c7
   go_wp2_with fail
   go_ret
   exact ⟨rfl, (Below.refl _ _).alloc (Nat.le_refl _) _⟩
theorem loc_any {loc : Int} {l : List InsR} {k : Nat} {x : InsR} (hx : l[k]? = some x) (h : locB loc x = true) : l.any (locB loc) = true := any_hit hx h
theorem body_calls (m : MethR) (p : MAddr) (w : World) (hM : MethAt w m p) (hF : FormsAt w) (hT : ∀ x ∈ m.code, x.ty.length ≤ 8388608) (ht : m.ty.length ≤ 8388608) (hcl : m.code.length ≤ 100000000) (hhl : m.hs.length ≤ 100000000) :
   Calls Tryz.prog 203 #[methV m p] w fun e w' => e = .returned (errOf (bodyErr m)) ∧ Below w.heap.size w w' := by
 cases ha : m.abst with
 | true => exact body_abst m p w ha
 | false =>
   have hB : bodyErr m = if flowErr m.code ≠ 0 then flowErr m.code else if m.loc < argsOf m then 2 else if m.code.any (locB m.loc) then 2 else handErr m.code.length m.hs := by
     rw [bodyErr, ha]; simp
   rw [hB]
   generalize hE : errOf (if flowErr m.code ≠ 0 then flowErr m.code else if m.loc < argsOf m then 2 else if m.code.any (locB m.loc) then 2 else handErr m.code.length m.hs) = E
   have HE := Hd hE
   have HX := Hd (mbox_new w m p)
   have HM := Hd hM
   have HF := Hd hF
   have HFL := Hd (fun w h1 h2 => flow_errOf m.code p.ca p.cc w h1 h2 hT)
   have HAR := Hd (fun w => args_calls m p w ht)
   have HHD := Hd (fun w h1 => handlers_calls m p w h1 hcl hhl)
   rw [ha] at HX
   clear hB hE hM hF hT
   unfold methV at HAR HHD
   unfold methV
   go_enter Tryz.func203, Tryz.ntmps203
   obtain ⟨hg, c0, c1, c2, c3, c4, c5, c6, c7⟩ := HX.out
   rw [ha] at c3
   clear c0 c1 c2 c4 c5 c7
   go_wp2_with fail
   refine (HFL.out _ (HM.out.1.below ((Below.refl _ _).alloc (Nat.le_refl _) _)) (HF.out.below ((Below.refl _ _).alloc (Nat.le_refl _) _))).mono ?_
   rintro e w1 ⟨rfl, hb1⟩
   have HB1 := Hd (new_below hb1)
   have HX1 := Hd (HX.out.below hb1)
   have HA := Hd ha
   clear hb1 HFL HF HX hg c3 c6 ha
   by_cases hf : flowErr m.code = 0
   case neg =>
     have HEE := Hd (show E = errV (flowErr m.code) by rw [← HE.out, if_pos hf]; exact errOf_ne hf)
     rw [errOf_ne hf]
     generalize flowErr m.code = q at *
     have HQ := Hd hf
     clear hf
     go_wp2_with fail
     go_ret
     exact ⟨by rw [HEE.out]; rfl, HB1.out⟩
   case pos =>
     rw [hf] at HE
     rw [hf, errOf_zero]
     simp only [ne_eq, not_true_eq_false, if_false] at HE
     clear hf
     obtain ⟨hg, c0, c1, c2, c3, c4, c5, c6, c7⟩ := HX1.out
     have HX1d := Hd (show MBox w1.drew w.heap.size m p from HX1.out)
     go_wp2_with fail
     go_region_with (go_at_call 227; refine (HAR.out _).mono ?_; rintro e w2 ⟨rfl, hb2⟩; obtain ⟨hg', d0, d1, d2, d3, d4, d5, d6, d7⟩ := HX1d.out.below hb2; have HB2 := Hd (bl_trans (Below.refl _ _).drew hb2); have HX2 := Hd (HX1d.out.below hb2); clear hb2)
     all_goals
       have HBT := Hd (bl_trans HB1.out HB2.out)
       clear c0 c1 c2 c3 c4 c5 c6 c7 hg HX1 HX1d HAR
       clear d0 d1 d2 d3 d4 d7
       generalize hAG : argsOf m = ag at *
       by_cases hl : m.loc < ag
       · have HEE := Hd (show E = errV 2 by rw [← HE.out, if_pos hl]; rfl)
         go_wp2_with fail
         go_ret
         exact ⟨by rw [HEE.out]; rfl, HBT.out⟩
       · have HE2 := Hd HE.out
         rw [if_neg hl] at HE2
         clear HE hAG
         go_wp2_with fail
         clear hl
         go_loopw [42] (fun i wr => ∃ k : Nat, k ≤ m.code.length ∧ i = .int .i64 k ∧ Below w.heap.size w wr ∧ MBox wr w.heap.size m p ∧ Hid (∀ x ∈ m.code.take k, locB m.loc x = false)) (fun i _ => m.code.length - (RowKit.intOf i).toNat)
         case atStart => exact ⟨0, by omega, rfl, HBT.out, HX2.out, Hd (by simp)⟩
         case round =>
           obtain ⟨k, hk, rfl, hb, hbx, HZ⟩ := hrel
           have HB := Hd hb
           have HBX := Hd hbx
           obtain ⟨hg, c0, c1, c2, c3, c4, c5, c6, c7⟩ := hbx
           have hcw := HM.out.1.below hb
           have hsz := hb.size
           clear hb HX2
           by_cases hlk : k < m.code.length
           · obtain ⟨x, hx⟩ : ∃ x, m.code[k]? = some x := ⟨_, List.getElem?_eq_getElem hlk⟩
             obtain ⟨b, off, hpa, hlt, e0, e1, e2, e3, e4, e5⟩ := hcw.cells hx
             have HX := Hd hx
             rw [hpa] at *
             clear hcw hx c0 c1 c2 c3 c4 c7
             by_cases hlb : locB m.loc x = true
             · have HEE := Hd (show E = errV 2 by rw [← HE2.out, if_pos (loc_any HX.out hlb)]; rfl)
               have hway : (x.op = 4 ∧ m.loc ≤ x.a) ∨ (¬ x.op = 4 ∧ x.op = 5 ∧ m.loc ≤ x.a) := by
                 simp only [locB, Bool.and_eq_true, Bool.or_eq_true, beq_iff_eq, decide_eq_true_eq] at hlb
                 omega
               clear hlb
               rcases hway with ⟨h1, h2⟩ | ⟨h0, h1, h2⟩
               all_goals
                 have h3 : (x.op == 4) = decide (x.op = 4) := rfl
                 go_wp2_with fail
                 go_ret
                 exact ⟨by rw [HEE.out]; rfl, HB.out.alloc hsz _⟩
             · have hlf : locB m.loc x = false := by simpa using hlb
               have HZ2 := Hd (take_all_succ HZ.out HX.out hlf)
               have hway : (¬ x.op = 4 ∧ ¬ x.op = 5) ∨ (x.op = 4 ∧ x.a < m.loc) ∨ (¬ x.op = 4 ∧ x.op = 5 ∧ x.a < m.loc) := by
                 simp only [locB, Bool.and_eq_false_iff, Bool.or_eq_false_iff, beq_eq_false_iff_ne, decide_eq_false_iff_not] at hlf
                 omega
               clear hlb hlf
               rcases hway with ⟨h1, h2⟩ | ⟨h1, h2⟩ | ⟨h0, h1, h2⟩
               all_goals
                 go_wp2_with fail
                 go_roundw
                 case rel => exact ⟨k + 1, by omega, by go_num, HB.out.alloc hsz _, HBX.out.below ((Below.refl _ _).alloc (Nat.le_refl _) _), HZ2⟩
                 case measure => simp [RowKit.intOf]; omega
           · obtain rfl : k = m.code.length := by omega
             have HA2 := Hd (any_miss (by have := HZ.out; rwa [List.take_length] at this))
             have HEE := Hd (show E = errOf (handErr m.code.length m.hs) by rw [← HE2.out, HA2.out]; rfl)
             have HMW := Hd (HM.out.below HB.out)
             clear hcw
             go_wp2_with fail
             refine (HHD.out _ HMW.out).mono ?_
             rintro e w4 ⟨rfl, hb4⟩
             have HB4 := Hd (bl_trans HB.out hb4)
             clear hb4
             go_wp2_with fail
             go_ret
             exact ⟨by rw [HEE.out]; rfl, HB4.out⟩
theorem method_walk (m : MethR) (p : MAddr) (l : List MethR) (a : Option Addr) (cap : Nat) (ps : List MAddr) (w : World) (hM : MethAt w m p) (hL : MethsAt w a cap l ps) (hF : FormsAt w) (hT : ∀ x ∈ m.code, x.ty.length ≤ 8388608) (ht : m.ty.length ≤ 8388608) (hcl : m.code.length ≤ 100000000) (hhl : m.hs.length ≤ 100000000) (hll : l.length ≤ 1000000000) :
   Calls Tryz.prog 146 #[methV m p, .slice a l.length cap] w fun e w' => e = .returned (errOf (methErr m l)) ∧ Below w.heap.size w w' := by
 generalize hE : errOf (methErr m l) = E
 have HE := Hd hE
 have HX := Hd (mbox_new w m p)
 have HM := Hd hM
 have HL := Hd hL
 have HF := Hd hF
 have HBD := Hd (fun w h1 h2 => body_calls m p w h1 h2 hT ht hcl hhl)
 have HMT := Hd (fun w => mty_calls m.ty ht w)
 clear hE hM hL hF hT
 unfold methV at HBD
 unfold methV
 cases hn : nameOk m.nm with
 | false =>
   have HN := Hd (fun w => name_bad ⟨⟨m.nm⟩⟩ w hn)
   have HEE := Hd (show E = errV 1 by rw [← HE.out]; unfold methErr; rw [if_pos hn]; rfl)
   clear hn
   go_enter Tryz.func146, Tryz.ntmps146
   obtain ⟨hg, c0, c1, c2, c3, c4, c5, c6, c7⟩ := HX.out
   go_wp2_with fail
   refine (HN.out _).mono ?_
   rintro e w1 ⟨rfl, hb1⟩
   have HB1 := Hd (new_below hb1)
   clear hb1 c0 c1 c2 c3 c4 c5 c6 c7
   go_wp2_with fail
   go_ret
   exact ⟨by rw [HEE.out]; rfl, HB1.out⟩
 | true =>
   have HN := Hd (fun w => name_ok ⟨⟨m.nm⟩⟩ w hn)
   have he1 : methErr m l = if mtyErr m.ty ≠ 0 then 1 else if l.any (fun x => x.nm == m.nm && x.ty == m.ty) then 5 else if m.loc < 0 ∨ 8 < m.loc then 2 else bodyErr m := by
     unfold methErr; rw [if_neg (by rw [hn]; simp)]
   have HE1 := Hd (show errOf (if mtyErr m.ty ≠ 0 then 1 else if l.any (fun x => x.nm == m.nm && x.ty == m.ty) then 5 else if m.loc < 0 ∨ 8 < m.loc then 2 else bodyErr m) = E by rw [← he1]; exact HE.out)
   clear hn he1 HE
   go_enter Tryz.func146, Tryz.ntmps146
   obtain ⟨hg, c0, c1, c2, c3, c4, c5, c6, c7⟩ := HX.out
   clear c2 c3 c4 c5 c6 c7
   go_wp2_with fail
   refine (HN.out _).mono ?_
   rintro e w1 ⟨rfl, hb1⟩
   have HB1 := Hd (new_below hb1)
   have HX1 := Hd (HX.out.below hb1)
   clear hb1 c0 c1 hg HX
   obtain ⟨hg, c0, c1, c2, c3, c4, c5, c6, c7⟩ := HX1.out
   clear c2 c3 c4 c5 c6 c7
   go_wp2_with fail
   refine (HMT.out _).mono ?_
   rintro e w2 ⟨ra, rn, rcap, rg, rfl, hb2, _, _⟩
   have HB2 := Hd (bl_trans HB1.out hb2)
   have HX2 := Hd (HX1.out.below hb2)
   clear hb2 c0 c1 hg HX1 HB1
   by_cases he : mtyErr m.ty = 0
   case neg =>
     have h1 : mtyErr m.ty = 1 := by unfold mtyErr at he ⊢; split at he <;> simp_all
     have HEE := Hd (show E = errV 1 by rw [← HE1.out, if_pos he]; rfl)
     rw [h1, errOf_one]
     clear he h1
     go_wp2_with fail
     go_ret
     exact ⟨by rw [HEE.out]; rfl, HB2.out⟩
   case pos =>
     have HE2 := Hd HE1.out
     rw [if_neg (by simp [he])] at HE2
     rw [he, errOf_zero]
     clear he HE1
     obtain ⟨hg, c0, c1, c2, c3, c4, c5, c6, c7⟩ := HX2.out
     have HCT := Hd (containsMeth l a cap ps w2 #[.pointer (some ⟨w.heap.size, 0, none⟩)] (fun x => x.nm == m.nm && x.ty == m.ty) (HL.out.below HB2.out) hll (fun k x q _ _ => sameMeth x m q w.heap.size w2 hg c0 c1))
     cases hany : l.any (fun x => x.nm == m.nm && x.ty == m.ty) with
     | true =>
       have HEE := Hd (show E = errV 5 by rw [← HE2.out, if_pos hany]; rfl)
       rw [hany] at HCT
       clear hany c0 c1 c2 c3 c4 c5 c6 c7
       go_wp2_with fail
       refine HCT.out.mono ?_
       rintro e w3 ⟨rfl, hb3⟩
       have HB3 := Hd (bl_trans HB2.out hb3)
       clear hb3
       go_wp2_with fail
       go_ret
       exact ⟨by rw [HEE.out]; rfl, HB3.out⟩
     | false =>
       have HE3 := Hd HE2.out
       rw [if_neg (by rw [hany]; simp)] at HE3
       rw [hany] at HCT
       clear hany c0 c1 c2 c3 c4 c5 c6 c7 HE2
       go_wp2_with fail
       refine HCT.out.mono ?_
       rintro e w3 ⟨rfl, hb3⟩
       have HB3 := Hd (bl_trans HB2.out hb3)
       have HX3 := Hd (HX2.out.below hb3)
       clear hb3 hg HX2 HB2 HCT
       obtain ⟨hg, c0, c1, c2, c3, c4, c5, c6, c7⟩ := HX3.out
       by_cases hlo : m.loc < 0 ∨ 8 < m.loc
       · have HEE := Hd (show E = errV 2 by rw [← HE3.out, if_pos hlo]; rfl)
         have hway : m.loc < 0 ∨ (¬ m.loc < 0 ∧ 8 < m.loc) := by omega
         clear hlo c0 c1 c2 c3 c4 c6 c7
         rcases hway with h1 | ⟨h1, h2⟩
         all_goals
           go_wp2_with fail
           go_ret
           exact ⟨by rw [HEE.out]; rfl, HB3.out⟩
       · have HEE := Hd (show E = errOf (bodyErr m) by rw [← HE3.out, if_neg hlo])
         have h1 : ¬ m.loc < 0 := by omega
         have h2 : ¬ 8 < m.loc := by omega
         clear hlo
         go_wp2_with fail
         refine (HBD.out _ (HM.out.below HB3.out) (HF.out.below HB3.out)).mono ?_
         rintro e w4 ⟨rfl, hb4⟩
         have HB4 := Hd (bl_trans HB3.out hb4)
         clear hb4
         go_wp2_with fail
         go_ret
         exact ⟨by rw [HEE.out]; rfl, HB4.out⟩
end Go.Proofs.YtddbnboicmaooaaGreatDoor
