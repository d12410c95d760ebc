import Derived.Test.YtbnkckjdgpiggaaGreatDoorFc
namespace Go.Proofs.YtbnkckjdgpiggaaGreatDoor
set_option maxRecDepth 100000
set_option maxHeartbeats 16000000
set_option linter.unusedVariables false
set_option linter.unusedSimpArgs false
open Go.RowKit
def zhd (x : za1) : List Value := [.string ⟨⟨x.nm⟩⟩, .string ⟨⟨x.ty⟩⟩]
def zi2 (h : zdd) : List Value := [.int .i64 h.lo, .int .i64 h.hi, .int .i64 h.at_, .string ⟨⟨h.cl⟩⟩]
def zb2 (w : World) (a : Option Addr) (cap : Nat) (l : List za1) : Prop := za6 w 2 a cap (l.map zhd)
def zjt (w : World) (a : Option Addr) (cap : Nat) (l : List zdd) : Prop := za6 w 4 a cap (l.map zi2)
theorem zb2.below {w w' : World} {a : Option Addr} {cap : Nat} {l : List za1} (h : zb2 w a cap l) (hb : Below w.heap.size w w') : zb2 w' a cap l := za6.below h hb
theorem zjt.below {w w' : World} {a : Option Addr} {cap : Nat} {l : List zdd} (h : zjt w a cap l) (hb : Below w.heap.size w w') : zjt w' a cap l := za6.below h hb
theorem zb2.cells {w : World} {a : Option Addr} {cap : Nat} {l : List za1} (h : zb2 w a cap l) {k : Nat} {x : za1} (hx : l[k]? = some x) : ∃ b off, a = some ⟨b, off, none⟩ /\ b < w.heap.size /\
   w.cell? ⟨b, off + k * 2, none⟩ = some (.string ⟨⟨x.nm⟩⟩) /\ w.cell? ⟨b, off + k * 2 + 1, none⟩ = some (.string ⟨⟨x.ty⟩⟩) := by
 obtain ⟨_, h2 | ⟨b, off, rfl, hlt, hc⟩⟩ := h
 . have : l = [] := by simpa using h2
   subst this; simp at hx
 . have hk : (l.map zhd)[k]? = some (zhd x) := by rw [List.getElem?_map, hx]; rfl
   have hh := hc k _ hk
   exact ⟨b, off, rfl, hlt, hh 0 _ rfl, hh 1 _ rfl⟩
theorem zjt.cells {w : World} {a : Option Addr} {cap : Nat} {l : List zdd} (h : zjt w a cap l) {k : Nat} {x : zdd} (hx : l[k]? = some x) : ∃ b off, a = some ⟨b, off, none⟩ /\ b < w.heap.size /\
   w.cell? ⟨b, off + k * 4, none⟩ = some (.int .i64 x.lo) /\ w.cell? ⟨b, off + k * 4 + 1, none⟩ = some (.int .i64 x.hi) /\ w.cell? ⟨b, off + k * 4 + 2, none⟩ = some (.int .i64 x.at_) /\
   w.cell? ⟨b, off + k * 4 + 3, none⟩ = some (.string ⟨⟨x.cl⟩⟩) := by
 obtain ⟨_, h2 | ⟨b, off, rfl, hlt, hc⟩⟩ := h
 . have : l = [] := by simpa using h2
   subst this; simp at hx
 . have hk : (l.map zi2)[k]? = some (zi2 x) := by rw [List.getElem?_map, hx]; rfl
   have hh := hc k _ hk
   exact ⟨b, off, rfl, hlt, hh 0 _ rfl, hh 1 _ rfl, hh 2 _ rfl, hh 3 _ rfl⟩
theorem zbr {w : World} {a : Option Addr} {cap : Nat} {l : List (List UInt8)} (h : zdl w a cap l) {k : Nat} {x : List UInt8} (hx : l[k]? = some x) : ∃ b off, a = some ⟨b, off, none⟩ /\ b < w.heap.size /\
   w.cell? ⟨b, off + k, none⟩ = some (.string ⟨⟨x⟩⟩) := by
 obtain ⟨_, rfl | ⟨b, off, rfl, hlt, hc⟩⟩ := h
 . simp at hx
 . exact ⟨b, off, rfl, hlt, hc k x hx⟩
structure zaf where
 ca : Option Addr
 cc : Nat
 ha : Option Addr
 hc : Nat
def zfj (m : zo) (p : zaf) : List Value := [.string ⟨⟨m.nm⟩⟩, .string ⟨⟨m.ty⟩⟩, .bool m.stat, .bool m.abst, .bool m.priv, .int .i64 m.loc, .slice p.ca m.code.length p.cc, .slice p.ha m.hs.length p.hc]
def zca (m : zo) (p : zaf) : Value := .agg #[.string ⟨⟨m.nm⟩⟩, .string ⟨⟨m.ty⟩⟩, .bool m.stat, .bool m.abst, .bool m.priv, .int .i64 m.loc, .slice p.ca m.code.length p.cc, .slice p.ha m.hs.length p.hc]
def zer (w : World) (m : zo) (p : zaf) : Prop := zcy w p.ca p.cc m.code /\ zjt w p.ha p.hc m.hs
theorem zer.below {w w' : World} {m : zo} {p : zaf} (h : zer w m p) (hb : Below w.heap.size w w') : zer w' m p := ⟨h.1.below hb, h.2.below hb⟩
def zct (w : World) (a : Option Addr) (cap : Nat) (l : List zo) (ps : List zaf) : Prop :=
 ps.length = l.length /\ za6 w 8 a cap (List.zipWith zfj l ps) /\ ∀ (k : Nat) (m : zo) (p : zaf), l[k]? = some m -> ps[k]? = some p -> zer w m p
theorem zct.below {w w' : World} {a : Option Addr} {cap : Nat} {l : List zo} {ps : List zaf} (h : zct w a cap l ps) (hb : Below w.heap.size w w') : zct w' a cap l ps :=
 ⟨h.1, h.2.1.below hb, fun k m p hm hp => (h.2.2 k m p hm hp).below hb⟩
theorem zct.cells {w : World} {a : Option Addr} {cap : Nat} {l : List zo} {ps : List zaf} (h : zct w a cap l ps) {k : Nat} {m : zo} (hx : l[k]? = some m) : ∃ (b : Nat) (off : Nat) (p : zaf), a = some ⟨b, off, none⟩ /\ b < w.heap.size /\ ps[k]? = some p /\ zer w m p /\
   w.cell? ⟨b, off + k * 8, none⟩ = some (.string ⟨⟨m.nm⟩⟩) /\ w.cell? ⟨b, off + k * 8 + 1, none⟩ = some (.string ⟨⟨m.ty⟩⟩) /\ w.cell? ⟨b, off + k * 8 + 2, none⟩ = some (.bool m.stat) /\ w.cell? ⟨b, off + k * 8 + 3, none⟩ = some (.bool m.abst) /\
   w.cell? ⟨b, off + k * 8 + 4, none⟩ = some (.bool m.priv) /\ w.cell? ⟨b, off + k * 8 + 5, none⟩ = some (.int .i64 m.loc) /\ w.cell? ⟨b, off + k * 8 + 6, none⟩ = some (.slice p.ca m.code.length p.cc) /\ w.cell? ⟨b, off + k * 8 + 7, none⟩ = some (.slice p.ha m.hs.length p.hc) := by
 obtain ⟨hl, hr, hm⟩ := h
 obtain ⟨hk, hx'⟩ := List.getElem?_eq_some_iff.1 hx
 have hkp : k < ps.length := by omega
 obtain ⟨p, hp⟩ : ∃ p, ps[k]? = some p := ⟨_, List.getElem?_eq_getElem hkp⟩
 have hz : (List.zipWith zfj l ps)[k]? = some (zfj m p) := by
   rw [List.getElem?_zipWith, hx, hp]
 obtain ⟨_, h2 | ⟨b, off, rfl, hlt, hc⟩⟩ := hr
 . rw [h2] at hz; simp at hz
 . have hh := hc k _ hz
   exact ⟨b, off, p, rfl, hlt, hp, hm k m p hx hp, hh 0 _ rfl, hh 1 _ rfl, hh 2 _ rfl, hh 3 _ rfl, hh 4 _ rfl, hh 5 _ rfl, hh 6 _ rfl, hh 7 _ rfl⟩
def z4t (W : World) (g : Nat) (m : zo) (p : zaf) : Prop :=
 g < W.heap.size /\ W.cell? ⟨g, 0, none⟩ = some (.string ⟨⟨m.nm⟩⟩) /\ W.cell? ⟨g, 1, none⟩ = some (.string ⟨⟨m.ty⟩⟩) /\ W.cell? ⟨g, 2, none⟩ = some (.bool m.stat) /\ W.cell? ⟨g, 3, none⟩ = some (.bool m.abst) /\
   W.cell? ⟨g, 4, none⟩ = some (.bool m.priv) /\ W.cell? ⟨g, 5, none⟩ = some (.int .i64 m.loc) /\ W.cell? ⟨g, 6, none⟩ = some (.slice p.ca m.code.length p.cc) /\ W.cell? ⟨g, 7, none⟩ = some (.slice p.ha m.hs.length p.hc)
theorem z4t.below {W W' : World} {g : Nat} {m : zo} {p : zaf} (h : z4t W g m p) (hb : Below W.heap.size W W') : z4t W' g m p := by
 obtain ⟨h0, h1, h2, h3, h4, h5, h6, h7, h8⟩ := h
 refine ⟨Nat.lt_of_lt_of_le h0 hb.size, ?_, ?_, ?_, ?_, ?_, ?_, ?_, ?_⟩ <;> (rw [hb.cell (p := ⟨g, _, none⟩) h0]; assumption)
theorem zga (w : World) (m : zo) (p : zaf) : z4t (w.alloc (.cells #[.string ⟨⟨m.nm⟩⟩, .string ⟨⟨m.ty⟩⟩, .bool m.stat, .bool m.abst, .bool m.priv, .int .i64 m.loc, .slice p.ca m.code.length p.cc, .slice p.ha m.hs.length p.hc] 45)) w.heap.size m p := by
 refine ⟨by simp, ?_, ?_, ?_, ?_, ?_, ?_, ?_, ?_⟩ <;> rw [World.cell?_alloc_new] <;> rfl
structure zbf where
 fa : Option Addr
 fc : Nat
 ga : Option Addr
 gc : Nat
 ma : Option Addr
 mc : Nat
 ps : List zaf
def zb7 (c : zd) (p : zbf) : List Value := [.string ⟨⟨c.nm⟩⟩, .string ⟨⟨c.sup⟩⟩, .slice p.fa c.faces.length p.fc, .bool c.face, .slice p.ga c.fields.length p.gc, .slice p.ma c.meths.length p.mc]
def zbl (c : zd) (p : zbf) : Value := .agg #[.string ⟨⟨c.nm⟩⟩, .string ⟨⟨c.sup⟩⟩, .slice p.fa c.faces.length p.fc, .bool c.face, .slice p.ga c.fields.length p.gc, .slice p.ma c.meths.length p.mc]
def zf3 (w : World) (c : zd) (p : zbf) : Prop := zdl w p.fa p.fc c.faces /\ zb2 w p.ga p.gc c.fields /\ zct w p.ma p.mc c.meths p.ps
theorem zf3.below {w w' : World} {c : zd} {p : zbf} (h : zf3 w c p) (hb : Below w.heap.size w w') : zf3 w' c p := ⟨h.1.below hb, h.2.1.below hb, h.2.2.below hb⟩
def z7o (W : World) (g : Nat) (c : zd) (p : zbf) : Prop :=
 g < W.heap.size /\ W.cell? ⟨g, 0, none⟩ = some (.string ⟨⟨c.nm⟩⟩) /\ W.cell? ⟨g, 1, none⟩ = some (.string ⟨⟨c.sup⟩⟩) /\ W.cell? ⟨g, 2, none⟩ = some (.slice p.fa c.faces.length p.fc) /\ W.cell? ⟨g, 3, none⟩ = some (.bool c.face) /\
   W.cell? ⟨g, 4, none⟩ = some (.slice p.ga c.fields.length p.gc) /\ W.cell? ⟨g, 5, none⟩ = some (.slice p.ma c.meths.length p.mc)
theorem z7o.below {W W' : World} {g : Nat} {c : zd} {p : zbf} (h : z7o W g c p) (hb : Below W.heap.size W W') : z7o W' g c p := by
 obtain ⟨h0, h1, h2, h3, h4, h5, h6⟩ := h
 refine ⟨Nat.lt_of_lt_of_le h0 hb.size, ?_, ?_, ?_, ?_, ?_, ?_⟩ <;> (rw [hb.cell (p := ⟨g, _, none⟩) h0]; assumption)
theorem zpk (w : World) (c : zd) (p : zbf) : z7o (w.alloc (.cells #[.string ⟨⟨c.nm⟩⟩, .string ⟨⟨c.sup⟩⟩, .slice p.fa c.faces.length p.fc, .bool c.face, .slice p.ga c.fields.length p.gc, .slice p.ma c.meths.length p.mc] 50)) w.heap.size c p := by
 refine ⟨by simp, ?_, ?_, ?_, ?_, ?_, ?_⟩ <;> rw [World.cell?_alloc_new] <;> rfl
open Go.Shelf Go.Lib
theorem zwd (l : List UInt8) (w : World) : Calls Tryz.prog 64 #[.string ⟨⟨l⟩⟩] w fun e w' => e = .returned (zaj (if zr l then 0 else 1)) /\ Below w.heap.size w w' := by
 cases h : zr l
 . exact zks ⟨⟨l⟩⟩ w h
 . exact zo7 ⟨⟨l⟩⟩ w h
@[go_sem] theorem errOf_zero : zaj 0 = .nilIface := rfl
@[go_sem] theorem errOf_one : zaj 1 = zby 1 := rfl
theorem za4 {n : Int} (h : n ≠ 0) : zaj n = zby n := by unfold zaj; rw [if_neg h]
theorem zz2 (n : Int) (h : zdd) : (zsz n h = 2 /\ (h.lo < 0 \/ (0 <= h.lo /\ h.hi <= h.lo) \/ (0 <= h.lo /\ h.lo < h.hi /\ n < h.hi) \/ (0 <= h.lo /\ h.lo < h.hi /\ h.hi <= n /\ h.at_ < 0) \/ (0 <= h.lo /\ h.lo < h.hi /\ h.hi <= n /\ 0 <= h.at_ /\ n <= h.at_))) \/
   ((0 <= h.lo /\ h.lo < h.hi /\ h.hi <= n /\ 0 <= h.at_ /\ h.at_ < n) /\ zsz n h = if zr h.cl then 0 else 1) := by
 unfold zsz
 by_cases hb : h.lo < 0 \/ h.hi <= h.lo \/ n < h.hi \/ h.at_ < 0 \/ n <= h.at_
 . rw [if_pos hb]
   left
   exact ⟨rfl, by omega⟩
 . rw [if_neg hb]
   right
   refine ⟨by omega, ?_⟩
   cases zr h.cl <;> simp
def zxf (n : Int) (hs : List zdd) (j : Nat) : Int := (hs[j]?).elim 0 (zsz n)
theorem z6d {n : Int} {hs : List zdd} {j : Nat} {h : zdd} (hj : hs[j]? = some h) : zxf n hs j = zsz n h := by unfold zxf; rw [hj]; rfl
theorem znk {n : Int} {hs : List zdd} {k : Nat} (h0 : ∀ j, j < k -> zxf n hs j = 0) (hk : zxf n hs k ≠ 0) (hl : k < hs.length) : zd1 n hs = zxf n hs k := by
 have := zb8 h0 hk _ hl
 unfold zd1
 show (if zw (zxf n hs) hs.length ≠ 0 then zw (zxf n hs) hs.length else _) = _
 rw [this, if_pos hk]
theorem zrv {n : Int} {hs : List zdd} (h0 : ∀ j, j < hs.length -> zxf n hs j = 0) : zd1 n hs = if 8 < hs.length then 4 else 0 := by
 have := (zx (zxf n hs) hs.length).2 h0
 unfold zd1
 show (if zw (zxf n hs) hs.length ≠ 0 then zw (zxf n hs) hs.length else _) = _
 rw [this, if_neg (by simp)]
theorem zb6 {f : Nat -> Int} {k : Nat} (h : ∀ j, j < k -> f j = 0) (hk : f k = 0) : ∀ j, j < k + 1 -> f j = 0 := by
 intro j hj
 by_cases e : j = k
 . rw [e]; exact hk
 . exact h j (by omega)
theorem znc (m : zo) (p : zaf) (w : World) (hM : zer w m p) (hcl : m.code.length <= 100000000) (hhl : m.hs.length <= 100000000) :
   Calls Tryz.prog 185 #[zca m p] w fun e w' => e = .returned (zaj (zd1 m.code.length m.hs)) /\ Below w.heap.size w w' := by
 generalize hE : zaj (zd1 m.code.length m.hs) = E
 have HE := Hq hE
 have HM := Hq hM
 have HX := Hq (zga w m p)
 clear hE hM
 unfold zca
 go_enter Tryz.func185, Tryz.ntmps185
 obtain ⟨hg, c0, c1, c2, c3, c4, c5, c6, c7⟩ := HX.out
 go_wp2_with fail
 clear hg c0 c1 c2 c3 c4 c5 c6 c7
 go_loopw [8] (fun i wr => ∃ k : Nat, k <= m.hs.length /\ i = .int .i64 k /\ Below w.heap.size w wr /\ z4t wr w.heap.size m p /\ Hid (∀ j, j < k -> zxf m.code.length m.hs j = 0)) (fun i _ => m.hs.length - (RowKit.intOf i).toNat)
 case atStart => exact ⟨0, by omega, rfl, (Below.refl _ _).alloc (Nat.le_refl _) _, HX.out, Hq (by omega)⟩
 case round =>
   obtain ⟨k, hk, rfl, hb, hbx, HZ⟩ := hrel
   have HB := Hq hb
   have HBX := Hq hbx
   obtain ⟨hg, c0, c1, c2, c3, c4, c5, c6, c7⟩ := hbx
   have hcw := HM.out.2.below hb
   have hsz := hb.size
   clear hb
   by_cases hlk : k < m.hs.length
   . obtain ⟨x, hx⟩ : ∃ x, m.hs[k]? = some x := ⟨_, List.getElem?_eq_getElem hlk⟩
     obtain ⟨b, off, hpa, hlt, d0, d1, d2, d3⟩ := hcw.cells hx
     have HXE := Hq (z6d (n := m.code.length) hx)
     rw [hpa] at *
     clear hcw hx c0 c1 c2 c3 c4 c5
     rcases zz2 m.code.length x with ⟨h2, hway⟩ | ⟨hgood, h2⟩
     . have HEE := Hq (show E = zby 2 by
         rw [<- HE.out, znk HZ.out (by rw [HXE.out, h2]; omega) hlk, HXE.out, h2]; rfl)
       clear h2
       rcases hway with h | ⟨h1, h⟩ | ⟨h1, h3, h⟩ | ⟨h1, h3, h4, h⟩ | ⟨h1, h3, h4, h5, h⟩
       all_goals
         go_wp2_with fail
         go_ret
         exact ⟨by rw [HEE.out]; rfl, HB.out.alloc hsz _⟩
     . obtain ⟨h1, h3, h4, h5, h6⟩ := hgood
       have HN := Hq (fun w => zwd x.cl w)
       have H2 := Hq h2
       clear h2
       cases hn : zr x.cl with
       | true =>
         rw [hn] at HN H2
         simp only [if_true, if_false, Bool.false_eq_true, errOf_zero, errOf_one] at HN
         have HZ2 := Hq (zb6 HZ.out (by rw [HXE.out, H2.out]; rfl))
         clear hn
         go_wp2_with fail
         refine (HN.out _).mono ?_
         rintro e w2 ⟨rfl, hb2⟩
         have HB2 := Hq (zc HB.out (zq hb2))
         have HBX2 := Hq (HBX.out.below (zq hb2))
         clear hb2
         go_wp2_with fail
         go_roundw
         case rel => exact ⟨k + 1, by omega, by go_num, HB2.out, HBX2.out, HZ2⟩
         case measure => simp [RowKit.intOf]; omega
       | false =>
         rw [hn] at HN H2
         simp only [if_true, if_false, Bool.false_eq_true, errOf_zero, errOf_one] at HN
         have HEE := Hq (show E = zby 1 by
           rw [<- HE.out, znk HZ.out (by rw [HXE.out, H2.out]; simp) hlk, HXE.out, H2.out]; rfl)
         clear hn
         go_wp2_with fail
         refine (HN.out _).mono ?_
         rintro e w2 ⟨rfl, hb2⟩
         have HB2 := Hq (zc HB.out (zq hb2))
         clear hb2
         go_wp2_with fail
         go_ret
         exact ⟨by rw [HEE.out]; rfl, HB2.out⟩
   . obtain rfl : k = m.hs.length := by omega
     have hz := zrv HZ.out
     clear hcw c0 c1 c2 c3 c4 c5
     by_cases h8 : 8 < m.hs.length
     . rw [if_pos h8] at hz
       have HEE := Hq (show E = zby 4 by rw [<- HE.out, hz]; rfl)
       clear hz
       go_wp2_with fail
       go_ret
       exact ⟨by rw [HEE.out]; rfl, HB.out⟩
     . rw [if_neg h8] at hz
       have HEE := Hq (show E = .nilIface by rw [<- HE.out, hz]; rfl)
       clear hz
       go_wp2_with fail
       go_ret
       exact ⟨by rw [HEE.out]; rfl, HB.out⟩
theorem zrh (t : List UInt8) (ht : t.length <= 8388608) (w : World) : Calls Tryz.prog 15 #[.string ⟨⟨t⟩⟩] w fun e w' => ∃ a n cap g, e = .returned (.tuple #[.slice a n cap, .string ⟨⟨g⟩⟩, zaj (zda t)]) /\ Below w.heap.size w w' /\ (zda t = 0 -> (n : Int) = zx1 t) /\ n <= 5 := by
 refine (zat t ht w).mono ?_
 rintro e w' ⟨hb, ⟨rfl, hn⟩ | ⟨v, A, g, rfl, hm, ho⟩⟩
 . have h0 : zda t = 1 := by unfold zda; rw [if_neg (by rintro ⟨A, g, h⟩; exact hn A g h)]
   exact ⟨none, 0, 0, [], by rw [h0]; rfl, hb, by rw [h0]; omega, by omega⟩
 . have h0 : zda t = 0 := by unfold zda; rw [if_pos ⟨A, g, hm⟩]
   obtain ⟨a, cap, rfl, _⟩ := zy ho
   exact ⟨a, A.length, cap, g, by rw [h0]; rfl, hb, fun _ => (zo0 hm).symm, hm.2.2.1⟩
theorem zvu (m : zo) (p : zaf) (w : World) (ht : m.ty.length <= 8388608) :
   Calls Tryz.prog 184 #[zca m p] w fun e w' => e = .returned (.int .i64 (zgg m)) /\ Below w.heap.size w w' := by
 have HX := Hq (zga w m p)
 have HT := Hq (fun w => zrh m.ty ht w)
 generalize hR : zgg m = R
 have HR := Hq hR
 clear hR
 unfold zca
 go_enter Tryz.func184, Tryz.ntmps184
 obtain ⟨hg, c0, c1, c2, c3, c4, c5, c6, c7⟩ := HX.out
 go_wp2_with fail
 clear hg c0 c1 c2 c3 c4 c5 c6 c7
 refine (HT.out _).mono ?_
 rintro e w1 ⟨a, n, cap, g, rfl, hb1, hn, hn5⟩
 have HN := Hq hn
 have HB1 := Hq (zq hb1)
 obtain ⟨hg, c0, c1, c2, c3, c4, c5, c6, c7⟩ := HX.out.below hb1
 clear hb1 hn c0 c1 c3 c4 c5 c6 c7
 by_cases he : zda m.ty = 0
 . have hr : R = if m.stat then (n : Int) else (n : Int) + 1 := by
     rw [<- HR.out]
     unfold zgg
     rw [if_neg (by simp [he]), HN.out he]
   have HRR := Hq hr
   rw [he, errOf_zero]
   clear he hr
   cases hs : m.stat with
   | true =>
     rw [hs] at HRR c2
     go_wp2_with fail
     go_ret
     exact ⟨by rw [HRR.out]; rfl, HB1.out⟩
   | false =>
     rw [hs] at HRR c2
     go_wp2_with fail
     go_ret
     exact ⟨by rw [HRR.out]; rfl, HB1.out⟩
 . have HRR := Hq (show R = 0 by rw [<- HR.out]; unfold zgg; rw [if_pos he])
   rw [za4 he]
   generalize zda m.ty = q at *
   have HQ := Hq he
   clear he c2
   go_wp2_with fail
   go_ret
   exact ⟨by rw [HRR.out]; rfl, HB1.out⟩
def zna (g : Nat) (lb : Array Value) (v : Value) (r : Bool) (w : World) : Prop :=
 ∀ W : World, Below w.heap.size w W -> Calls Tryz.prog g (#[v] ++ lb) W fun e w' => e = .returned (.bool r) /\ Below w.heap.size w w'
theorem zpa {α : Type} {l : List α} {k : Nat} {x : α} {q : α -> Bool} (hx : l[k]? = some x) (hq : q x = true) : l.any q = true := List.any_eq_true.2 ⟨x, List.mem_of_getElem? hx, hq⟩
theorem zkz {α : Type} {l : List α} {q : α -> Bool} (h : ∀ x ∈ l, q x = false) : l.any q = false := by
 rw [List.any_eq_false]
 intro x hx
 simp [h x hx]
def zk3 (x : za1) : Value := .agg #[.string ⟨⟨x.nm⟩⟩, .string ⟨⟨x.ty⟩⟩]
theorem zwr (l : List za1) (a : Option Addr) (cap : Nat) (w : World) (lb : Array Value) (q : za1 -> Bool) (h : zb2 w a cap l) (hl : l.length <= 1000000000) (hq : ∀ (k : Nat) (x : za1), l[k]? = some x -> zna 115 lb (zk3 x) (q x) w) :
   Calls Tryz.prog 153 #[.slice a l.length cap, .func (.func 115) #[] lb] w fun e w' => (∃ i : Int, e = .returned (.int .i64 i) /\ decide (0 <= i) = l.any q) /\ Below w.heap.size w w' := by
 have HQ := Hq hq
 have HL := Hq h
 clear hq h
 go_enter Tryz.func153, Tryz.ntmps153
 go_wp2_with fail
 go_loopw [8] (fun i wr => ∃ k : Nat, k <= l.length /\ i = .int .i64 k /\ Below w.heap.size w wr /\ Hid (∀ x ∈ l.take k, q x = false)) (fun i _ => l.length - (RowKit.intOf i).toNat)
 case atStart => exact ⟨0, by omega, rfl, Below.refl _ _, Hq (by simp)⟩
 case round =>
   obtain ⟨k, hk, rfl, hb, HZ⟩ := hrel
   have HB := Hq hb
   by_cases hlk : k < l.length
   . obtain ⟨x, hx⟩ : ∃ x, l[k]? = some x := ⟨_, List.getElem?_eq_getElem hlk⟩
     obtain ⟨b, off, rfl, hlt, c0, c1⟩ := (HL.out.below hb).cells hx
     have HP := Hq (HQ.out k x hx wr hb)
     have HX := Hq hx
     unfold zk3 at HP
     clear hx hb
     cases hr : q x with
     | true =>
       rw [hr] at HP
       have HA := Hq (zpa HX.out hr)
       clear hr
       go_wp2_with fail
       refine HP.out.mono ?_
       rintro e w2 ⟨rfl, hb2⟩
       have HB2 := Hq hb2
       clear hb2
       go_wp2_with fail
       go_ret
       exact ⟨⟨k, rfl, by rw [HA.out]; simp⟩, HB2.out⟩
     | false =>
       rw [hr] at HP
       have HZ2 := Hq (za8 HZ.out HX.out hr)
       clear hr
       go_wp2_with fail
       refine HP.out.mono ?_
       rintro e w2 ⟨rfl, hb2⟩
       have HB2 := Hq hb2
       clear hb2
       go_wp2_with fail
       go_roundw
       case rel => exact ⟨k + 1, by omega, by go_num, HB2.out, HZ2⟩
       case measure => simp [RowKit.intOf]; omega
   . obtain rfl : k = l.length := by omega
     have HA := Hq (zkz (by have := HZ.out; rwa [List.take_length] at this))
     go_wp2_with fail
     go_ret
     exact ⟨⟨-1, rfl, by rw [HA.out]; rfl⟩, HB.out⟩
theorem zoj (l : List za1) (a : Option Addr) (cap : Nat) (w : World) (lb : Array Value) (q : za1 -> Bool) (h : zb2 w a cap l) (hl : l.length <= 1000000000) (hq : ∀ (k : Nat) (x : za1), l[k]? = some x -> zna 115 lb (zk3 x) (q x) w) :
   Calls Tryz.prog 114 #[.slice a l.length cap, .func (.func 115) #[] lb] w fun e w' => e = .returned (.bool (l.any q)) /\ Below w.heap.size w w' := by
 have HI := Hq (zwr l a cap w lb q h hl hq)
 clear hq h
 go_enter Tryz.func114, Tryz.ntmps114
 go_wp2_with fail
 refine HI.out.mono ?_
 rintro e w2 ⟨⟨i, rfl, hi⟩, hb2⟩
 have H1 := Hq hi
 have HB2 := Hq hb2
 clear hi hb2
 go_wp2_with fail
 go_ret
 exact ⟨zaa H1.out, HB2.out⟩
theorem zy2 (l : List zo) (a : Option Addr) (cap : Nat) (ps : List zaf) (w : World) (lb : Array Value) (q : zo -> Bool) (h : zct w a cap l ps) (hl : l.length <= 1000000000) (hq : ∀ (k : Nat) (x : zo) (p : zaf), l[k]? = some x -> ps[k]? = some p -> zna 155 lb (zca x p) (q x) w) :
   Calls Tryz.prog 23 #[.slice a l.length cap, .func (.func 155) #[] lb] w fun e w' => (∃ i : Int, e = .returned (.int .i64 i) /\ decide (0 <= i) = l.any q) /\ Below w.heap.size w w' := by
 have HQ := Hq hq
 have HL := Hq h
 clear hq h
 go_enter Tryz.func23, Tryz.ntmps23
 go_wp2_with fail
 go_loopw [8] (fun i wr => ∃ k : Nat, k <= l.length /\ i = .int .i64 k /\ Below w.heap.size w wr /\ Hid (∀ x ∈ l.take k, q x = false)) (fun i _ => l.length - (RowKit.intOf i).toNat)
 case atStart => exact ⟨0, by omega, rfl, Below.refl _ _, Hq (by simp)⟩
 case round =>
   obtain ⟨k, hk, rfl, hb, HZ⟩ := hrel
   have HB := Hq hb
   by_cases hlk : k < l.length
   . obtain ⟨x, hx⟩ : ∃ x, l[k]? = some x := ⟨_, List.getElem?_eq_getElem hlk⟩
     obtain ⟨b, off, p, rfl, hlt, hpp, _, c0, c1, c2, c3, c4, c5, c6, c7⟩ := (HL.out.below hb).cells hx
     have HP := Hq (HQ.out k x p hx hpp wr hb)
     have HX := Hq hx
     unfold zca at HP
     clear hx hb
     cases hr : q x with
     | true =>
       rw [hr] at HP
       have HA := Hq (zpa HX.out hr)
       clear hr
       go_wp2_with fail
       refine HP.out.mono ?_
       rintro e w2 ⟨rfl, hb2⟩
       have HB2 := Hq hb2
       clear hb2
       go_wp2_with fail
       go_ret
       exact ⟨⟨k, rfl, by rw [HA.out]; simp⟩, HB2.out⟩
     | false =>
       rw [hr] at HP
       have HZ2 := Hq (za8 HZ.out HX.out hr)
       clear hr
       go_wp2_with fail
       refine HP.out.mono ?_
       rintro e w2 ⟨rfl, hb2⟩
       have HB2 := Hq hb2
       clear hb2
       go_wp2_with fail
       go_roundw
       case rel => exact ⟨k + 1, by omega, by go_num, HB2.out, HZ2⟩
       case measure => simp [RowKit.intOf]; omega
   . obtain rfl : k = l.length := by omega
     have HA := Hq (zkz (by have := HZ.out; rwa [List.take_length] at this))
     go_wp2_with fail
     go_ret
     exact ⟨⟨-1, rfl, by rw [HA.out]; rfl⟩, HB.out⟩
theorem zqk (l : List zo) (a : Option Addr) (cap : Nat) (ps : List zaf) (w : World) (lb : Array Value) (q : zo -> Bool) (h : zct w a cap l ps) (hl : l.length <= 1000000000) (hq : ∀ (k : Nat) (x : zo) (p : zaf), l[k]? = some x -> ps[k]? = some p -> zna 155 lb (zca x p) (q x) w) :
   Calls Tryz.prog 154 #[.slice a l.length cap, .func (.func 155) #[] lb] w fun e w' => e = .returned (.bool (l.any q)) /\ Below w.heap.size w w' := by
 have HI := Hq (zy2 l a cap ps w lb q h hl hq)
 clear hq h
 go_enter Tryz.func154, Tryz.ntmps154
 go_wp2_with fail
 refine HI.out.mono ?_
 rintro e w2 ⟨⟨i, rfl, hi⟩, hb2⟩
 have H1 := Hq hi
 have HB2 := Hq hb2
 clear hi hb2
 go_wp2_with fail
 go_ret
 exact ⟨zaa H1.out, HB2.out⟩
theorem zzw (x y : za1) (g : Nat) (w : World) (hg : g < w.heap.size) (hc : w.cell? ⟨g, 0, none⟩ = some (.string ⟨⟨y.nm⟩⟩)) : zna 115 #[.pointer (some ⟨g, 0, none⟩)] (zk3 x) (x.nm == y.nm) w := by
 intro W hb
 have hc2 : W.cell? ⟨g, 0, none⟩ = some (.string ⟨⟨y.nm⟩⟩) := by rw [hb.cell (p := ⟨g, 0, none⟩) hg]; exact hc
 have hg2 : g < W.heap.size := Nat.lt_of_lt_of_le hg hb.size
 have HB := Hq hb
 clear hb hc
 unfold zk3
 show Calls Tryz.prog _ #[_, _] W _
 go_enter Tryz.func115, Tryz.ntmps115
 go_wp2_with fail
 go_ret
 exact ⟨zaa rfl, HB.out.alloc HB.out.size _⟩
theorem z2n (x m : zo) (p : zaf) (g : Nat) (w : World) (hg : g < w.heap.size) (h0 : w.cell? ⟨g, 0, none⟩ = some (.string ⟨⟨m.nm⟩⟩)) (h1 : w.cell? ⟨g, 1, none⟩ = some (.string ⟨⟨m.ty⟩⟩)) :
   zna 155 #[.pointer (some ⟨g, 0, none⟩)] (zca x p) (x.nm == m.nm && x.ty == m.ty) w := by
 intro W hb
 have hc2 : W.cell? ⟨g, 0, none⟩ = some (.string ⟨⟨m.nm⟩⟩) := by rw [hb.cell (p := ⟨g, 0, none⟩) hg]; exact h0
 have hc3 : W.cell? ⟨g, 1, none⟩ = some (.string ⟨⟨m.ty⟩⟩) := by rw [hb.cell (p := ⟨g, 1, none⟩) hg]; exact h1
 have hg2 : g < W.heap.size := Nat.lt_of_lt_of_le hg hb.size
 have HB := Hq hb
 clear hb h0 h1
 unfold zca
 show Calls Tryz.prog _ #[_, _] W _
 cases hq : x.nm == m.nm with
 | true =>
   go_enter Tryz.func155, Tryz.ntmps155
   go_wp2_with fail
   go_ret
   exact ⟨zaa (by simp), HB.out.alloc HB.out.size _⟩
 | false =>
   go_enter Tryz.func155, Tryz.ntmps155
   go_wp2_with fail
   go_ret
   exact ⟨zaa (by simp), HB.out.alloc HB.out.size _⟩
theorem zdl.take {w : World} {a : Option Addr} {cap : Nat} {A : List (List UInt8)} (h : zdl w a cap A) (k : Nat) : zdl w a cap (A.take k) := by
 obtain ⟨h1, h2⟩ := h
 refine ⟨by rw [List.length_take]; omega, ?_⟩
 rcases h2 with rfl | ⟨b, off, rfl, hlt, hc⟩
 . exact Or.inl (by simp)
 . exact Or.inr ⟨b, off, rfl, hlt, fun j x hx => hc j x (by rw [List.getElem?_take] at hx; split at hx <;> simp_all)⟩
theorem za6.take {w : World} {size : Nat} {a : Option Addr} {cap : Nat} {L : List (List Value)} (h : za6 w size a cap L) (k : Nat) : za6 w size a cap (L.take k) := by
 obtain ⟨h1, h2⟩ := h
 refine ⟨by rw [List.length_take]; omega, ?_⟩
 rcases h2 with rfl | ⟨b, off, rfl, hlt, hc⟩
 . exact Or.inl (by simp)
 . exact Or.inr ⟨b, off, rfl, hlt, fun j x hx => hc j x (by rw [List.getElem?_take] at hx; split at hx <;> simp_all)⟩
theorem zb2.take {w : World} {a : Option Addr} {cap : Nat} {l : List za1} (h : zb2 w a cap l) (k : Nat) : zb2 w a cap (l.take k) := by
 have := za6.take h k
 unfold zb2
 rw [List.map_take]
 exact this
theorem zct.take {w : World} {a : Option Addr} {cap : Nat} {l : List zo} {ps : List zaf} (h : zct w a cap l ps) (k : Nat) : zct w a cap (l.take k) (ps.take k) := by
 obtain ⟨h1, h2, h3⟩ := h
 refine ⟨by simp [h1], ?_, ?_⟩
 . have := za6.take h2 k
   rw [<- List.take_zipWith]
   exact this
 . intro j m p hm hp
   rw [List.getElem?_take] at hm hp
   split at hm
   . rename_i hj
     rw [if_pos hj] at hp
     exact h3 j m p hm hp
   . cases hm
theorem zq9 (l : List (List UInt8)) (x : List UInt8) : Lib.containsS (l.map fun t => (⟨⟨t⟩⟩ : ByteArray)) ⟨⟨x⟩⟩ = l.contains x := by
 rw [Bool.eq_iff_iff, Lib.containsS_iff, List.contains_iff_mem, List.mem_map]
 constructor
 . rintro ⟨t, ht, e⟩
   have : t = x := by simpa using e
   rw [<- this]; exact ht
 . intro h; exact ⟨x, h, rfl⟩
theorem zc9 (l : List (List UInt8)) (a : Option Addr) (n cap : Nat) (x : List UInt8) (w : World) (h : zdl w a cap l) (hn : n = l.length) (hl : l.length <= 1000000000) :
   Calls Tryz.prog 84 #[.slice a n cap, .string ⟨⟨x⟩⟩] w fun e w' => e = .returned (.bool (l.contains x)) /\ w = w' := by
 subst hn
 obtain ⟨_, rfl | ⟨b, off, rfl, hlt, hc⟩⟩ := h
 . exact (Tryz.slices_Contains_string_empty a cap ⟨⟨x⟩⟩ w).mono fun e w' ⟨h1, h2⟩ => ⟨h1, h2.symm⟩
 . refine (Tryz.slices_Contains_string b off l.length cap (l.map fun t => (⟨⟨t⟩⟩ : ByteArray)) ⟨⟨x⟩⟩ w (by simp) (by omega) (fun j hj => ?_)).mono ?_
   . rw [List.length_map] at hj
     have := hc j l[j] (List.getElem?_eq_getElem hj)
     rw [this]
     simp [List.getD, List.getElem?_eq_getElem hj, zz]
   . rintro e w' ⟨rfl, rfl⟩
     refine ⟨zaa ?_, rfl⟩
     rw [List.take_of_length_le (by simp)]
     exact zq9 l x
theorem zws (l : List zal) (a : Option Addr) (cap : Nat) (w : World) (hC : zcy w a cap l) (hF : zaw w) (hT : ∀ x ∈ l, x.ty.length <= 8388608 /\ OpK x) :
   Calls Tryz.prog 183 #[.slice a l.length cap] w fun e w' => e = .returned (zaj (zbm l)) /\ Below w.heap.size w w' := zk6 l a cap w hC hF hT
theorem zyi (m : zo) (p : zaf) (w : World) (ha : m.abst = true) :
   Calls Tryz.prog 156 #[zca m p] w fun e w' => e = .returned (zaj (zc2 m)) /\ Below w.heap.size w w' := by
 have HX := Hq (zga w m p)
 by_cases hb : m.stat || m.priv || !m.code.isEmpty || !m.hs.isEmpty
 . have he : zc2 m = 8 := by unfold zc2; rw [if_pos ha, if_pos hb]
   rw [he]
   clear he
   have hway : m.stat = true \/ (m.stat = false /\ m.priv = true) \/ (m.stat = false /\ m.priv = false /\ 0 < m.code.length) \/ (m.stat = false /\ m.priv = false /\ m.code.length = 0 /\ 0 < m.hs.length) := by
     cases h1 : m.stat
     . cases h2 : m.priv
       . cases h3 : m.code with
         | nil =>
           cases h4 : m.hs with
           | nil => simp [h1, h2, h3, h4] at hb
           | cons => simp
         | cons => simp
       . simp
     . simp
   clear hb
   rcases hway with h1 | ⟨h1, h2⟩ | ⟨h1, h2, h3⟩ | ⟨h1, h2, h3, h4⟩
   all_goals
     unfold zca
     go_enter Tryz.func156, Tryz.ntmps156
     obtain ⟨hg, c0, c1, c2, c3, c4, c5, c6, c7⟩ := HX.out
     rw [ha] at c3
     rw [h1] at c2
     try rw [h2] at c4
     go_wp2_with fail
     go_ret
     exact ⟨rfl, (Below.refl _ _).alloc (Nat.le_refl _) _⟩
 . have he : zc2 m = 0 := by unfold zc2; rw [if_pos ha, if_neg hb]
   rw [he]
   clear he
   simp only [Bool.or_eq_true, not_or, Bool.not_eq_true, Bool.not_eq_false', List.isEmpty_iff] at hb
   obtain ⟨⟨⟨h1, h2⟩, h3⟩, h4⟩ := hb
   unfold zca
   go_enter Tryz.func156, Tryz.ntmps156
   obtain ⟨hg, c0, c1, c2, c3, c4, c5, c6, c7⟩ := HX.out
   rw [ha] at c3
   rw [h1] at c2
   rw [h2] at c4
   rw [h3] at c6
   rw [h4] at c7
   simp only [List.length_nil] at c6 c7
   go_wp2_with fail
   go_ret
   exact ⟨rfl, (Below.refl _ _).alloc (Nat.le_refl _) _⟩
theorem z5s {loc : Int} {l : List zal} {k : Nat} {x : zal} (hx : l[k]? = some x) (h : zzc loc x = true) : l.any (zzc loc) = true := zpa hx h
theorem zxd (m : zo) (p : zaf) (w : World) (hM : zer w m p) (hF : zaw w) (hT : ∀ x ∈ m.code, x.ty.length <= 8388608 /\ OpK x) (ht : m.ty.length <= 8388608) (hcl : m.code.length <= 100000000) (hhl : m.hs.length <= 100000000) :
   Calls Tryz.prog 156 #[zca m p] w fun e w' => e = .returned (zaj (zc2 m)) /\ Below w.heap.size w w' := by
 cases ha : m.abst with
 | true => exact zyi m p w ha
 | false =>
   have hB : zc2 m = if zbm m.code ≠ 0 then zbm m.code else if m.loc < zgg m then 2 else if m.code.any (zzc m.loc) then 2 else zd1 m.code.length m.hs := by
     rw [zc2, ha]; simp
   rw [hB]
   generalize hE : zaj (if zbm m.code ≠ 0 then zbm m.code else if m.loc < zgg m then 2 else if m.code.any (zzc m.loc) then 2 else zd1 m.code.length m.hs) = E
   have HE := Hq hE
   have HX := Hq (zga w m p)
   have HM := Hq hM
   have HF := Hq hF
   have HFL := Hq (fun w h1 h2 => zws m.code p.ca p.cc w h1 h2 hT)
   have HAR := Hq (fun w => zvu m p w ht)
   have HHD := Hq (fun w h1 => znc m p w h1 hcl hhl)
   rw [ha] at HX
   clear hB hE hM hF hT
   unfold zca at HAR HHD
   unfold zca
   go_enter Tryz.func156, Tryz.ntmps156
   obtain ⟨hg, c0, c1, c2, c3, c4, c5, c6, c7⟩ := HX.out
   rw [ha] at c3
   clear c0 c1 c2 c4 c5 c7
   go_wp2_with fail
   refine (HFL.out _ (HM.out.1.below ((Below.refl _ _).alloc (Nat.le_refl _) _)) (HF.out.below ((Below.refl _ _).alloc (Nat.le_refl _) _))).mono ?_
   rintro e w1 ⟨rfl, hb1⟩
   have HB1 := Hq (zq hb1)
   have HX1 := Hq (HX.out.below hb1)
   have HA := Hq ha
   clear hb1 HFL HF HX hg c3 c6 ha
   by_cases hf : zbm m.code = 0
   case neg =>
     have HEE := Hq (show E = zby (zbm m.code) by rw [<- HE.out, if_pos hf]; exact za4 hf)
     rw [za4 hf]
     generalize zbm m.code = q at *
     have HQ := Hq hf
     clear hf
     go_wp2_with fail
     go_ret
     exact ⟨by rw [HEE.out]; rfl, HB1.out⟩
   case pos =>
     rw [hf] at HE
     rw [hf, errOf_zero]
     simp only [ne_eq, not_true_eq_false, if_false] at HE
     clear hf
     obtain ⟨hg, c0, c1, c2, c3, c4, c5, c6, c7⟩ := HX1.out
     have HX1d := Hq (show z4t w1.drew w.heap.size m p from HX1.out)
     go_wp2_with fail
     go_region_with (go_at_call 184; refine (HAR.out _).mono ?_; rintro e w2 ⟨rfl, hb2⟩; obtain ⟨hg', d0, d1, d2, d3, d4, d5, d6, d7⟩ := HX1d.out.below hb2; have HB2 := Hq (zc (Below.refl _ _).drew hb2); have HX2 := Hq (HX1d.out.below hb2); clear hb2)
     all_goals
       have HBT := Hq (zc HB1.out HB2.out)
       clear c0 c1 c2 c3 c4 c5 c6 c7 hg HX1 HX1d HAR
       clear d0 d1 d2 d3 d4 d7
       generalize hAG : zgg m = ag at *
       by_cases hl : m.loc < ag
       . have HEE := Hq (show E = zby 2 by rw [<- HE.out, if_pos hl]; rfl)
         go_wp2_with fail
         go_ret
         exact ⟨by rw [HEE.out]; rfl, HBT.out⟩
       . have HE2 := Hq HE.out
         rw [if_neg hl] at HE2
         clear HE hAG
         go_wp2_with fail
         clear hl
         go_loopw [42] (fun i wr => ∃ k : Nat, k <= m.code.length /\ i = .int .i64 k /\ Below w.heap.size w wr /\ z4t wr w.heap.size m p /\ Hid (∀ x ∈ m.code.take k, zzc m.loc x = false)) (fun i _ => m.code.length - (RowKit.intOf i).toNat)
         case atStart => exact ⟨0, by omega, rfl, HBT.out, HX2.out, Hq (by simp)⟩
         case round =>
           obtain ⟨k, hk, rfl, hb, hbx, HZ⟩ := hrel
           have HB := Hq hb
           have HBX := Hq hbx
           obtain ⟨hg, c0, c1, c2, c3, c4, c5, c6, c7⟩ := hbx
           have hcw := HM.out.1.below hb
           have hsz := hb.size
           clear hb HX2
           by_cases hlk : k < m.code.length
           . obtain ⟨x, hx⟩ : ∃ x, m.code[k]? = some x := ⟨_, List.getElem?_eq_getElem hlk⟩
             obtain ⟨b, off, hpa, hlt, e0, e1, e2, e3, e4, e5⟩ := hcw.cells hx
             have HX := Hq hx
             rw [hpa] at *
             clear hcw hx c0 c1 c2 c3 c4 c7
             by_cases hlb : zzc m.loc x = true
             . have HEE := Hq (show E = zby 2 by rw [<- HE2.out, if_pos (z5s HX.out hlb)]; rfl)
               have hway : (x.op = 4 /\ m.loc <= x.a) \/ (¬ x.op = 4 /\ x.op = 5 /\ m.loc <= x.a) := by
                 simp only [zzc, Bool.and_eq_true, Bool.or_eq_true, beq_iff_eq, decide_eq_true_eq] at hlb
                 omega
               clear hlb
               rcases hway with ⟨h1, h2⟩ | ⟨h0, h1, h2⟩
               all_goals
                 have h3 : (x.op == 4) = decide (x.op = 4) := rfl
                 go_wp2_with fail
                 go_ret
                 exact ⟨by rw [HEE.out]; rfl, HB.out.alloc hsz _⟩
             . have hlf : zzc m.loc x = false := by simpa using hlb
               have HZ2 := Hq (za8 HZ.out HX.out hlf)
               have hway : (¬ x.op = 4 /\ ¬ x.op = 5) \/ (x.op = 4 /\ x.a < m.loc) \/ (¬ x.op = 4 /\ x.op = 5 /\ x.a < m.loc) := by
                 simp only [zzc, Bool.and_eq_false_iff, Bool.or_eq_false_iff, beq_eq_false_iff_ne, decide_eq_false_iff_not] at hlf
                 omega
               clear hlb hlf
               rcases hway with ⟨h1, h2⟩ | ⟨h1, h2⟩ | ⟨h0, h1, h2⟩
               all_goals
                 go_wp2_with fail
                 go_roundw
                 case rel => exact ⟨k + 1, by omega, by go_num, HB.out.alloc hsz _, HBX.out.below ((Below.refl _ _).alloc (Nat.le_refl _) _), HZ2⟩
                 case measure => simp [RowKit.intOf]; omega
           . obtain rfl : k = m.code.length := by omega
             have HA2 := Hq (zkz (by have := HZ.out; rwa [List.take_length] at this))
             have HEE := Hq (show E = zaj (zd1 m.code.length m.hs) by rw [<- HE2.out, HA2.out]; rfl)
             have HMW := Hq (HM.out.below HB.out)
             clear hcw
             go_wp2_with fail
             refine (HHD.out _ HMW.out).mono ?_
             rintro e w4 ⟨rfl, hb4⟩
             have HB4 := Hq (zc HB.out hb4)
             clear hb4
             go_wp2_with fail
             go_ret
             exact ⟨by rw [HEE.out]; rfl, HB4.out⟩
theorem zst (m : zo) (p : zaf) (l : List zo) (a : Option Addr) (cap : Nat) (ps : List zaf) (w : World) (hM : zer w m p) (hL : zct w a cap l ps) (hF : zaw w) (hT : ∀ x ∈ m.code, x.ty.length <= 8388608 /\ OpK x) (ht : m.ty.length <= 8388608) (hcl : m.code.length <= 100000000) (hhl : m.hs.length <= 100000000) (hll : l.length <= 1000000000) :
   Calls Tryz.prog 116 #[zca m p, .slice a l.length cap] w fun e w' => e = .returned (zaj (zbx m l)) /\ Below w.heap.size w w' := by
 generalize hE : zaj (zbx m l) = E
 have HE := Hq hE
 have HX := Hq (zga w m p)
 have HM := Hq hM
 have HL := Hq hL
 have HF := Hq hF
 have HBD := Hq (fun w h1 h2 => zxd m p w h1 h2 hT ht hcl hhl)
 have HMT := Hq (fun w => zrh m.ty ht w)
 clear hE hM hL hF hT
 unfold zca at HBD
 unfold zca
 cases hn : zr m.nm with
 | false =>
   have HN := Hq (fun w => zks ⟨⟨m.nm⟩⟩ w hn)
   have HEE := Hq (show E = zby 1 by rw [<- HE.out]; unfold zbx; rw [if_pos hn]; rfl)
   clear hn
   go_enter Tryz.func116, Tryz.ntmps116
   obtain ⟨hg, c0, c1, c2, c3, c4, c5, c6, c7⟩ := HX.out
   go_wp2_with fail
   refine (HN.out _).mono ?_
   rintro e w1 ⟨rfl, hb1⟩
   have HB1 := Hq (zq hb1)
   clear hb1 c0 c1 c2 c3 c4 c5 c6 c7
   go_wp2_with fail
   go_ret
   exact ⟨by rw [HEE.out]; rfl, HB1.out⟩
 | true =>
   have HN := Hq (fun w => zo7 ⟨⟨m.nm⟩⟩ w hn)
   have he1 : zbx m l = if zda m.ty ≠ 0 then 1 else if l.any (fun x => x.nm == m.nm && x.ty == m.ty) then 5 else if m.loc < 0 \/ 8 < m.loc then 2 else zc2 m := by
     unfold zbx; rw [if_neg (by rw [hn]; simp)]
   have HE1 := Hq (show zaj (if zda m.ty ≠ 0 then 1 else if l.any (fun x => x.nm == m.nm && x.ty == m.ty) then 5 else if m.loc < 0 \/ 8 < m.loc then 2 else zc2 m) = E by rw [<- he1]; exact HE.out)
   clear hn he1 HE
   go_enter Tryz.func116, Tryz.ntmps116
   obtain ⟨hg, c0, c1, c2, c3, c4, c5, c6, c7⟩ := HX.out
   clear c2 c3 c4 c5 c6 c7
   go_wp2_with fail
   refine (HN.out _).mono ?_
   rintro e w1 ⟨rfl, hb1⟩
   have HB1 := Hq (zq hb1)
   have HX1 := Hq (HX.out.below hb1)
   clear hb1 c0 c1 hg HX
   obtain ⟨hg, c0, c1, c2, c3, c4, c5, c6, c7⟩ := HX1.out
   clear c2 c3 c4 c5 c6 c7
   go_wp2_with fail
   refine (HMT.out _).mono ?_
   rintro e w2 ⟨ra, rn, rcap, rg, rfl, hb2, _, _⟩
   have HB2 := Hq (zc HB1.out hb2)
   have HX2 := Hq (HX1.out.below hb2)
   clear hb2 c0 c1 hg HX1 HB1
   by_cases he : zda m.ty = 0
   case neg =>
     have h1 : zda m.ty = 1 := by unfold zda at he |-; split at he <;> simp_all
     have HEE := Hq (show E = zby 1 by rw [<- HE1.out, if_pos he]; rfl)
     rw [h1, errOf_one]
     clear he h1
     go_wp2_with fail
     go_ret
     exact ⟨by rw [HEE.out]; rfl, HB2.out⟩
   case pos =>
     have HE2 := Hq HE1.out
     rw [if_neg (by simp [he])] at HE2
     rw [he, errOf_zero]
     clear he HE1
     obtain ⟨hg, c0, c1, c2, c3, c4, c5, c6, c7⟩ := HX2.out
     have HCT := Hq (zqk l a cap ps w2 #[.pointer (some ⟨w.heap.size, 0, none⟩)] (fun x => x.nm == m.nm && x.ty == m.ty) (HL.out.below HB2.out) hll (fun k x q _ _ => z2n x m q w.heap.size w2 hg c0 c1))
     cases hany : l.any (fun x => x.nm == m.nm && x.ty == m.ty) with
     | true =>
       have HEE := Hq (show E = zby 5 by rw [<- HE2.out, if_pos hany]; rfl)
       rw [hany] at HCT
       clear hany c0 c1 c2 c3 c4 c5 c6 c7
       go_wp2_with fail
       refine HCT.out.mono ?_
       rintro e w3 ⟨rfl, hb3⟩
       have HB3 := Hq (zc HB2.out hb3)
       clear hb3
       go_wp2_with fail
       go_ret
       exact ⟨by rw [HEE.out]; rfl, HB3.out⟩
     | false =>
       have HE3 := Hq HE2.out
       rw [if_neg (by rw [hany]; simp)] at HE3
       rw [hany] at HCT
       clear hany c0 c1 c2 c3 c4 c5 c6 c7 HE2
       go_wp2_with fail
       refine HCT.out.mono ?_
       rintro e w3 ⟨rfl, hb3⟩
       have HB3 := Hq (zc HB2.out hb3)
       have HX3 := Hq (HX2.out.below hb3)
       clear hb3 hg HX2 HB2 HCT
       obtain ⟨hg, c0, c1, c2, c3, c4, c5, c6, c7⟩ := HX3.out
       by_cases hlo : m.loc < 0 \/ 8 < m.loc
       . have HEE := Hq (show E = zby 2 by rw [<- HE3.out, if_pos hlo]; rfl)
         have hway : m.loc < 0 \/ (¬ m.loc < 0 /\ 8 < m.loc) := by omega
         clear hlo c0 c1 c2 c3 c4 c6 c7
         rcases hway with h1 | ⟨h1, h2⟩
         all_goals
           go_wp2_with fail
           go_ret
           exact ⟨by rw [HEE.out]; rfl, HB3.out⟩
       . have HEE := Hq (show E = zaj (zc2 m) by rw [<- HE3.out, if_neg hlo])
         have h1 : ¬ m.loc < 0 := by omega
         have h2 : ¬ 8 < m.loc := by omega
         clear hlo
         go_wp2_with fail
         refine (HBD.out _ (HM.out.below HB3.out) (HF.out.below HB3.out)).mono ?_
         rintro e w4 ⟨rfl, hb4⟩
         have HB4 := Hq (zc HB3.out hb4)
         clear hb4
         go_wp2_with fail
         go_ret
         exact ⟨by rw [HEE.out]; rfl, HB4.out⟩
end Go.Proofs.YtbnkckjdgpiggaaGreatDoor
