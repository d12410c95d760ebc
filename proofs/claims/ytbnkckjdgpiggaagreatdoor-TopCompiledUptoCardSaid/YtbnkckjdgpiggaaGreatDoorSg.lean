import Derived.Test.YtbnkckjdgpiggaaGreatDoorSx
import Derived.Lib.AppendZerosOnto
namespace Go.Proofs.YtbnkckjdgpiggaaGreatDoor
set_option maxRecDepth 100000
set_option maxHeartbeats 16000000
set_option linter.unusedVariables false
set_option linter.unusedSimpArgs false
open Go.RowKit Go.Shelf Go.Lib Go.Sort
noncomputable def zm3 (L : List zd) (fr : Nm) (x : zal) (f : FrR) : Option FrR :=
 if x.op = 15 then (if zh L (z7 x.cl) ≠ 0 then none else if (zbi L x.cl).elim false (·.face) = true then none else zk7 f (z7 x.cl))
 else if x.op = 16 then (z8j L x.cl x.nm).elim none fun t => putO (zbk L [z7 x.cl] f) t
 else if x.op = 17 then (z8j L x.cl x.nm).elim none fun t => zbk L [t, z7 x.cl] f
 else if x.op = 18 then (if zh L x.ty ≠ 0 then none else putO (zbk L [[73]] f) (91 :: x.ty))
 else if x.op = 19 then (zvf f).elim none fun p => if ((p.1 == [78]) || (p.1.head? == some 91)) = true then zk7 p.2 [73] else none
 else if x.op = 20 then putO (z8g L x.ty f) x.ty
 else if x.op = 21 then (if zh L x.ty ≠ 0 then none else (zbk L [x.ty] f).elim none fun g => z8g L x.ty g)
 else if x.op = 22 then (if zh L x.ty ≠ 0 then none else (zvf f).elim none fun p => zk7 p.2 x.ty)
 else if x.op = 23 then (if zh L x.ty ≠ 0 then none else (zvf f).elim none fun p => zk7 p.2 [73])
 else if x.op = 24 then z16 L fr x false f
 else if x.op = 25 then z16 L fr x true f
 else some f
theorem zzm (l : List zd) (L : List CP) (b c : Nat) (fr gv : Nm) (f : FrR) (op ia ib : Int) (ty cl nm : Nm) (w0 w : World) (hW : WOk w0 b l L) (hb : Below w0.heap.size w0 w) (hs : Stp (wl l) w w0.heap.size c b fr gv f) (h15 : op ≠ 15) (h16 : op ≠ 16) (h17 : op ≠ 17) (h18 : op ≠ 18) (h19 : op ≠ 19) (h20 : op ≠ 20) (h21 : op ≠ 21) (h22 : op ≠ 22) (h23 : op ≠ 23) (h24 : op ≠ 24) (h25 : op ≠ 25) :
   Calls Tryz.prog 163 #[.pointer (some ⟨c, 0, none⟩), .agg #[.int .i64 op, .int .i64 ia, .int .i64 ib, .string ⟨⟨ty⟩⟩, .string ⟨⟨cl⟩⟩, .string ⟨⟨nm⟩⟩]] w (zji (wl l) (zm3 (wl l) fr ⟨op, ia, ib, ty, cl, nm⟩ f) w0.heap.size c b fr gv w0) := by
 obtain ⟨w1, hw1⟩ : ∃ w1, w1 = w.alloc (.cells #[.int .i64 op, .int .i64 ia, .int .i64 ib, .string ⟨⟨ty⟩⟩, .string ⟨⟨cl⟩⟩, .string ⟨⟨nm⟩⟩] 40) := ⟨_, rfl⟩
 have hal : Below w.heap.size w w1 := by rw [hw1]; exact ze (Below.refl _ _) _
 have HX1 := Hq (show Blk w1 w.heap.size 40 #[.int .i64 op, .int .i64 ia, .int .i64 ib, .string ⟨⟨ty⟩⟩, .string ⟨⟨cl⟩⟩, .string ⟨⟨nm⟩⟩] by rw [hw1]; exact zg _ _ _ _ rfl)
 have HG1 := Hq (zay (zp w c) hal)
 have HB1 := Hq (hb.trans (hal.mono hb.size))
 have HS1 := Hq (hs.below hal)
 have HW := Hq hW
 have HB := Hq hb
 have HCB := Hq hs.cB
 have hwc : w.heap.size ≠ c := by have := hs.lt; omega
 have HE := Hq (show zm3 (wl l) fr ⟨op, ia, ib, ty, cl, nm⟩ f = some f by unfold zm3; simp [h15, h16, h17, h18, h19, h20, h21, h22, h23, h24, h25])
 have q15 : (op == 15) = false := by rw [beq_eq_false_iff_ne]; exact h15
 have q16 : (op == 16) = false := by rw [beq_eq_false_iff_ne]; exact h16
 have q17 : (op == 17) = false := by rw [beq_eq_false_iff_ne]; exact h17
 have q18 : (op == 18) = false := by rw [beq_eq_false_iff_ne]; exact h18
 have q19 : (op == 19) = false := by rw [beq_eq_false_iff_ne]; exact h19
 have q20 : (op == 20) = false := by rw [beq_eq_false_iff_ne]; exact h20
 have q21 : (op == 21) = false := by rw [beq_eq_false_iff_ne]; exact h21
 have q22 : (op == 22) = false := by rw [beq_eq_false_iff_ne]; exact h22
 have q23 : (op == 23) = false := by rw [beq_eq_false_iff_ne]; exact h23
 have q24 : (op == 24) = false := by rw [beq_eq_false_iff_ne]; exact h24
 have q25 : (op == 25) = false := by rw [beq_eq_false_iff_ne]; exact h25
 have e0 := HX1.out.cell 0
 have el := HX1.out.lt
 clear hW hb hs hal h15 h16 h17 h18 h19 h20 h21 h22 h23 h24 h25
 go_enter Tryz.func163, Tryz.ntmps163
 go_upto_region 1 with fail
 rw [<- hw1]
 clear hw1
 go_wp2_with fail
 go_end0
 exact ⟨HB1.out, Or.inr ⟨_, HE.out, rfl, HS1.out⟩⟩
theorem zix {x : zal} (h : zar x = 0) : za5 x = true /\ zbc x = true /\ ((zgh x.op.toNat).contains 67 = true -> zr x.cl = true) := by
 unfold zar at h
 split at h
 . omega
 split at h
 . omega
 split at h
 . omega
 split at h
 . omega
 . rename_i h3 h4
   simp only [Bool.or_eq_true, Bool.and_eq_true, Bool.not_eq_true', not_or, not_and] at h4
   refine ⟨by simpa using h3, by simpa using h4.1.1, fun h => by simpa using h4.1.2 h⟩
theorem zyo {L : List zd} {k : Nm} (h : zi (91 :: k)) (hk : zh L k = 0) : zh L (91 :: k) = 0 := by
 obtain ⟨d, b, e, hd, hn⟩ := zjg.1 h
 cases d with
 | zero =>
   cases b with
   | int => simp [Kd.text, Bse.text] at e
   | long => simp [Kd.text, Bse.text] at e
   | cls m => simp [Kd.text, Bse.text] at e
 | succ d =>
   rw [zh4] at e
   simp only [List.cons.injEq, true_and] at e
   obtain ⟨q, hq, e2⟩ := zih.1 hk
   rw [e] at e2
   have := zt9 e2
   subst this
   rw [e, <- zh4]
   exact zgy (k := .ty (d + 1) b) ⟨by omega, hq.2⟩
def z8l (gv : Nm) : Prop := gv = [86] \/ zi gv
theorem zyy (l : List zd) (L : List CP) (b c : Nat) (fr gv : Nm) (f : FrR) (x : zal) (w0 w : World) (hW : WOk w0 b l L) (hb : Below w0.heap.size w0 w) (hs : Stp (wl l) w w0.heap.size c b fr gv f) (hi : zar x = 0) (hg : z8l gv) (ho : OpK x) :
   Calls Tryz.prog 162 #[.pointer (some ⟨c, 0, none⟩), zfe x] w (zji (wl l) (za2 (wl l) gv x f) w0.heap.size c b fr gv w0) := by
 obtain ⟨hr, ht, _⟩ := zix hi
 obtain ⟨op, ia, ib, ty, cl, nm⟩ := x
 unfold zfe
 unfold OpK at ho
 dsimp only at ho
 by_cases h2 : op = 2
 . subst h2
   exact z5b l L b c fr gv f ia ib ty cl nm w0 w hW hb hs (by simpa [zbc] using ht)
 by_cases h4 : op = 4
 . subst h4
   have : 0 <= ia /\ ia < 8 := by simpa [za5] using hr
   obtain ⟨m, rfl⟩ : ∃ m : Nat, ia = m := ⟨ia.toNat, by omega⟩
   exact z5j l L b c fr gv f ib ty cl nm w0 w hW hb hs m
 by_cases h9 : op = 9
 . subst h9
   have hn : zjf ty = true := by simpa [zbc] using ht
   by_cases a12 : ia = 12
   . subst a12
     exact zwb l L b c fr gv f ib ty cl nm w0 w hW hb hs hn
   by_cases a9 : ia = 9
   . subst a9
     exact zx2 l L b c fr gv f ib ty cl nm w0 w hW hb hs hn
   by_cases a10 : ia = 10
   . subst a10
     exact zv7 l L b c fr gv f ib ty cl nm w0 w hW hb hs hn
   by_cases a11 : ia = 11
   . subst a11
     exact zvg l L b c fr gv f ib ty cl nm w0 w hW hb hs hn
   exact zyn l L b c fr gv f ia ib ty cl nm w0 w hW hb hs hn a9 a10 a11 a12
 by_cases h27 : op = 27
 . subst h27
   by_cases hv : gv = [86]
   . subst hv
     exact zvz l L b c fr f ia ib ty cl nm w0 w hW hb hs
   . exact zwq l L b c fr gv f ia ib ty cl nm w0 w hW hb hs hv (by
       rcases hg with h | h
       . exact absurd h hv
       . have := zdp h; omega)
 exfalso
 omega
theorem z27 (l : List zd) (L : List CP) (b c : Nat) (fr gv : Nm) (f : FrR) (x : zal) (w0 w : World) (hW : WOk w0 b l L) (hb : Below w0.heap.size w0 w) (hs : Stp (wl l) w w0.heap.size c b fr gv f) (hi : zar x = 0) (hfr : fr.length <= 1048576) (ho : OpK x) :
   Calls Tryz.prog 163 #[.pointer (some ⟨c, 0, none⟩), zfe x] w (zji (wl l) (zm3 (wl l) fr x f) w0.heap.size c b fr gv w0) := by
 obtain ⟨op, ia, ib, ty, cl, nm⟩ := x
 unfold zfe
 unfold OpK at ho
 dsimp only at ho
 exact zzm l L b c fr gv f op ia ib ty cl nm w0 w hW hb hs (by omega) (by omega) (by omega) (by omega) (by omega) (by omega) (by omega) (by omega) (by omega) (by omega) (by omega)
noncomputable def zb0 (L : List zd) (fr gv : Nm) (x : zal) (f : FrR) : Option FrR := (za2 L gv x f).elim none fun g => zm3 L fr x g
theorem zwf (p q : Addr) (w : World) :
   CallsD Tryz.prog 160 #[.pointer (some p), .pointer (some q)] .returning w fun e u' w' => e = .returned (.tuple #[]) /\ u' = .returning /\ w' = w := by
 refine callsD_of_wpS Tryz.func160 rfl fun c₀ cs hu => ?_
 apply wpS_seq
 apply wpS_region
 simp [wpOpsS, go_sem, recoverD, hu, Tryz.ntmps160, Exit.thenS]
 refine wpS_of_wp ?_
 simp only [show (15 : Nat) = 14 + 1 from rfl, Array.replicate, List.replicate, List.setIfInBounds_toArray, List.set_cons_zero, List.set_cons_succ, List.append_toArray, List.cons_append, List.nil_append]
 go_wp2_with fail
 cases c₀
 simp_all [bodyPostS, results, Tryz.results160]
theorem zq2 (g h : Nat) (w : World) (hg : Blk w g 141 #[.slice none 0 0, .slice none 0 0]) (hh : Blk w h 4 #[.bool false]) :
   CallsD Tryz.prog 160 #[.pointer (some ⟨g, 0, none⟩), .pointer (some ⟨h, 0, none⟩)] (.panicking zge) w fun e u' w' =>
     e = .returned (.tuple #[]) /\ u' = .panicking [{ v := .iface 216 (.agg #[]), recovered := true }] /\ w' = (((w.setCell ⟨g, 0, none⟩ (.slice none 0 0)).setCell ⟨g, 1, none⟩ (.slice none 0 0)).setCell ⟨h, 0, none⟩ (.bool false)).alloc (.cells #[] 216) := by
 have hta : ∀ w, (Instr.typeAssert (.iface 216 (.agg #[])) 20 216 true).run Tryz.prog w = .ok (.tuple #[.agg #[], .bool true]) w := fun _ => by kernel_rfl
 have hz := hg.alloc (.cells #[] 216)
 have hy := hh.alloc (.cells #[] 216)
 have z0 := hg.cell 0
 have z1 := hg.cell 1
 have z2 := hg.frozen 0
 have z3 := hg.frozen 1
 have z4 := hg.lt
 have y0 := hh.cell 0
 have y1 := hh.frozen 0
 have y2 := hh.lt
 have hne : h ≠ g := by
   intro e
   subst e
   have := hg.symm.trans hh
   simp at this
 unfold zge
 refine callsD_of_wpS Tryz.func160 rfl fun c₀ cs hu => ?_
 apply wpS_seq
 apply wpS_region
 simp [wpOpsS, go_sem, recoverD, hu, Tryz.ntmps160, Exit.thenS]
 refine wpS_of_wp ?_
 simp only [show (15 : Nat) = 14 + 1 from rfl, Array.replicate, List.replicate, List.setIfInBounds_toArray, List.set_cons_zero, List.set_cons_succ, List.append_toArray, List.cons_append, List.nil_append]
 go_wp2_with fail
 simp [bodyPostS, results, Tryz.results160]
theorem zkb (A : List Nm) (a : Option Addr) (cap : Nat) (w : World) (h : zdl w a cap A) (hl : A.length <= 1000) :
   Calls Tryz.prog 161 #[.slice a A.length cap] w fun e w' => (∃ q : Option Addr × Nat, e = .returned (.slice q.1 A.length q.2) /\ w'.ownsRow w.heap.size 9 1 (.slice q.1 A.length q.2) A.length (A.map zz)) /\ Below w.heap.size w w' := by
 have fin : ∀ {e : Ending} {w' : World} {v' : Value}, e = .returned v' -> w'.ownsRow w.heap.size 9 1 v' A.length (A.map zz) -> Below w.heap.size w w' -> (∃ q : Option Addr × Nat, e = .returned (.slice q.1 A.length q.2) /\ w'.ownsRow w.heap.size 9 1 (.slice q.1 A.length q.2) A.length (A.map zz)) /\ Below w.heap.size w w' := fun {e w' v'} he ho hb => by
   obtain ⟨a2, c2, rfl, _⟩ := zy ho
   exact ⟨⟨(a2, c2), he, ho⟩, hb⟩
 obtain ⟨hle, h2 | ⟨b, off, rfl, hlt, hc⟩⟩ := h
 . subst h2
   cases a with
   | none =>
     refine (Tryz.slices_Clone_string_nil 0 cap w).mono ?_
     rintro e w' ⟨he, rfl⟩
     exact fin he ⟨rfl, Or.inl ⟨rfl, rfl⟩⟩ (Below.refl _ _)
   | some ad =>
     refine (Tryz.slices_Clone_string_zero ad cap w).mono ?_
     rintro e w' ⟨v', he, ho, _, hb⟩
     exact fin he ho hb
 . refine (Tryz.slices_Clone_string b off A.length cap (A.map fun t => ⟨⟨t⟩⟩) w (by simp) (by omega) (fun j hj => by
     have hj' : j < A.length := by simpa using hj
     have := hc j A[j] (List.getElem?_eq_getElem hj')
     rw [this]
     simp [zz, List.getD_eq_getElem?_getD, hj'])).mono ?_
   rintro e w' ⟨v', he, ho, _, hb⟩
   refine fin he ?_ hb
   rw [List.take_of_length_le (by simp), List.map_map] at ho
   exact ho
theorem oel {α β : Type} {o : Option α} {F : α -> Option β} {g : β} (h : o.elim none F = some g) : ∃ p, o = some p /\ F p = some g := by
 cases o with
 | none => cases h
 | some p => exact ⟨p, rfl, h⟩
def z6u (f g : FrR) : Prop := g.loc = f.loc /\ (f.st.length <= 8 -> g.st.length <= 8)
theorem z6u.refl (f : FrR) : z6u f f := ⟨rfl, fun h => h⟩
theorem z6u.trans {f g h : FrR} (a : z6u f g) (b : z6u g h) : z6u f h := ⟨b.1.trans a.1, fun x => b.2 (a.2 x)⟩
def z8u (w : World) (e : Ending) (w' : World) : Prop := ∃ v, e = .returned v /\ w'.ownsRow w.heap.size 9 1 v 0 [] /\ Below w.heap.size w w'
def ConRes (A B : List Nm) (w : World) (e : Ending) (w' : World) : Prop := ∃ v, e = .returned v /\ w'.ownsRow w.heap.size 9 1 v (A.length + B.length) ((A ++ B).map zz) /\ Below w.heap.size w w'
structure zf9 where
 la : Option Addr
 lc : Nat
 sa : Option Addr
 sc : Nat
def frV (f : FrR) (p : zf9) : Value := .agg #[.slice p.la f.loc.length p.lc, .slice p.sa f.st.length p.sc]
def zfg (W : World) (f : FrR) (p : zf9) : Prop := zdl W p.la p.lc f.loc /\ zdl W p.sa p.sc f.st
theorem zfg.below {w w' : World} {f : FrR} {p : zf9} (h : zfg w f p) (hb : Below w.heap.size w w') : zfg w' f p := ⟨h.1.below hb, h.2.below hb⟩
def FrB (f : FrR) : Prop := ∀ x ∈ f.loc ++ f.st, x.length <= 8388608
def ChkRes (err : Int) (w : World) (e : Ending) (w' : World) : Prop := e = .returned (zaj err) /\ Below w.heap.size w w'
theorem zql (X Y : List Nm) (a a' : Option Addr) (c c' : Nat) (w : World) (h : zdl w a c X) (h' : zdl w a' c' Y) (hl : X.length <= 1000000) :
   Calls Tryz.prog 159 #[.slice a X.length c, .slice a' Y.length c'] w fun e w' => e = .returned (.bool (decide (X = Y))) /\ Below w.heap.size w w' := by
 by_cases hlen : X.length = Y.length
 . by_cases h0 : X = []
   . subst h0
     have hY : Y = [] := List.eq_nil_of_length_eq_zero (by rw [<- hlen]; rfl)
     subst hY
     refine (Tryz.slices_Equal_string_empty a a' c 0 c' w (by omega)).mono ?_
     rintro e w' ⟨rfl, rfl⟩
     exact ⟨rfl, Below.refl _ _⟩
   . have hY0 : Y ≠ [] := fun e => h0 (List.eq_nil_of_length_eq_zero (by rw [hlen, e]; rfl))
     obtain ⟨_, e1 | ⟨b, o, rfl, _, hc⟩⟩ := h
     . exact absurd e1 h0
     obtain ⟨_, e1 | ⟨b', o', rfl, _, hc'⟩⟩ := h'
     . exact absurd e1 hY0
     have hg : ∀ (Z : List Nm) j, j < (Z.map (fun x => (⟨⟨x⟩⟩ : ByteArray))).length -> ∃ x, Z[j]? = some x /\ (Z.map (fun x => (⟨⟨x⟩⟩ : ByteArray))).getD j ByteArray.empty = ⟨⟨x⟩⟩ := fun Z j hj => by
       rw [List.length_map] at hj
       refine ⟨Z[j], List.getElem?_eq_getElem hj, ?_⟩
       simp [List.getD, hj]
     refine (Tryz.slices_Equal_string b o X.length c b' o' Y.length c' (X.map (fun x => (⟨⟨x⟩⟩ : ByteArray))) (Y.map (fun x => (⟨⟨x⟩⟩ : ByteArray))) w (by simp) (by simp) (by omega) (by omega) ?_ ?_).mono ?_
     . intro j hj
       obtain ⟨x, hx, e⟩ := hg X j hj
       rw [e]; exact hc j x hx
     . intro j hj
       obtain ⟨x, hx, e⟩ := hg Y j hj
       rw [e]; exact hc' j x hx
     . rintro e w' ⟨rfl, q, rfl⟩
       refine ⟨?_, zbv (Below.refl _ _) q⟩
       have hinj : ∀ {A B : List Nm}, A.map (fun x => (⟨⟨x⟩⟩ : ByteArray)) = B.map (fun x => (⟨⟨x⟩⟩ : ByteArray)) -> A = B := by
         intro A
         induction A with
         | nil => intro B h; cases B with | nil => rfl | cons y B => cases h
         | cons x A ih =>
           intro B h
           cases B with
           | nil => cases h
           | cons y B =>
             simp only [List.map_cons, List.cons.injEq] at h
             have h1 : x = y := by have := h.1; simpa using this
             rw [h1, ih h.2]
       have t1 : (X.map (fun x => (⟨⟨x⟩⟩ : ByteArray))).take X.length = X.map (fun x => (⟨⟨x⟩⟩ : ByteArray)) := List.take_of_length_le (by simp)
       have t2 : (Y.map (fun x => (⟨⟨x⟩⟩ : ByteArray))).take Y.length = Y.map (fun x => (⟨⟨x⟩⟩ : ByteArray)) := List.take_of_length_le (by simp)
       rw [t1, t2]
       congr 2
       exact decide_eq_decide.2 ⟨hinj, fun e => by rw [e]⟩
 . have hne : X ≠ Y := fun e => hlen (by rw [e])
   rw [decide_eq_false hne]
   refine (Tryz.slices_Equal_string_lens a a' X.length c Y.length c' w hlen).mono ?_
   rintro e w' ⟨rfl, rfl⟩
   exact ⟨rfl, Below.refl _ _⟩
noncomputable def zwj (f g : FrR) : Bool := decide (f.loc = g.loc) && decide (f.st = g.st)
theorem zho {f g : FrR} : zwj f g = true ↔ f = g := by
 obtain ⟨a, b⟩ := f
 obtain ⟨c, d⟩ := g
 simp [zwj]
theorem zt1 (f g : FrR) (p q : zf9) (w : World) (hp : zfg w f p) (hq : zfg w g q) (h1 : f.loc.length <= 100000) (h2 : f.st.length <= 100000) :
   Calls Tryz.prog 122 #[frV f p, frV g q] w fun e w' => e = .returned (.bool (zwj f g)) /\ Below w.heap.size w w' := by
 have HE1 := Hq (fun W (hW : Below w.heap.size w W) => zql f.loc g.loc p.la q.la p.lc q.lc W (hp.1.below hW) (hq.1.below hW) (by omega))
 have HE2 := Hq (fun W (hW : Below w.heap.size w W) => zql f.st g.st p.sa q.sa p.sc q.sc W (hp.2.below hW) (hq.2.below hW) (by omega))
 have HBB := Hq (fun o1 o2 => ze (ze (Below.refl w.heap.size w) o1) o2)
 clear hp hq
 unfold frV zwj
 generalize decide (f.loc = g.loc) = d1 at *
 generalize decide (f.st = g.st) = d2 at *
 have HD0 := Hq ((zg w w.heap.size 141 #[.slice p.la f.loc.length p.lc, .slice p.sa f.st.length p.sc] rfl).below ((Below.refl _ _).alloc (Nat.le_refl _) (.cells #[.slice q.la g.loc.length q.lc, .slice q.sa g.st.length q.sc] 141)))
 have HD1 := Hq (zg (w.alloc (.cells #[.slice p.la f.loc.length p.lc, .slice p.sa f.st.length p.sc] 141)) (w.heap.size + 1) 141 #[.slice q.la g.loc.length q.lc, .slice q.sa g.st.length q.sc] (by simp))
 go_enter Tryz.func122, Tryz.ntmps122
 go_wp2_with fail
 refine (HE1.out _ (HBB.out _ _)).mono ?_
 rintro e w2 ⟨rfl, hb2⟩
 have HB2 := Hq (zc (HBB.out _ _) hb2)
 have e1 := (HD0.out.below hb2).cell 1
 have e2 := (HD0.out.below hb2).lt
 have e3 := (HD1.out.below hb2).cell 1
 have e4 := (HD1.out.below hb2).lt
 clear hb2
 cases d1 with
 | true =>
   go_wp2_with fail
   refine (HE2.out _ HB2.out).mono ?_
   rintro e w3 ⟨rfl, hb3⟩
   have HB3 := Hq (zc HB2.out hb3)
   clear hb3
   go_wp2_with fail
   go_ret
   exact ⟨by simp, HB3.out⟩
 | false =>
   go_wp2_with fail
   go_ret
   exact ⟨by simp, HB2.out⟩
end Go.Proofs.YtbnkckjdgpiggaaGreatDoor
