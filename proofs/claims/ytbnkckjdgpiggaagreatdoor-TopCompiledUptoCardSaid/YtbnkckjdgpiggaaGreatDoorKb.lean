import Derived.Test.YtbnkckjdgpiggaaGreatDoorWBase
import Derived.Test.YtbnkckjdgpiggaaGreatDoorPm
import Derived.StillTailTactics
namespace Go.Proofs.YtbnkckjdgpiggaaGreatDoor
set_option maxRecDepth 100000
set_option maxHeartbeats 16000000
set_option linter.unusedVariables false
set_option linter.unusedSimpArgs false
open Go.RowKit Go.Shelf Go.Lib
def zbb (k : Nm) : Bool := match k with
 | [] => false
 | c :: _ => c == 76 || c == 91
theorem zxu (k : Kd) : zbb k.text = k.refs := by
 cases k with
 | nul => rfl
 | top => rfl
 | ty d b =>
   cases d with
   | zero => cases b <;> rfl
   | succ d => rfl
theorem znr (k : Nm) (c : UInt8) (w : World) : Calls Tryz.prog 31 #[.string ⟨⟨k⟩⟩, .string ⟨#[c]⟩] w fun e w' => e = .returned (.bool (hasPrefix k [c])) /\ w = w' := by
 have h := Tryz.strings_HasPrefix ⟨⟨k⟩⟩ ⟨#[c]⟩ w
 exact h.mono fun e w' ⟨h1, h2⟩ => ⟨h1, h2.symm⟩
theorem zmg (x : UInt8) (r : Nm) (c : UInt8) : hasPrefix (x :: r) [c] = (x == c) := by
 by_cases e : x = c
 . subst e; simp [hasPrefix, List.isPrefixOf]
 . have h1 : (x == c) = false := by simpa using e
   have h2 : (c == x) = false := by simpa using Ne.symm e
   simp [hasPrefix, List.isPrefixOf, h1, h2]
theorem zu (k : Nm) (w : World) : Calls Tryz.prog 49 #[.string ⟨⟨k⟩⟩] w fun e w' => e = .returned (.bool (zbb k)) /\ w = w' := by
 have H1 := Hq (znr k 76)
 have H2 := Hq (znr k 91)
 have h : zbb k = (hasPrefix k [76] || hasPrefix k [91]) := by
   cases k with
   | nil => rfl
   | cons c r => rw [zmg, zmg]; rfl
 rw [h]
 clear h
 generalize hasPrefix k [76] = p at *
 generalize hasPrefix k [91] = q at *
 cases p with
 | true =>
   go_enter Tryz.func49, Tryz.ntmps49
   go_wp2_with fail
   refine (H1.out _).mono ?_
   rintro e w1 ⟨rfl, rfl⟩
   go_wp2_with fail
   go_ret
   exact ⟨rfl, rfl⟩
 | false =>
   go_enter Tryz.func49, Tryz.ntmps49
   go_wp2_with fail
   refine (H1.out _).mono ?_
   rintro e w1 ⟨rfl, rfl⟩
   go_wp2_with fail
   refine (H2.out _).mono ?_
   rintro e w1 ⟨rfl, rfl⟩
   go_wp2_with fail
   go_ret
   exact ⟨rfl, rfl⟩
theorem zcg (x : Nm) (hx : x.length <= 1048576) (w : World) : Calls Tryz.prog 87 #[.string ⟨⟨x⟩⟩] w fun e w' => e = .returned (.string ⟨⟨z7 x⟩⟩) /\ w = w' := by
 unfold z7
 go_enter Tryz.func87, Tryz.ntmps87
 go_wp2_with fail
 go_ret
 exact ⟨by simp, rfl⟩
theorem zyc (b : Bse) : ∀ c r, b.text = c :: r -> c ≠ 91 := by
 intro c r h
 obtain ⟨c', r', h', h1, _⟩ := ziv b
 rw [h'] at h
 cases h
 exact h1
def zxj (t X : Nm) : Prop := ∀ w, Calls Tryz.prog 62 #[.string ⟨⟨t⟩⟩, .string ⟨#[91]⟩] w fun e w' => e = .returned (.string ⟨⟨X⟩⟩) /\ w = w'
theorem zra (t : Nm) (c : UInt8) (hc : zjf [c] = true) (h : zxj t [c]) (w : World) : Calls Tryz.prog 86 #[.string ⟨⟨t⟩⟩] w fun e w' => e = .returned (.string ⟨⟨[]⟩⟩) /\ w = w' := by
 have HT := Hq h
 have HN := Hq (fun w => ze3 [c] w)
 rw [hc] at HN
 clear h hc
 go_enter Tryz.func86, Tryz.ntmps86
 go_wp2_with fail
 refine (HT.out _).mono ?_
 rintro e w1 ⟨rfl, rfl⟩
 go_wp2_with fail
 refine (HN.out _).mono ?_
 rintro e w1 ⟨rfl, rfl⟩
 go_wp2_with fail
 go_ret
 exact ⟨rfl, rfl⟩
theorem zsy (t n : Nm) (hn : n.length <= 1048576) (h : zxj t (z7 n)) (w : World) : Calls Tryz.prog 86 #[.string ⟨⟨t⟩⟩] w fun e w' => e = .returned (.string ⟨⟨n⟩⟩) /\ w = w' := by
 have HT := Hq h
 have HN := Hq (fun w => ze3 (z7 n) w)
 have hc : zjf (z7 n) = false := by simp [zjf, z7]
 rw [hc] at HN
 have hl : (z7 n).length = n.length + 2 := by simp [z7]
 clear h hc
 go_enter Tryz.func86, Tryz.ntmps86
 go_wp2_with fail
 refine (HT.out _).mono ?_
 rintro e w1 ⟨rfl, rfl⟩
 go_wp2_with fail
 refine (HN.out _).mono ?_
 rintro e w1 ⟨rfl, rfl⟩
 go_wp2_with fail
 go_ret
 refine ⟨?_, rfl⟩
 rw [show List.take (n.length + 2 - 1 - 1) (z7 n).tail = n by simp [z7]]
 rfl
theorem zc4 (d : Nat) (b : Bse) (hb : b.cl.length <= 1048576) (w : World) : Calls Tryz.prog 86 #[.string ⟨⟨(Kd.ty d b).text⟩⟩] w fun e w' => e = .returned (.string ⟨⟨b.cl⟩⟩) /\ w = w' := by
 have HT : zxj (Kd.ty d b).text b.text := fun w => zbp (List.replicate d 91) b.text (fun x hx => (List.mem_replicate.1 hx).2) (zyc b) w
 cases b with
 | int => exact zra _ 73 rfl HT w
 | long => exact zra _ 74 rfl HT w
 | cls n => exact zsy _ n hb HT w
theorem zvn {L : List zd} {d : Nat} {n : Nm} (hd : d <= 3) (hn : zr n = true) (hl : (zbi L n).isSome = false) : zh L (Kd.ty d (.cls n)).text = 3 := zp3 hd hn (by simpa using hl)
theorem zhg (l : List zd) (L : List CP) (b : Nat) (t : Nm) (w : World) (hW : WOk w b l L) (ht : t.length <= 8388608) :
   Calls Tryz.prog 81 #[.map (some b), .string ⟨⟨t⟩⟩] w fun e w' => e = .returned (zaj (zh (wl l) t)) /\ Below w.heap.size w w' := by
 have HW := Hq hW
 have HCL := Hq hW.cl
 clear hW
 by_cases h78 : t = [78]
 . subst h78
   rw [zlo (Or.inl rfl), errOf_zero]
   go_enter Tryz.func81, Tryz.ntmps81
   go_wp2_with fail
   go_ret
   exact ⟨rfl, Below.refl _ _⟩
 by_cases h84 : t = [84]
 . subst h84
   rw [zlo (Or.inr rfl), errOf_zero]
   go_enter Tryz.func81, Tryz.ntmps81
   go_wp2_with fail
   go_ret
   exact ⟨rfl, Below.refl _ _⟩
 have q78 : (t == [78]) = false := by rw [beq_eq_false_iff_ne]; exact h78
 have q84 : (t == [84]) = false := by rw [beq_eq_false_iff_ne]; exact h84
 by_cases hok : zi t
 . have HCK := Hq (fun w => zc1 t hok w)
   clear h78 h84
   obtain ⟨d, x, rfl, hd, hx⟩ := zjg.1 hok
   cases x with
   | int =>
     have HE := Hq (show zh (wl l) (Kd.ty d .int).text = 0 from zgy (k := .ty d .int) ⟨hd, trivial⟩)
     have HC := Hq (fun w => zc4 d .int (by simp [Bse.cl]) w)
     rw [HE.out, errOf_zero]
     simp only [Bse.cl] at HC
     generalize (Kd.ty d .int).text = t at *
     go_enter Tryz.func81, Tryz.ntmps81
     go_wp2_with fail
     refine (HCK.out _).mono ?_
     rintro e w1 ⟨rfl, hb1⟩
     have HB1 := Hq hb1
     clear hb1
     go_wp2_with fail
     refine (HC.out _).mono ?_
     rintro e w2 ⟨rfl, rfl⟩
     go_wp2_with fail
     go_ret
     exact ⟨rfl, HB1.out⟩
   | long =>
     have HE := Hq (show zh (wl l) (Kd.ty d .long).text = 0 from zgy (k := .ty d .long) ⟨hd, trivial⟩)
     have HC := Hq (fun w => zc4 d .long (by simp [Bse.cl]) w)
     rw [HE.out, errOf_zero]
     simp only [Bse.cl] at HC
     generalize (Kd.ty d .long).text = t at *
     go_enter Tryz.func81, Tryz.ntmps81
     go_wp2_with fail
     refine (HCK.out _).mono ?_
     rintro e w1 ⟨rfl, hb1⟩
     have HB1 := Hq hb1
     clear hb1
     go_wp2_with fail
     refine (HC.out _).mono ?_
     rintro e w2 ⟨rfl, rfl⟩
     go_wp2_with fail
     go_ret
     exact ⟨rfl, HB1.out⟩
   | cls n =>
     have hn := hx n rfl
     have hl := zdm hn
     have hml : n.length <= maxLen := by unfold maxLen; omega
     have hne : List.isEmpty n = false := by cases n with | nil => simp at hl | cons x r => rfl
     have HC := Hq (fun w => zc4 d (.cls n) (by simp [Bse.cl]; omega) w)
     simp only [Bse.cl] at HC
     cases hs : (zbi (wl l) n).isSome with
     | false =>
       have HE := Hq (zvn hd hn hs)
       rw [HE.out]
       have E3 : zaj 3 = zby 3 := rfl
       rw [E3]
       generalize (Kd.ty d (.cls n)).text = t at *
       clear E3 hx hok
       go_enter Tryz.func81, Tryz.ntmps81
       go_wp2_with fail
       refine (HCK.out _).mono ?_
       rintro e w1 ⟨rfl, hb1⟩
       have HB1 := Hq hb1
       have hlk := zrw (n := n) (HW.out.below hb1).at_ hml
       rw [HCL.out, hs] at hlk
       unfold zbl at hlk
       have hs1 := hb1.size
       clear hb1 hs
       go_wp2_with fail
       refine (HC.out _).mono ?_
       rintro e w2 ⟨rfl, rfl⟩
       go_wp2_with fail
       go_ret
       exact ⟨rfl, HB1.out.alloc hs1 _⟩
     | true =>
       have HE := Hq (show zh (wl l) (Kd.ty d (.cls n)).text = 0 from zgy (k := .ty d (.cls n)) ⟨hd, hn, hs⟩)
       rw [HE.out, errOf_zero]
       generalize (Kd.ty d (.cls n)).text = t at *
       clear hx hok
       go_enter Tryz.func81, Tryz.ntmps81
       go_wp2_with fail
       refine (HCK.out _).mono ?_
       rintro e w1 ⟨rfl, hb1⟩
       have HB1 := Hq hb1
       have hlk := zrw (n := n) (HW.out.below hb1).at_ hml
       rw [HCL.out, hs] at hlk
       unfold zbl at hlk
       have hs1 := hb1.size
       clear hb1 hs
       go_wp2_with fail
       refine (HC.out _).mono ?_
       rintro e w2 ⟨rfl, rfl⟩
       go_wp2_with fail
       go_ret
       exact ⟨rfl, HB1.out.alloc hs1 _⟩
 . have HCK := Hq (fun w => zdi t hok (by omega) w)
   rw [zui (by rintro (e | e) <;> contradiction) hok]
   clear h78 h84
   have E1 : zaj 1 = zby 1 := rfl
   rw [E1]
   clear hok E1
   go_enter Tryz.func81, Tryz.ntmps81
   go_wp2_with fail
   refine (HCK.out _).mono ?_
   rintro e w1 ⟨rfl, hb1⟩
   have HB1 := Hq hb1
   clear hb1
   go_wp2_with fail
   go_ret
   exact ⟨rfl, HB1.out⟩
noncomputable def zlp (L : List zd) (s t : Nm) : Bool := zu8 L (kd L s) (kd L t)
def zkg (f : FrR) : Option (Nm × FrR) := f.st.getLast?.map fun k => (k, ⟨f.loc, f.st.dropLast⟩)
def zk7 (f : FrR) (k : Nm) : Option FrR := if f.st.length < 8 then some ⟨f.loc, f.st ++ [k]⟩ else none
noncomputable def zbk (L : List zd) : List Nm -> FrR -> Option FrR
 | [], f => some f
 | t :: r, f => if zh L t ≠ 0 then none else (zkg f).elim none fun p => if zlp L p.1 t = true then zbk L r p.2 else none
def zvf (f : FrR) : Option (Nm × FrR) := (zkg f).elim none fun p => if (p.1 == [78]) || zbb p.1 then some p else none
noncomputable def z8g (L : List zd) (t : Nm) (f : FrR) : Option FrR :=
 if zh L t ≠ 0 then none else (zbk L [[73]] f).elim none fun g => (zvf g).elim none fun p =>
   if (p.1 == [78]) || ((p.1.head? == some 91) && zlp L p.1.tail t && (zbb p.1.tail == zbb t)) then some p.2 else none
noncomputable def z8j (L : List zd) (c n : Nm) : Option Nm :=
 if zh L (z7 c) ≠ 0 then none else (zy5 L c n).elim none fun p => if zh L p.2.ty ≠ 0 then none else some p.2.ty
theorem zuf {f : FrR} (h : f.st = []) : zkg f = none := by unfold zkg; rw [h]; rfl
theorem zis {f : FrR} {A : List Nm} {k : Nm} (h : f.st = A ++ [k]) : zkg f = some (k, ⟨f.loc, A⟩) := by unfold zkg; rw [h]; simp
theorem zrq (f : FrR) : f.st = [] \/ ∃ A k, f.st = A ++ [k] := by
 rcases List.eq_nil_or_concat f.st with h | ⟨A, k, h⟩
 . exact Or.inl h
 . exact Or.inr ⟨A, k, by rw [h]; simp⟩
theorem KOk.pop {L : List zd} {f g : FrR} {k : Nm} (h : KOk L f) (hp : zkg f = some (k, g)) : KOk L g /\ zh L k = 0 /\ g.loc = f.loc := by
 rcases zrq f with h0 | ⟨A, k', h0⟩
 . rw [zuf h0] at hp; cases hp
 . rw [zis h0] at hp
   simp only [Option.some.injEq, Prod.mk.injEq] at hp
   obtain ⟨rfl, rfl⟩ := hp
   have h2 := h.st
   rw [h0] at h2
   refine ⟨⟨h.loc, by simp at h2; show A.length <= 8; omega, fun t ht => h.kn t ?_⟩, h.kn _ (by rw [h0]; simp), rfl⟩
   rw [h0]
   rcases List.mem_append.1 ht with ht | ht
   . exact List.mem_append_left _ ht
   . exact List.mem_append_right _ (List.mem_append_left _ ht)
theorem KOk.put {L : List zd} {f g : FrR} {k : Nm} (h : KOk L f) (hk : zh L k = 0) (hp : zk7 f k = some g) : KOk L g /\ g.loc = f.loc := by
 unfold zk7 at hp
 split at hp
 . simp only [Option.some.injEq] at hp
   subst hp
   refine ⟨⟨h.loc, by simp; omega, fun t ht => ?_⟩, rfl⟩
   simp only [List.mem_append, List.mem_singleton] at ht
   rcases ht with ht | ht | ht
   . exact h.kn t (by simp [ht])
   . exact h.kn t (by simp [ht])
   . rw [ht]; exact hk
 . cases hp
theorem KOk.take {L : List zd} : ∀ {ts : List Nm} {f g : FrR}, KOk L f -> zbk L ts f = some g -> KOk L g /\ g.loc = f.loc
 | [], f, g, h, hp => by simp only [zbk, Option.some.injEq] at hp; subst hp; exact ⟨h, rfl⟩
 | t :: r, f, g, h, hp => by
   unfold zbk at hp
   split at hp
   . cases hp
   cases hq : zkg f with
   | none => rw [hq] at hp; cases hp
   | some p =>
     obtain ⟨k, f2⟩ := p
     rw [hq] at hp
     simp only [Option.elim_some] at hp
     split at hp
     . obtain ⟨h1, _, h2⟩ := h.pop hq
       obtain ⟨h3, h4⟩ := h1.take hp
       exact ⟨h3, h4.trans h2⟩
     . cases hp
def Blk (W : World) (g : Nat) (T : TypeId) (cs : Array Value) : Prop := W.heap[g]? = some (.cells cs T (0, 0))
theorem Blk.lt {W : World} {g : Nat} {T : TypeId} {cs : Array Value} (h : Blk W g T cs) : g < W.heap.size := (Array.getElem?_eq_some_iff.1 h).1
theorem Blk.below {W W' : World} {g : Nat} {T : TypeId} {cs : Array Value} (h : Blk W g T cs) (hb : Below W.heap.size W W') : Blk W' g T cs := (hb.block g h.lt).trans h
theorem Blk.cell {W : World} {g : Nat} {T : TypeId} {cs : Array Value} (h : Blk W g T cs) (j : Nat) : W.cell? ⟨g, j, none⟩ = cs[j]? := by unfold Blk at h; simp [World.cell?, h]
theorem Blk.frozen {W : World} {g : Nat} {T : TypeId} {cs : Array Value} (h : Blk W g T cs) (j : Nat) : W.frozen? ⟨g, j, none⟩ = false := by unfold Blk at h; simp [World.frozen?, h]
theorem zg (W : World) (g : Nat) (T : TypeId) (cs : Array Value) (hg : g = W.heap.size) : Blk (W.alloc (.cells cs T)) g T cs := by subst hg; exact (MapKept.heap_alloc W _).1
theorem zh3 {w0 W W2 : World} {B g : Nat} (h : Below B w0 W) (hg : W.grownBy W2 (some g)) (hB : B <= g) (hs : B <= W.heap.size) : Below B w0 W2 :=
 h.trans ⟨hg.os, hg.tape, hg.output, hg.size, fun k hk => hg.block k (by omega) (by intro e; simp at e; omega)⟩
theorem Blk.other {W W2 : World} {g g' : Nat} {T : TypeId} {cs : Array Value} (h : Blk W g T cs) (hg : W.grownBy W2 (some g')) (hne : g ≠ g') : Blk W2 g T cs := (hg.block g h.lt (by simpa using hne)).trans h
theorem zj7 (w : World) (g : Nat) (cs : Array Value) : w.grownBy (w.setRow g cs) (some g) := by
 refine ⟨rfl, rfl, rfl, by simp [World.setRow], fun k hk hne => ?_⟩
 have hk' : g ≠ k := fun e => hne (by rw [e])
 show (w.heap.modify g _)[k]? = _
 rw [Array.getElem?_modify, if_neg hk']
section
variable {P : Program}
end
theorem z42 {P : Program} {id : Nat} {Q : Exit -> Act -> World -> Prop} {a : Act} {w : World} {l : List Oper} (n : Nat) (hm : P.follows .mixedOrders = true) (hB : Region.lexTailB .any l.toArray n = true)
   (h : wpStill P l.toArray w.drew (fun a' => wpList P l.toArray Q (l.drop n) a' w.drew) (l.take n) a) : (Code.region id l.toArray true).wp P Q a w := wp_region_still_tail n hm hB h
theorem Blk.drew {W : World} {g : Nat} {T : TypeId} {cs : Array Value} (h : Blk W g T cs) : Blk W.drew g T cs := h
theorem Blk.alloc {W : World} {g : Nat} {T : TypeId} {cs : Array Value} (h : Blk W g T cs) (o : Obj) : Blk (W.alloc o) g T cs := h.below ((Below.refl _ _).alloc (Nat.le_refl _) o)
theorem Blk.drewN {W : World} {g : Nat} {T : TypeId} {cs : Array Value} (h : Blk W g T cs) (k : Nat) : Blk (W.drewN k) g T cs := h
theorem zp (W : World) (g : Nat) : W.grownBy W (some g) := ⟨rfl, rfl, rfl, Nat.le_refl _, fun _ _ _ => rfl⟩
theorem zay {W0 w w' : World} {g : Nat} (h : W0.grownBy w (some g)) (hb : Below w.heap.size w w') : W0.grownBy w' (some g) :=
 ⟨hb.os.trans h.os, hb.tape.trans h.tape, hb.output.trans h.output, Nat.le_trans h.size hb.size, fun k hk hne => (hb.block k (Nat.lt_of_lt_of_le hk h.size)).trans (h.block k hk hne)⟩
theorem zds {W0 w : World} {g : Nat} (h : W0.grownBy w (some g)) (o : Obj) : W0.grownBy (w.alloc o) (some g) := zay h ((Below.refl _ _).alloc (Nat.le_refl _) o)
theorem zb9 {W0 w : World} {g : Nat} (h : W0.grownBy w (some g)) : W0.grownBy w.drew (some g) := zay h ((Below.refl _ _).drew)
theorem zun {W0 w w' : World} {g : Nat} {v : Value} (h : W0.grownBy w (some g)) (hg : w.grownBy w' v.ownBlock) (hv : ∀ k, v.ownBlock = some k -> W0.heap.size <= k) : W0.grownBy w' (some g) :=
 ⟨hg.os.trans h.os, hg.tape.trans h.tape, hg.output.trans h.output, Nat.le_trans h.size hg.size, fun k hk hne => (hg.block k (Nat.lt_of_lt_of_le hk h.size) (fun e => by have := hv k e.symm; omega)).trans (h.block k hk hne)⟩
theorem zai {W0 w : World} {g : Nat} (h : W0.grownBy w (some g)) (j : Nat) (u : Value) : W0.grownBy (w.setCell ⟨g, j, none⟩ u) (some g) :=
 ⟨h.os, h.tape, h.output, by have := h.size; simpa [World.setCell] using this, fun k hk hne => (Below.heap_setCell w ⟨g, j, none⟩ u k (fun e => hne (by rw [e]))).trans (h.block k hk hne)⟩
theorem zsj {W0 w : World} {g : Nat} (h : W0.grownBy w (some g)) {a : Addr} (hlt : a.block < W0.heap.size) (hne : a.block ≠ g) : w.cell? a = W0.cell? a := World.cell?_of_block (h.block a.block hlt (by simpa using hne))
theorem zcs {W0 w : World} {g : Nat} (h : W0.grownBy w (some g)) {a : Option Addr} {cap : Nat} {A : List Nm} (hr : zdl W0 a cap A) (hne : ∀ ad, a = some ad -> ad.block ≠ g) : zdl w a cap A := by
 obtain ⟨h1, h2 | ⟨b, off, rfl, hlt, hc⟩⟩ := hr
 . exact ⟨h1, Or.inl h2⟩
 . exact ⟨h1, Or.inr ⟨b, off, rfl, Nat.lt_of_lt_of_le hlt h.size, fun j x hx => by rw [zsj h (a := ⟨b, off + j, none⟩) hlt (hne ⟨b, off, none⟩ rfl)]; exact hc j x hx⟩⟩
theorem zj {W W0 w : World} {g : Nat} (hb : Below W.heap.size W W0) (h : W0.grownBy w (some g)) (hg : W.heap.size <= g) : Below W.heap.size W w :=
 hb.trans ⟨h.os, h.tape, h.output, h.size, fun k hk => h.block k (Nat.lt_of_lt_of_le hk hb.size) (fun e => by simp at e; omega)⟩
theorem zfm {W w' : World} {g : Nat} {T : TypeId} {cs : Array Value} {v : Value} (h : Blk W g T cs) (hg : W.grownBy w' v.ownBlock) (hv : v.ownBlock ≠ some g) : Blk w' g T cs := (hg.block g h.lt (fun e => hv e.symm)).trans h
theorem zwy {w : World} {K j : Nat} {cs : Array Value} {t : TypeId} {fr : Nat × Nat} (h : w.heap[K]? = some (.cells cs t fr)) (v : Value) : (w.setCell ⟨K, j, none⟩ v).heap[K]? = some (.cells (cs.setIfInBounds j v) t fr) := by
 show (w.heap.modify K _)[K]? = _
 rw [Array.getElem?_modify, if_pos rfl, h]
 rfl
theorem zm {W : World} {g : Nat} {T : TypeId} {cs : Array Value} (h : Blk W g T cs) (j : Nat) (u : Value) : Blk (W.setCell ⟨g, j, none⟩ u) g T (cs.setIfInBounds j u) := zwy h u
theorem zax {w : World} {B : Nat} {e : TypeId} {size : Nat} {v : Value} {n : Nat} {xs : List Value} (h : w.ownsRow B e size v n xs) {g j : Nat} (hne : v.ownBlock ≠ some g) (u : Value) : (w.setCell ⟨g, j, none⟩ u).ownsRow B e size v n xs :=
 h.kept (row := some g) (zai (zp w g) j u) (Or.inr hne)
theorem zpc {f : Nm -> Nm -> Nm} : ∀ {A B : List Nm} {k : Nat} {x y : Nm}, A[k]? = some x -> B[k]? = some y -> (List.zipWith f A B).take (k + 1) = (List.zipWith f A B).take k ++ [f x y]
 | [], B, k, x, y, h, _ => by simp at h
 | a :: A, [], k, x, y, _, h => by simp at h
 | a :: A, b :: B, 0, x, y, h, h' => by
   simp at h h'; subst h; subst h'
   simp
 | a :: A, b :: B, k + 1, x, y, h, h' => by
   have ih := zpc (f := f) (A := A) (B := B) (k := k) (x := x) (y := y) (by simpa using h) (by simpa using h')
   simp only [List.zipWith_cons_cons, List.take_succ_cons, List.cons_append, ih]
theorem zjz (W : World) (cs : List Value) (t : TypeId) (size g : Nat) (hg : g = W.heap.size) (hl : cs.length = size) (h1 : ∀ u ∈ cs, u.oneCell' = true) : zi3 (W.alloc (.cells cs.toArray t)) size (.slice (some ⟨g, 0, none⟩) 1 1) 1 cs := by
 subst hg
 exact ⟨by omega, h1, Or.inr ⟨_, 1, rfl, fun j u hj => zdj W cs t j u hj⟩⟩
theorem zt4 {W : World} {cs : List Value} {size g : Nat} (h : zi3 W size (.slice (some ⟨g, 0, none⟩) 1 1) 1 cs) : zi3 W.drew size (.slice (some ⟨g, 0, none⟩) 1 1) 1 cs := h
theorem zac {W0 w : World} {g j : Nat} {T : TypeId} {cs : Array Value} (h : W0.grownBy w (some g)) (hb : Blk W0 j T cs) (hne : j ≠ g) : Blk w j T cs := (h.block j hb.lt (by simpa using hne)).trans hb
theorem zc0 {a b c : World} {g : Nat} (h : a.grownBy b (some g)) (k : b.grownBy c (some g)) : a.grownBy c (some g) :=
 ⟨k.os.trans h.os, k.tape.trans h.tape, k.output.trans h.output, Nat.le_trans h.size k.size, fun i hi hne => (k.block i (Nat.lt_of_lt_of_le hi h.size) hne).trans (h.block i hi hne)⟩
open Go.Sort
theorem zjb {w : World} {B B' : Nat} {e : TypeId} {size : Nat} {v : Value} {n : Nat} {xs : List Value} (h : w.ownsRow B e size v n xs) (hB : B' <= B) : w.ownsRow B' e size v n xs := by
 refine ⟨h.1, ?_⟩
 rcases h.2 with h1 | ⟨g, cap, cur, h1, h2, h3⟩
 . exact Or.inl h1
 . exact Or.inr ⟨g, cap, cur, h1, Nat.le_trans hB h2, h3⟩
end Go.Proofs.YtbnkckjdgpiggaaGreatDoor
