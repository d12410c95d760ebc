import Derived.Test.YtddbnboicmaooaaGreatDoorWBase
import Derived.Test.YtddbnboicmaooaaGreatDoorPm
import Derived.StillTailTactics
namespace Go.Proofs.YtddbnboicmaooaaGreatDoor
set_option maxRecDepth 100000
set_option maxHeartbeats 16000000
set_option linter.unusedVariables false
set_option linter.unusedSimpArgs false
open Go.RowKit Go.Shelf Go.Lib
def refsB (k : Nm) : Bool := match k with
 | [] => false
 | c :: _ => c == 76 || c == 91
theorem refs_text (k : Kd) : refsB k.text = k.refs := by
 cases k with
 | nul => rfl
 | top => rfl
 | ty d b =>
   cases d with
   | zero => cases b <;> rfl
   | succ d => rfl
theorem hasPre_one (k : Nm) (c : UInt8) (w : World) : Calls Tryz.prog 50 #[.string ⟨⟨k⟩⟩, .string ⟨#[c]⟩] w fun e w' => e = .returned (.bool (hasPrefix k [c])) ∧ w = w' := by
 have h := Tryz.strings_HasPrefix ⟨⟨k⟩⟩ ⟨#[c]⟩ w
 exact h.mono fun e w' ⟨h1, h2⟩ => ⟨h1, h2.symm⟩
theorem hasPre_cons (x : UInt8) (r : Nm) (c : UInt8) : hasPrefix (x :: r) [c] = (x == c) := by
 by_cases e : x = c
 · subst e; simp [hasPrefix, List.isPrefixOf]
 · have h1 : (x == c) = false := by simpa using e
   have h2 : (c == x) = false := by simpa using Ne.symm e
   simp [hasPrefix, List.isPrefixOf, h1, h2]
theorem refs_calls (k : Nm) (w : World) : Calls Tryz.prog 65 #[.string ⟨⟨k⟩⟩] w fun e w' => e = .returned (.bool (refsB k)) ∧ w = w' := by
 have H1 := Hd (hasPre_one k 76)
 have H2 := Hd (hasPre_one k 91)
 have h : refsB k = (hasPrefix k [76] || hasPrefix k [91]) := by
   cases k with
   | nil => rfl
   | cons c r => rw [hasPre_cons, hasPre_cons]; rfl
 rw [h]
 clear h
 generalize hasPrefix k [76] = p at *
 generalize hasPrefix k [91] = q at *
 cases p with
 | true =>
   go_enter Tryz.func65, Tryz.ntmps65
   go_wp2_with fail
   refine (H1.out _).mono ?_
   rintro e w1 ⟨rfl, rfl⟩
   go_wp2_with fail
   go_ret
   exact ⟨rfl, rfl⟩
 | false =>
   go_enter Tryz.func65, Tryz.ntmps65
   go_wp2_with fail
   refine (H1.out _).mono ?_
   rintro e w1 ⟨rfl, rfl⟩
   go_wp2_with fail
   refine (H2.out _).mono ?_
   rintro e w1 ⟨rfl, rfl⟩
   go_wp2_with fail
   go_ret
   exact ⟨rfl, rfl⟩
theorem thing_calls (x : Nm) (hx : x.length ≤ 1048576) (w : World) : Calls Tryz.prog 119 #[.string ⟨⟨x⟩⟩] w fun e w' => e = .returned (.string ⟨⟨thing x⟩⟩) ∧ w = w' := by
 unfold thing
 go_enter Tryz.func119, Tryz.ntmps119
 go_wp2_with fail
 go_ret
 exact ⟨by simp, rfl⟩
theorem base_lead (b : Bse) : ∀ c r, b.text = c :: r → c ≠ 91 := by
 intro c r h
 obtain ⟨c', r', h', h1, _⟩ := base_head b
 rw [h'] at h
 cases h
 exact h1
def TrimAt (t X : Nm) : Prop := ∀ w, Calls Tryz.prog 104 #[.string ⟨⟨t⟩⟩, .string ⟨#[91]⟩] w fun e w' => e = .returned (.string ⟨⟨X⟩⟩) ∧ w = w'
theorem class_num (t : Nm) (c : UInt8) (hc : numB [c] = true) (h : TrimAt t [c]) (w : World) : Calls Tryz.prog 118 #[.string ⟨⟨t⟩⟩] w fun e w' => e = .returned (.string ⟨⟨[]⟩⟩) ∧ w = w' := by
 have HT := Hd h
 have HN := Hd (fun w => number_calls [c] w)
 rw [hc] at HN
 clear h hc
 go_enter Tryz.func118, Tryz.ntmps118
 go_wp2_with fail
 refine (HT.out _).mono ?_
 rintro e w1 ⟨rfl, rfl⟩
 go_wp2_with fail
 refine (HN.out _).mono ?_
 rintro e w1 ⟨rfl, rfl⟩
 go_wp2_with fail
 go_ret
 exact ⟨rfl, rfl⟩
theorem class_thing (t n : Nm) (hn : n.length ≤ 1048576) (h : TrimAt t (thing n)) (w : World) : Calls Tryz.prog 118 #[.string ⟨⟨t⟩⟩] w fun e w' => e = .returned (.string ⟨⟨n⟩⟩) ∧ w = w' := by
 have HT := Hd h
 have HN := Hd (fun w => number_calls (thing n) w)
 have hc : numB (thing n) = false := by simp [numB, thing]
 rw [hc] at HN
 have hl : (thing n).length = n.length + 2 := by simp [thing]
 clear h hc
 go_enter Tryz.func118, Tryz.ntmps118
 go_wp2_with fail
 refine (HT.out _).mono ?_
 rintro e w1 ⟨rfl, rfl⟩
 go_wp2_with fail
 refine (HN.out _).mono ?_
 rintro e w1 ⟨rfl, rfl⟩
 go_wp2_with fail
 go_ret
 refine ⟨?_, rfl⟩
 rw [show List.take (n.length + 2 - 1 - 1) (thing n).tail = n by simp [thing]]
 rfl
theorem class_calls (d : Nat) (b : Bse) (hb : b.cl.length ≤ 1048576) (w : World) : Calls Tryz.prog 118 #[.string ⟨⟨(Kd.ty d b).text⟩⟩] w fun e w' => e = .returned (.string ⟨⟨b.cl⟩⟩) ∧ w = w' := by
 have HT : TrimAt (Kd.ty d b).text b.text := fun w => trimLeft_lead (List.replicate d 91) b.text (fun x hx => (List.mem_replicate.1 hx).2) (base_lead b) w
 cases b with
 | int => exact class_num _ 73 rfl HT w
 | long => exact class_num _ 74 rfl HT w
 | cls n => exact class_thing _ n hb HT w
theorem kind_none' {L : List ClassR} {d : Nat} {n : Nm} (hd : d ≤ 3) (hn : nameOk n = true) (hl : (look L n).isSome = false) : kindErr L (Kd.ty d (.cls n)).text = 3 := kind_none hd hn (by simpa using hl)
theorem kind_calls (l : List ClassR) (L : List CP) (b : Nat) (t : Nm) (w : World) (hW : WOk w b l L) (ht : t.length ≤ 8388608) :
   Calls Tryz.prog 72 #[.map (some b), .string ⟨⟨t⟩⟩] w fun e w' => e = .returned (errOf (kindErr (wl l) t)) ∧ Below w.heap.size w w' := by
 have HW := Hd hW
 have HCL := Hd hW.cl
 clear hW
 by_cases h78 : t = [78]
 · subst h78
   rw [kind_nt (Or.inl rfl), errOf_zero]
   go_enter Tryz.func72, Tryz.ntmps72
   go_wp2_with fail
   go_ret
   exact ⟨rfl, Below.refl _ _⟩
 by_cases h84 : t = [84]
 · subst h84
   rw [kind_nt (Or.inr rfl), errOf_zero]
   go_enter Tryz.func72, Tryz.ntmps72
   go_wp2_with fail
   go_ret
   exact ⟨rfl, Below.refl _ _⟩
 have q78 : (t == [78]) = false := by rw [beq_eq_false_iff_ne]; exact h78
 have q84 : (t == [84]) = false := by rw [beq_eq_false_iff_ne]; exact h84
 by_cases hok : TypeOk t
 · have HCK := Hd (fun w => check_ok t hok w)
   clear h78 h84
   obtain ⟨d, x, rfl, hd, hx⟩ := type_kd.1 hok
   cases x with
   | int =>
     have HE := Hd (show kindErr (wl l) (Kd.ty d .int).text = 0 from kind_ok (k := .ty d .int) ⟨hd, trivial⟩)
     have HC := Hd (fun w => class_calls d .int (by simp [Bse.cl]) w)
     rw [HE.out, errOf_zero]
     simp only [Bse.cl] at HC
     generalize (Kd.ty d .int).text = t at *
     go_enter Tryz.func72, Tryz.ntmps72
     go_wp2_with fail
     refine (HCK.out _).mono ?_
     rintro e w1 ⟨rfl, hb1⟩
     have HB1 := Hd hb1
     clear hb1
     go_wp2_with fail
     refine (HC.out _).mono ?_
     rintro e w2 ⟨rfl, rfl⟩
     go_wp2_with fail
     go_ret
     exact ⟨rfl, HB1.out⟩
   | long =>
     have HE := Hd (show kindErr (wl l) (Kd.ty d .long).text = 0 from kind_ok (k := .ty d .long) ⟨hd, trivial⟩)
     have HC := Hd (fun w => class_calls d .long (by simp [Bse.cl]) w)
     rw [HE.out, errOf_zero]
     simp only [Bse.cl] at HC
     generalize (Kd.ty d .long).text = t at *
     go_enter Tryz.func72, Tryz.ntmps72
     go_wp2_with fail
     refine (HCK.out _).mono ?_
     rintro e w1 ⟨rfl, hb1⟩
     have HB1 := Hd hb1
     clear hb1
     go_wp2_with fail
     refine (HC.out _).mono ?_
     rintro e w2 ⟨rfl, rfl⟩
     go_wp2_with fail
     go_ret
     exact ⟨rfl, HB1.out⟩
   | cls n =>
     have hn := hx n rfl
     have hl := name_len hn
     have hml : n.length ≤ maxLen := by unfold maxLen; omega
     have hne : List.isEmpty n = false := by cases n with | nil => simp at hl | cons x r => rfl
     have HC := Hd (fun w => class_calls d (.cls n) (by simp [Bse.cl]; omega) w)
     simp only [Bse.cl] at HC
     cases hs : (look (wl l) n).isSome with
     | false =>
       have HE := Hd (kind_none' hd hn hs)
       rw [HE.out]
       have E3 : errOf 3 = errV 3 := rfl
       rw [E3]
       generalize (Kd.ty d (.cls n)).text = t at *
       clear E3 hx hok
       go_enter Tryz.func72, Tryz.ntmps72
       go_wp2_with fail
       refine (HCK.out _).mono ?_
       rintro e w1 ⟨rfl, hb1⟩
       have HB1 := Hd hb1
       have hlk := cur_look2 (n := n) (HW.out.below hb1).at_ hml
       rw [HCL.out, hs] at hlk
       unfold classV at hlk
       have hs1 := hb1.size
       clear hb1 hs
       go_wp2_with fail
       refine (HC.out _).mono ?_
       rintro e w2 ⟨rfl, rfl⟩
       go_wp2_with fail
       go_ret
       exact ⟨rfl, HB1.out.alloc hs1 _⟩
     | true =>
       have HE := Hd (show kindErr (wl l) (Kd.ty d (.cls n)).text = 0 from kind_ok (k := .ty d (.cls n)) ⟨hd, hn, hs⟩)
       rw [HE.out, errOf_zero]
       generalize (Kd.ty d (.cls n)).text = t at *
       clear hx hok
       go_enter Tryz.func72, Tryz.ntmps72
       go_wp2_with fail
       refine (HCK.out _).mono ?_
       rintro e w1 ⟨rfl, hb1⟩
       have HB1 := Hd hb1
       have hlk := cur_look2 (n := n) (HW.out.below hb1).at_ hml
       rw [HCL.out, hs] at hlk
       unfold classV at hlk
       have hs1 := hb1.size
       clear hb1 hs
       go_wp2_with fail
       refine (HC.out _).mono ?_
       rintro e w2 ⟨rfl, rfl⟩
       go_wp2_with fail
       go_ret
       exact ⟨rfl, HB1.out.alloc hs1 _⟩
 · have HCK := Hd (fun w => check_bad t hok (by omega) w)
   rw [kind_bad (by rintro (e | e) <;> contradiction) hok]
   clear h78 h84
   have E1 : errOf 1 = errV 1 := rfl
   rw [E1]
   clear hok E1
   go_enter Tryz.func72, Tryz.ntmps72
   go_wp2_with fail
   refine (HCK.out _).mono ?_
   rintro e w1 ⟨rfl, hb1⟩
   have HB1 := Hd hb1
   clear hb1
   go_wp2_with fail
   go_ret
   exact ⟨rfl, HB1.out⟩
noncomputable def doesX (L : List ClassR) (s t : Nm) : Bool := doesK L (kd L s) (kd L t)
def popF (f : FrR) : Option (Nm × FrR) := f.st.getLast?.map fun k => (k, ⟨f.loc, f.st.dropLast⟩)
def putF (f : FrR) (k : Nm) : Option FrR := if f.st.length < 8 then some ⟨f.loc, f.st ++ [k]⟩ else none
noncomputable def takeF (L : List ClassR) : List Nm → FrR → Option FrR
 | [], f => some f
 | t :: r, f => if kindErr L t ≠ 0 then none else (popF f).elim none fun p => if doesX L p.1 t = true then takeF L r p.2 else none
def refF (f : FrR) : Option (Nm × FrR) := (popF f).elim none fun p => if (p.1 == [78]) || refsB p.1 then some p else none
noncomputable def arrF (L : List ClassR) (t : Nm) (f : FrR) : Option FrR :=
 if kindErr L t ≠ 0 then none else (takeF L [[73]] f).elim none fun g => (refF g).elim none fun p =>
   if (p.1 == [78]) || ((p.1.head? == some 91) && doesX L p.1.tail t && (refsB p.1.tail == refsB t)) then some p.2 else none
noncomputable def fldF (L : List ClassR) (c n : Nm) : Option Nm :=
 if kindErr L (thing c) ≠ 0 then none else (fieldOf L c n).elim none fun p => if kindErr L p.2.ty ≠ 0 then none else some p.2.ty
theorem popF_nil {f : FrR} (h : f.st = []) : popF f = none := by unfold popF; rw [h]; rfl
theorem popF_snoc {f : FrR} {A : List Nm} {k : Nm} (h : f.st = A ++ [k]) : popF f = some (k, ⟨f.loc, A⟩) := by unfold popF; rw [h]; simp
theorem pop_cases (f : FrR) : f.st = [] ∨ ∃ A k, f.st = A ++ [k] := by
 rcases List.eq_nil_or_concat f.st with h | ⟨A, k, h⟩
 · exact Or.inl h
 · exact Or.inr ⟨A, k, by rw [h]; simp⟩
theorem KOk.pop {L : List ClassR} {f g : FrR} {k : Nm} (h : KOk L f) (hp : popF f = some (k, g)) : KOk L g ∧ kindErr L k = 0 ∧ g.loc = f.loc := by
 rcases pop_cases f with h0 | ⟨A, k', h0⟩
 · rw [popF_nil h0] at hp; cases hp
 · rw [popF_snoc h0] at hp
   simp only [Option.some.injEq, Prod.mk.injEq] at hp
   obtain ⟨rfl, rfl⟩ := hp
   have h2 := h.st
   rw [h0] at h2
   refine ⟨⟨h.loc, by simp at h2; show A.length ≤ 8; omega, fun t ht => h.kn t ?_⟩, h.kn _ (by rw [h0]; simp), rfl⟩
   rw [h0]
   rcases List.mem_append.1 ht with ht | ht
   · exact List.mem_append_left _ ht
   · exact List.mem_append_right _ (List.mem_append_left _ ht)
theorem KOk.put {L : List ClassR} {f g : FrR} {k : Nm} (h : KOk L f) (hk : kindErr L k = 0) (hp : putF f k = some g) : KOk L g ∧ g.loc = f.loc := by
 unfold putF at hp
 split at hp
 · simp only [Option.some.injEq] at hp
   subst hp
   refine ⟨⟨h.loc, by simp; omega, fun t ht => ?_⟩, rfl⟩
   simp only [List.mem_append, List.mem_singleton] at ht
   rcases ht with ht | ht | ht
   · exact h.kn t (by simp [ht])
   · exact h.kn t (by simp [ht])
   · rw [ht]; exact hk
 · cases hp
theorem KOk.take {L : List ClassR} : ∀ {ts : List Nm} {f g : FrR}, KOk L f → takeF L ts f = some g → KOk L g ∧ g.loc = f.loc
 | [], f, g, h, hp => by simp only [takeF, Option.some.injEq] at hp; subst hp; exact ⟨h, rfl⟩
 | t :: r, f, g, h, hp => by
   unfold takeF at hp
   split at hp
   · cases hp
   cases hq : popF f with
   | none => rw [hq] at hp; cases hp
   | some p =>
     obtain ⟨k, f2⟩ := p
     rw [hq] at hp
     simp only [Option.elim_some] at hp
     split at hp
     · obtain ⟨h1, _, h2⟩ := h.pop hq
       obtain ⟨h3, h4⟩ := h1.take hp
       exact ⟨h3, h4.trans h2⟩
     · cases hp
def Blk (W : World) (g : Nat) (T : TypeId) (cs : Array Value) : Prop := W.heap[g]? = some (.cells cs T (0, 0))
theorem Blk.lt {W : World} {g : Nat} {T : TypeId} {cs : Array Value} (h : Blk W g T cs) : g < W.heap.size := (Array.getElem?_eq_some_iff.1 h).1
theorem Blk.below {W W' : World} {g : Nat} {T : TypeId} {cs : Array Value} (h : Blk W g T cs) (hb : Below W.heap.size W W') : Blk W' g T cs := (hb.block g h.lt).trans h
theorem Blk.cell {W : World} {g : Nat} {T : TypeId} {cs : Array Value} (h : Blk W g T cs) (j : Nat) : W.cell? ⟨g, j, none⟩ = cs[j]? := by unfold Blk at h; simp [World.cell?, h]
theorem Blk.frozen {W : World} {g : Nat} {T : TypeId} {cs : Array Value} (h : Blk W g T cs) (j : Nat) : W.frozen? ⟨g, j, none⟩ = false := by unfold Blk at h; simp [World.frozen?, h]
theorem blk_new (W : World) (g : Nat) (T : TypeId) (cs : Array Value) (hg : g = W.heap.size) : Blk (W.alloc (.cells cs T)) g T cs := by subst hg; exact (MapKept.heap_alloc W _).1
theorem below_grown {w0 W W2 : World} {B g : Nat} (h : Below B w0 W) (hg : W.grownBy W2 (some g)) (hB : B ≤ g) (hs : B ≤ W.heap.size) : Below B w0 W2 :=
 h.trans ⟨hg.os, hg.tape, hg.output, hg.size, fun k hk => hg.block k (by omega) (by intro e; simp at e; omega)⟩
theorem Blk.other {W W2 : World} {g g' : Nat} {T : TypeId} {cs : Array Value} (h : Blk W g T cs) (hg : W.grownBy W2 (some g')) (hne : g ≠ g') : Blk W2 g T cs := (hg.block g h.lt (by simpa using hne)).trans h
theorem setRow_grown (w : World) (g : Nat) (cs : Array Value) : w.grownBy (w.setRow g cs) (some g) := by
 refine ⟨rfl, rfl, rfl, by simp [World.setRow], fun k hk hne => ?_⟩
 have hk' : g ≠ k := fun e => hne (by rw [e])
 show (w.heap.modify g _)[k]? = _
 rw [Array.getElem?_modify, if_neg hk']
section
variable {P : Program}
theorem wp_store_blk {o : Oper} {a : Act} {w : World} {K : Act → World → Prop} {Q : Exit → Act → World → Prop} {ty : TypeId} {x y : Operand} (ho : o.op = .store ty x y)
   {g : Nat} {cells : Array Value} (hx : a.eval x = .pointer (some ⟨g, 0, none⟩)) (hy : a.eval y = .agg cells) {old : Array Value} (hg : Blk w g ty old) (hi : (P.info? ty).map (·.size) = some cells.size)
   (hold : old.size = cells.size) (h1 : cells.all (·.oneCell') = true) (h : ∀ W2, Blk W2 g ty cells → w.grownBy W2 (some g) → K (a.put o.dst undef) W2) : o.wp P a w K Q :=
 wp_store_row ty x y ho g cells hx hy ty old hg hi hold h1 (h _ (setRow_heap w g old cells ty (0, 0) hg) (setRow_grown w g cells))
theorem wpList_store_blk {ops : Array Oper} {rest : List Oper} {o : Oper} {a : Act} {w : World} {Q : Exit → Act → World → Prop} (hgd : o.guard = none) {ty : TypeId} {x y : Operand} (ho : o.op = .store ty x y)
   {g : Nat} {cells : Array Value} (hx : a.eval x = .pointer (some ⟨g, 0, none⟩)) (hy : a.eval y = .agg cells) {old : Array Value} (hg : Blk w g ty old) (hi : (P.info? ty).map (·.size) = some cells.size)
   (hold : old.size = cells.size) (h1 : cells.all (·.oneCell') = true) (h : ∀ W2, Blk W2 g ty cells → w.grownBy W2 (some g) → wpList P ops Q rest (a.put o.dst undef) W2) : wpList P ops Q (o :: rest) a w :=
 wpList_plain hgd fun _ hK => wp_store_blk ho hx hy hg hi hold h1 (fun W2 h2 h3 => hK _ _ (h W2 h2 h3))
end
theorem wp_tail {P : Program} {id : Nat} {Q : Exit → Act → World → Prop} {a : Act} {w : World} {l : List Oper} (n : Nat) (hm : P.follows .mixedOrders = true) (hB : Region.lexTailB .any l.toArray n = true)
   (h : wpStill P l.toArray w.drew (fun a' => wpList P l.toArray Q (l.drop n) a' w.drew) (l.take n) a) : (Code.region id l.toArray true).wp P Q a w := wp_region_still_tail n hm hB h
theorem Blk.drew {W : World} {g : Nat} {T : TypeId} {cs : Array Value} (h : Blk W g T cs) : Blk W.drew g T cs := h
theorem Blk.alloc {W : World} {g : Nat} {T : TypeId} {cs : Array Value} (h : Blk W g T cs) (o : Obj) : Blk (W.alloc o) g T cs := h.below ((Below.refl _ _).alloc (Nat.le_refl _) o)
theorem Blk.drewN {W : World} {g : Nat} {T : TypeId} {cs : Array Value} (h : Blk W g T cs) (k : Nat) : Blk (W.drewN k) g T cs := h
theorem gb_refl (W : World) (g : Nat) : W.grownBy W (some g) := ⟨rfl, rfl, rfl, Nat.le_refl _, fun _ _ _ => rfl⟩
theorem gb_below {W0 w w' : World} {g : Nat} (h : W0.grownBy w (some g)) (hb : Below w.heap.size w w') : W0.grownBy w' (some g) :=
 ⟨hb.os.trans h.os, hb.tape.trans h.tape, hb.output.trans h.output, Nat.le_trans h.size hb.size, fun k hk hne => (hb.block k (Nat.lt_of_lt_of_le hk h.size)).trans (h.block k hk hne)⟩
theorem gb_alloc {W0 w : World} {g : Nat} (h : W0.grownBy w (some g)) (o : Obj) : W0.grownBy (w.alloc o) (some g) := gb_below h ((Below.refl _ _).alloc (Nat.le_refl _) o)
theorem gb_drew {W0 w : World} {g : Nat} (h : W0.grownBy w (some g)) : W0.grownBy w.drew (some g) := gb_below h ((Below.refl _ _).drew)
theorem gb_grown {W0 w w' : World} {g : Nat} {v : Value} (h : W0.grownBy w (some g)) (hg : w.grownBy w' v.ownBlock) (hv : ∀ k, v.ownBlock = some k → W0.heap.size ≤ k) : W0.grownBy w' (some g) :=
 ⟨hg.os.trans h.os, hg.tape.trans h.tape, hg.output.trans h.output, Nat.le_trans h.size hg.size, fun k hk hne => (hg.block k (Nat.lt_of_lt_of_le hk h.size) (fun e => by have := hv k e.symm; omega)).trans (h.block k hk hne)⟩
theorem gb_set {W0 w : World} {g : Nat} (h : W0.grownBy w (some g)) (j : Nat) (u : Value) : W0.grownBy (w.setCell ⟨g, j, none⟩ u) (some g) :=
 ⟨h.os, h.tape, h.output, by have := h.size; simpa [World.setCell] using this, fun k hk hne => (Below.heap_setCell w ⟨g, j, none⟩ u k (fun e => hne (by rw [e]))).trans (h.block k hk hne)⟩
theorem gb_cell {W0 w : World} {g : Nat} (h : W0.grownBy w (some g)) {a : Addr} (hlt : a.block < W0.heap.size) (hne : a.block ≠ g) : w.cell? a = W0.cell? a := World.cell?_of_block (h.block a.block hlt (by simpa using hne))
theorem gb_srow {W0 w : World} {g : Nat} (h : W0.grownBy w (some g)) {a : Option Addr} {cap : Nat} {A : List Nm} (hr : SRow W0 a cap A) (hne : ∀ ad, a = some ad → ad.block ≠ g) : SRow w a cap A := by
 obtain ⟨h1, h2 | ⟨b, off, rfl, hlt, hc⟩⟩ := hr
 · exact ⟨h1, Or.inl h2⟩
 · exact ⟨h1, Or.inr ⟨b, off, rfl, Nat.lt_of_lt_of_le hlt h.size, fun j x hx => by rw [gb_cell h (a := ⟨b, off + j, none⟩) hlt (hne ⟨b, off, none⟩ rfl)]; exact hc j x hx⟩⟩
theorem gb_to_below {W W0 w : World} {g : Nat} (hb : Below W.heap.size W W0) (h : W0.grownBy w (some g)) (hg : W.heap.size ≤ g) : Below W.heap.size W w :=
 hb.trans ⟨h.os, h.tape, h.output, h.size, fun k hk => h.block k (Nat.lt_of_lt_of_le hk hb.size) (fun e => by simp at e; omega)⟩
theorem blk_grown {W w' : World} {g : Nat} {T : TypeId} {cs : Array Value} {v : Value} (h : Blk W g T cs) (hg : W.grownBy w' v.ownBlock) (hv : v.ownBlock ≠ some g) : Blk w' g T cs := (hg.block g h.lt (fun e => hv e.symm)).trans h
theorem block_set1 {w : World} {K j : Nat} {cs : Array Value} {t : TypeId} {fr : Nat × Nat} (h : w.heap[K]? = some (.cells cs t fr)) (v : Value) : (w.setCell ⟨K, j, none⟩ v).heap[K]? = some (.cells (cs.setIfInBounds j v) t fr) := by
 show (w.heap.modify K _)[K]? = _
 rw [Array.getElem?_modify, if_pos rfl, h]
 rfl
theorem blk_set {W : World} {g : Nat} {T : TypeId} {cs : Array Value} (h : Blk W g T cs) (j : Nat) (u : Value) : Blk (W.setCell ⟨g, j, none⟩ u) g T (cs.setIfInBounds j u) := block_set1 h u
theorem own_set {w : World} {B : Nat} {e : TypeId} {size : Nat} {v : Value} {n : Nat} {xs : List Value} (h : w.ownsRow B e size v n xs) {g j : Nat} (hne : v.ownBlock ≠ some g) (u : Value) : (w.setCell ⟨g, j, none⟩ u).ownsRow B e size v n xs :=
 h.kept (row := some g) (gb_set (gb_refl w g) j u) (Or.inr hne)
theorem zip_take {f : Nm → Nm → Nm} : ∀ {A B : List Nm} {k : Nat} {x y : Nm}, A[k]? = some x → B[k]? = some y → (List.zipWith f A B).take (k + 1) = (List.zipWith f A B).take k ++ [f x y]
 | [], B, k, x, y, h, _ => by simp at h
 | a :: A, [], k, x, y, _, h => by simp at h
 | a :: A, b :: B, 0, x, y, h, h' => by
   simp at h h'; subst h; subst h'
   simp
 | a :: A, b :: B, k + 1, x, y, h, h' => by
   have ih := zip_take (f := f) (A := A) (B := B) (k := k) (x := x) (y := y) (by simpa using h) (by simpa using h')
   simp only [List.zipWith_cons_cons, List.take_succ_cons, List.cons_append, ih]
theorem one_src (W : World) (cs : List Value) (t : TypeId) (size g : Nat) (hg : g = W.heap.size) (hl : cs.length = size) (h1 : ∀ u ∈ cs, u.oneCell' = true) : SrcRow (W.alloc (.cells cs.toArray t)) size (.slice (some ⟨g, 0, none⟩) 1 1) 1 cs := by
 subst hg
 exact ⟨by omega, h1, Or.inr ⟨_, 1, rfl, fun j u hj => new_cells W cs t j u hj⟩⟩
theorem one_drew {W : World} {cs : List Value} {size g : Nat} (h : SrcRow W size (.slice (some ⟨g, 0, none⟩) 1 1) 1 cs) : SrcRow W.drew size (.slice (some ⟨g, 0, none⟩) 1 1) 1 cs := h
theorem gb_blk {W0 w : World} {g j : Nat} {T : TypeId} {cs : Array Value} (h : W0.grownBy w (some g)) (hb : Blk W0 j T cs) (hne : j ≠ g) : Blk w j T cs := (h.block j hb.lt (by simpa using hne)).trans hb
theorem gb_trans {a b c : World} {g : Nat} (h : a.grownBy b (some g)) (k : b.grownBy c (some g)) : a.grownBy c (some g) :=
 ⟨k.os.trans h.os, k.tape.trans h.tape, k.output.trans h.output, Nat.le_trans h.size k.size, fun i hi hne => (k.block i (Nat.lt_of_lt_of_le hi h.size) hne).trans (h.block i hi hne)⟩
open Go.Sort
theorem rev_own (A : List Nm) (B : Nat) (g cap : Nat) (w0 w : World) (hb : Below B w0 w) (hg : B ≤ g) (h : w.ownsRow B 9 1 (.slice (some ⟨g, 0, none⟩) A.length cap) A.length (A.map strV)) (hl : A.length ≤ 1000000) :
   Calls Tryz.prog 208 #[.slice (some ⟨g, 0, none⟩) A.length cap] w fun e w' => e = .returned (.tuple #[]) ∧ Below B w0 w' ∧ w'.ownsRow B 9 1 (.slice (some ⟨g, 0, none⟩) A.length cap) A.length (A.reverse.map strV) ∧ Below g w w' := by
 obtain ⟨g', cap', hv, _, hlt, hle, _, hzl, hH⟩ := holds_of_ownsRow (enc := encStr) (zs := A) h (by simp)
 simp only [Value.slice.injEq, Option.some.injEq, Addr.mk.injEq] at hv
 obtain ⟨⟨rfl, _, _⟩, _, rfl⟩ := hv
 refine (Tryz.slices_Reverse_string g 0 cap A w hH (by omega)).mono ?_
 rintro e w' ⟨rfl, n, rfl⟩
 refine ⟨rfl, below_putRow (enc := encStr) (q := n) hb hg, ?_, below_putRow (enc := encStr) (q := n) (Below.refl _ _) (Nat.le_refl _)⟩
 have h2 := ownsRow_putRow (enc := encStr) (q := n) (k := A.length) (ys := A.reverse) h (by simp) (Nat.le_refl _)
 rw [List.take_of_length_le (by simp)] at h2
 exact h2
theorem own_down {w : World} {B B' : Nat} {e : TypeId} {size : Nat} {v : Value} {n : Nat} {xs : List Value} (h : w.ownsRow B e size v n xs) (hB : B' ≤ B) : w.ownsRow B' e size v n xs := by
 refine ⟨h.1, ?_⟩
 rcases h.2 with h1 | ⟨g, cap, cur, h1, h2, h3⟩
 · exact Or.inl h1
 · exact Or.inr ⟨g, cap, cur, h1, Nat.le_trans hB h2, h3⟩
end Go.Proofs.YtddbnboicmaooaaGreatDoor
