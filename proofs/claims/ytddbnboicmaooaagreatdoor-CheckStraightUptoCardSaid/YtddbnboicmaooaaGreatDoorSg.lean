import Derived.Test.YtddbnboicmaooaaGreatDoorSf
namespace Go.Proofs.YtddbnboicmaooaaGreatDoor
set_option maxRecDepth 100000
set_option maxHeartbeats 16000000
set_option linter.unusedVariables false
set_option linter.unusedSimpArgs false
open Go.RowKit Go.Shelf Go.Lib Go.Sort
theorem ins_parts {x : InsR} (h : insErr x = 0) : rangedB x = true ∧ typedB x = true ∧ ((needL x.op.toNat).contains 67 = true → nameOk x.cl = true) := by
 unfold insErr at h
 split at h
 · omega
 split at h
 · omega
 split at h
 · omega
 split at h
 · omega
 · rename_i h3 h4
   simp only [Bool.or_eq_true, Bool.and_eq_true, Bool.not_eq_true', not_or, not_and] at h4
   refine ⟨by simpa using h3, by simpa using h4.1.1, fun h => by simpa using h4.1.2 h⟩
theorem arr_kind2 {L : List ClassR} {k : Nm} (h : TypeOk (91 :: k)) (hk : kindErr L k = 0) : kindErr L (91 :: k) = 0 := by
 obtain ⟨d, b, e, hd, hn⟩ := type_kd.1 h
 cases d with
 | zero =>
   cases b with
   | int => simp [Kd.text, Bse.text] at e
   | long => simp [Kd.text, Bse.text] at e
   | cls m => simp [Kd.text, Bse.text] at e
 | succ d =>
   rw [arr_one] at e
   simp only [List.cons.injEq, true_and] at e
   obtain ⟨q, hq, e2⟩ := kind_zero.1 hk
   rw [e] at e2
   have := text_inj e2
   subst this
   rw [e, ← arr_one]
   exact kind_ok (k := .ty (d + 1) b) ⟨by omega, hq.2⟩
def GvOk (gv : Nm) : Prop := gv = [86] ∨ TypeOk gv
theorem plain_all (l : List ClassR) (L : List CP) (b c : Nat) (fr gv : Nm) (f : FrR) (x : InsR) (w0 w : World) (hW : WOk w0 b l L) (hb : Below w0.heap.size w0 w) (hs : Stp (wl l) w w0.heap.size c b fr gv f) (hi : insErr x = 0) (hg : GvOk gv) :
   Calls Tryz.prog 93 #[.pointer (some ⟨c, 0, none⟩), insV x] w (StRes (wl l) (plainF (wl l) gv x f) w0.heap.size c b fr gv w0) := by
 obtain ⟨hr, ht, _⟩ := ins_parts hi
 obtain ⟨op, ia, ib, ty, cl, nm⟩ := x
 unfold insV
 by_cases h2 : op = 2
 · subst h2
   exact plain_2 l L b c fr gv f ia ib ty cl nm w0 w hW hb hs (by simpa [typedB] using ht)
 by_cases h3 : op = 3
 · subst h3
   exact plain_3 l L b c fr gv f ia ib ty cl nm w0 w hW hb hs
 by_cases h4 : op = 4
 · subst h4
   have : 0 ≤ ia ∧ ia < 8 := by simpa [rangedB] using hr
   obtain ⟨m, rfl⟩ : ∃ m : Nat, ia = m := ⟨ia.toNat, by omega⟩
   exact plain_4 l L b c fr gv f ib ty cl nm w0 w hW hb hs m
 by_cases h5 : op = 5
 · subst h5
   have : 0 ≤ ia ∧ ia < 8 := by simpa [rangedB] using hr
   obtain ⟨m, rfl⟩ : ∃ m : Nat, ia = m := ⟨ia.toNat, by omega⟩
   exact plain_5 l L b c fr gv f ib ty cl nm w0 w hW hb hs m
 by_cases h6 : op = 6
 · subst h6
   exact plain_6 l L b c fr gv f ia ib ty cl nm w0 w hW hb hs
 by_cases h7 : op = 7
 · subst h7
   exact plain_7 l L b c fr gv f ia ib ty cl nm w0 w hW hb hs
 by_cases h8 : op = 8
 · subst h8
   exact plain_8 l L b c fr gv f ia ib ty cl nm w0 w hW hb hs
 by_cases h9 : op = 9
 · subst h9
   have hn : numB ty = true := by simpa [typedB] using ht
   by_cases a12 : ia = 12
   · subst a12
     exact plain_9_12 l L b c fr gv f ib ty cl nm w0 w hW hb hs hn
   by_cases a9 : ia = 9
   · subst a9
     exact plain_9_9 l L b c fr gv f ib ty cl nm w0 w hW hb hs hn
   by_cases a10 : ia = 10
   · subst a10
     exact plain_9_10 l L b c fr gv f ib ty cl nm w0 w hW hb hs hn
   by_cases a11 : ia = 11
   · subst a11
     exact plain_9_11 l L b c fr gv f ib ty cl nm w0 w hW hb hs hn
   exact plain_9_x l L b c fr gv f ia ib ty cl nm w0 w hW hb hs hn a9 a10 a11 a12
 by_cases h10 : op = 10
 · subst h10
   exact plain_10 l L b c fr gv f ia ib ty cl nm w0 w hW hb hs (by simpa [typedB] using ht)
 by_cases h11 : op = 11
 · subst h11
   exact plain_11 l L b c fr gv f ia ib ty cl nm w0 w hW hb hs
 by_cases h12 : op = 12
 · subst h12
   exact plain_12 l L b c fr gv f ia ib ty cl nm w0 w hW hb hs
 by_cases h13 : op = 13
 · subst h13
   exact plain_13 l L b c fr gv f ia ib ty cl nm w0 w hW hb hs
 by_cases h26 : op = 26
 · subst h26
   by_cases hv : gv = [86]
   · subst hv
     exact plain_26_v l L b c fr f ia ib ty cl nm w0 w hW hb hs
   · exact plain_26_x l L b c fr gv f ia ib ty cl nm w0 w hW hb hs hv
 by_cases h27 : op = 27
 · subst h27
   by_cases hv : gv = [86]
   · subst hv
     exact plain_27_v l L b c fr f ia ib ty cl nm w0 w hW hb hs
   · exact plain_27_x l L b c fr gv f ia ib ty cl nm w0 w hW hb hs hv (by
       rcases hg with h | h
       · exact absurd h hv
       · have := type_len25 h; omega)
 by_cases h28 : op = 28
 · subst h28
   exact plain_28 l L b c fr gv f ia ib ty cl nm w0 w hW hb hs
 exact plain_skip l L b c fr gv f op ia ib ty cl nm w0 w hW hb hs h2 h3 h4 h5 h6 h7 h8 h9 h10 h11 h12 h13 h26 h27 h28
theorem heap_all (l : List ClassR) (L : List CP) (b c : Nat) (fr gv : Nm) (f : FrR) (x : InsR) (w0 w : World) (hW : WOk w0 b l L) (hb : Below w0.heap.size w0 w) (hs : Stp (wl l) w w0.heap.size c b fr gv f) (hi : insErr x = 0) (hfr : fr.length ≤ 1048576) (hty : x.ty.length ≤ 1048576) :
   Calls Tryz.prog 94 #[.pointer (some ⟨c, 0, none⟩), insV x] w (StRes (wl l) (heapF (wl l) fr x f) w0.heap.size c b fr gv w0) := by
 obtain ⟨_, ht, hn⟩ := ins_parts hi
 obtain ⟨op, ia, ib, ty, cl, nm⟩ := x
 unfold insV
 dsimp only at hn hty
 have hl : ty.length ≤ 8388607 := by omega
 by_cases h15 : op = 15
 · subst h15
   exact heap_15 l L b c fr gv f ia ib ty cl nm w0 w hW hb hs (name_len (hn (by decide))).2
 by_cases h16 : op = 16
 · subst h16
   exact heap_16 l L b c fr gv f ia ib ty cl nm w0 w hW hb hs (name_len (hn (by decide))).2
 by_cases h17 : op = 17
 · subst h17
   exact heap_17 l L b c fr gv f ia ib ty cl nm w0 w hW hb hs (name_len (hn (by decide))).2
 by_cases h18 : op = 18
 · subst h18
   have : TypeOk ty ∧ TypeOk (91 :: ty) := by simpa [typedB] using ht
   exact heap_18 l L b c fr gv f ia ib ty cl nm w0 w hW hb hs hl (arr_kind2 this.2)
 by_cases h19 : op = 19
 · subst h19
   exact heap_19 l L b c fr gv f ia ib ty cl nm w0 w hW hb hs
 by_cases h20 : op = 20
 · subst h20
   exact heap_20 l L b c fr gv f ia ib ty cl nm w0 w hW hb hs hl
 by_cases h21 : op = 21
 · subst h21
   exact heap_21 l L b c fr gv f ia ib ty cl nm w0 w hW hb hs hl
 by_cases h22 : op = 22
 · subst h22
   exact heap_22 l L b c fr gv f ia ib ty cl nm w0 w hW hb hs hl
 by_cases h23 : op = 23
 · subst h23
   exact heap_23 l L b c fr gv f ia ib ty cl nm w0 w hW hb hs hl
 by_cases h24 : op = 24
 · subst h24
   exact heap_24 l L b c fr gv f ia ib ty cl nm w0 w hW hb hs (name_len (hn (by decide))).2 hfr hty (by simpa [typedB] using ht)
 by_cases h25 : op = 25
 · subst h25
   exact heap_25 l L b c fr gv f ia ib ty cl nm w0 w hW hb hs (name_len (hn (by decide))).2 hfr hty (by simpa [typedB] using ht)
 exact heap_skip l L b c fr gv f op ia ib ty cl nm w0 w hW hb hs h15 h16 h17 h18 h19 h20 h21 h22 h23 h24 h25
noncomputable def afterF (L : List ClassR) (fr gv : Nm) (x : InsR) (f : FrR) : Option FrR := (plainF L gv x f).elim none fun g => heapF L fr x g
theorem catch_idle (p q : Addr) (w : World) :
   CallsD Tryz.prog 91 #[.pointer (some p), .pointer (some q)] .returning w fun e u' w' => e = .returned (.tuple #[]) ∧ u' = .returning ∧ w' = w := by
 refine callsD_of_wpS Tryz.func91 rfl fun c₀ cs hu => ?_
 apply wpS_seq
 apply wpS_region
 simp [wpOpsS, go_sem, recoverD, hu, Tryz.ntmps91, Exit.thenS]
 refine wpS_of_wp ?_
 simp only [show (15 : Nat) = 14 + 1 from rfl, Array.replicate, List.replicate, List.setIfInBounds_toArray, List.set_cons_zero, List.set_cons_succ, List.append_toArray, List.cons_append, List.nil_append]
 go_wp2_with fail
 cases c₀
 simp_all [bodyPostS, results, Tryz.results91]
theorem catch_pan (g h : Nat) (w : World) (hg : Blk w g 67 #[.slice none 0 0, .slice none 0 0]) (hh : Blk w h 4 #[.bool false]) :
   CallsD Tryz.prog 91 #[.pointer (some ⟨g, 0, none⟩), .pointer (some ⟨h, 0, none⟩)] (.panicking unfitP) w fun e u' w' =>
     e = .returned (.tuple #[]) ∧ u' = .panicking [{ v := .iface 166 (.agg #[]), recovered := true }] ∧ w' = (((w.setCell ⟨g, 0, none⟩ (.slice none 0 0)).setCell ⟨g, 1, none⟩ (.slice none 0 0)).setCell ⟨h, 0, none⟩ (.bool false)).alloc (.cells #[] 166) := by
 have hta : ∀ w, (Instr.typeAssert (.iface 166 (.agg #[])) 20 166 true).run Tryz.prog w = .ok (.tuple #[.agg #[], .bool true]) w := fun _ => by kernel_rfl
 have hz := hg.alloc (.cells #[] 166)
 have hy := hh.alloc (.cells #[] 166)
 have z0 := hg.cell 0
 have z1 := hg.cell 1
 have z2 := hg.frozen 0
 have z3 := hg.frozen 1
 have z4 := hg.lt
 have y0 := hh.cell 0
 have y1 := hh.frozen 0
 have y2 := hh.lt
 have hne : h ≠ g := by
   intro e
   subst e
   have := hg.symm.trans hh
   simp at this
 unfold unfitP
 refine callsD_of_wpS Tryz.func91 rfl fun c₀ cs hu => ?_
 apply wpS_seq
 apply wpS_region
 simp [wpOpsS, go_sem, recoverD, hu, Tryz.ntmps91, Exit.thenS]
 refine wpS_of_wp ?_
 simp only [show (15 : Nat) = 14 + 1 from rfl, Array.replicate, List.replicate, List.setIfInBounds_toArray, List.set_cons_zero, List.set_cons_succ, List.append_toArray, List.cons_append, List.nil_append]
 go_wp2_with fail
 simp [bodyPostS, results, Tryz.results91]
theorem sclone_calls (A : List Nm) (a : Option Addr) (cap : Nat) (w : World) (h : SRow w a cap A) (hl : A.length ≤ 1000) :
   Calls Tryz.prog 92 #[.slice a A.length cap] w fun e w' => (∃ q : Option Addr × Nat, e = .returned (.slice q.1 A.length q.2) ∧ w'.ownsRow w.heap.size 9 1 (.slice q.1 A.length q.2) A.length (A.map strV)) ∧ Below w.heap.size w w' := by
 have fin : ∀ {e : Ending} {w' : World} {v' : Value}, e = .returned v' → w'.ownsRow w.heap.size 9 1 v' A.length (A.map strV) → Below w.heap.size w w' → (∃ q : Option Addr × Nat, e = .returned (.slice q.1 A.length q.2) ∧ w'.ownsRow w.heap.size 9 1 (.slice q.1 A.length q.2) A.length (A.map strV)) ∧ Below w.heap.size w w' := fun {e w' v'} he ho hb => by
   obtain ⟨a2, c2, rfl, _⟩ := slice_of_own ho
   exact ⟨⟨(a2, c2), he, ho⟩, hb⟩
 obtain ⟨hle, h2 | ⟨b, off, rfl, hlt, hc⟩⟩ := h
 · subst h2
   cases a with
   | none =>
     refine (Tryz.slices_Clone_string_nil 0 cap w).mono ?_
     rintro e w' ⟨he, rfl⟩
     exact fin he ⟨rfl, Or.inl ⟨rfl, rfl⟩⟩ (Below.refl _ _)
   | some ad =>
     refine (Tryz.slices_Clone_string_zero ad cap w).mono ?_
     rintro e w' ⟨v', he, ho, _, hb⟩
     exact fin he ho hb
 · refine (Tryz.slices_Clone_string b off A.length cap (A.map fun t => ⟨⟨t⟩⟩) w (by simp) (by omega) (fun j hj => by
     have hj' : j < A.length := by simpa using hj
     have := hc j A[j] (List.getElem?_eq_getElem hj')
     rw [this]
     simp [strV, List.getD_eq_getElem?_getD, hj'])).mono ?_
   rintro e w' ⟨v', he, ho, _, hb⟩
   refine fin he ?_ hb
   rw [List.take_of_length_le (by simp), List.map_map] at ho
   exact ho
theorem oel {α β : Type} {o : Option α} {F : α → Option β} {g : β} (h : o.elim none F = some g) : ∃ p, o = some p ∧ F p = some g := by
 cases o with
 | none => cases h
 | some p => exact ⟨p, rfl, h⟩
def Keep (f g : FrR) : Prop := g.loc = f.loc ∧ (f.st.length ≤ 8 → g.st.length ≤ 8)
theorem Keep.refl (f : FrR) : Keep f f := ⟨rfl, fun h => h⟩
theorem Keep.trans {f g h : FrR} (a : Keep f g) (b : Keep g h) : Keep f h := ⟨b.1.trans a.1, fun x => b.2 (a.2 x)⟩
end Go.Proofs.YtddbnboicmaooaaGreatDoor
