/-
  Desk: the deferred literal of line.
  Desk: the contracts of Cut, SplitN, Split at lines.
  Desk: line.
-/
import Derived.Test.YtfimajijegohmaaGreatDoorDb
import Derived.Defers
import Derived.Recover
import Derived.Lib.IfaceEq
import Derived.Test.YtfimajijegohmaaGreatDoorDa
namespace Go.Proofs.YtfimajijegohmaaGreatDoor
set_option linter.unusedVariables false
set_option linter.unusedSimpArgs false
open Go.RowKit Go.Shelf Go.Lib

theorem dcatch_idle (p : Addr) (w : World) :
    CallsD Tryz.prog 124 #[.pointer (some p)] .returning w fun e u' w' => e = .returned (.tuple #[]) ∧ u' = .returning ∧ w' = w := by
  refine callsD_of_wpS Tryz.func124 rfl fun c₀ cs hu => ?_
  apply wpS_seq
  apply wpS_region
  simp [wpOpsS, go_sem, recoverD, hu, Tryz.ntmps124, Exit.thenS]
  refine wpS_of_wp ?_
  simp only [show (17 : Nat) = 16 + 1 from rfl, Array.replicate, List.replicate, List.setIfInBounds_toArray, List.set_cons_zero, List.set_cons_succ, List.append_toArray, List.cons_append, List.nil_append]
  go_wp2_with fail
  cases c₀
  simp_all [bodyPostS, results, Tryz.results124]
set_option maxRecDepth 100000 in
set_option maxHeartbeats 2000000 in
theorem dcatch_err (r : Nat) (z : Int) (s : Value) (w : World) (hr : Blk w r 9 #[s]) :
    CallsD Tryz.prog 124 #[.pointer (some ⟨r, 0, none⟩)] (.panicking (errP z)) w fun e u' w' =>
      e = .returned (.tuple #[]) ∧ u' = .panicking [{ v := errV z, recovered := true }] ∧ ∃ w1, Below w.heap.size w w1 ∧ w' = w1.setCell ⟨r, 0, none⟩ (.string ⟨⟨errT z⟩⟩) := by
  have hta : ∀ w, (Instr.typeAssert (.iface 55 (.int .i64 z)) 20 55 true).run Tryz.prog w = .ok (.tuple #[.int .i64 z, .bool true]) w := fun _ => by kernel_rfl
  have HR := Lib.hid hr
  have HER := Lib.hid (fun W => error_calls z W)
  clear hr
  unfold errP
  refine callsD_of_wpS Tryz.func124 rfl fun c₀ cs hu => ?_
  apply wpS_seq
  apply wpS_region
  simp [wpOpsS, go_sem, recoverD, hu, Tryz.ntmps124, Exit.thenS]
  refine wpS_of_wp ?_
  simp only [show (17 : Nat) = 16 + 1 from rfl, Array.replicate, List.replicate, List.setIfInBounds_toArray, List.set_cons_zero, List.set_cons_succ, List.append_toArray, List.cons_append, List.nil_append]
  go_wp2_with fail
  refine (HER.out _).mono ?_
  rintro e w1 ⟨rfl, hb1⟩
  have HB1 := Lib.hid hb1
  have r0 := (HR.out.below hb1).cell 0
  have r1 := (HR.out.below hb1).frozen 0
  have r2 := (HR.out.below hb1).lt
  clear hb1
  go_wp2_with fail
  simp [bodyPostS, results, Tryz.results124]
  exact ⟨w1, HB1.out, rfl⟩
end Go.Proofs.YtfimajijegohmaaGreatDoor
namespace Go.Proofs.YtfimajijegohmaaGreatDoor
set_option linter.unusedVariables false
set_option linter.unusedSimpArgs false
open Go.RowKit Go.Shelf Go.Lib

/-- the datum of internal/bytealg that the program reads -/
def MaxAt (W : World) : Prop := ∃ m, W.cell? ⟨1, 0, none⟩ = some (.int .i64 m) ∧ 1 < W.heap.size
theorem MaxAt.below {W W' : World} (h : MaxAt W) (hb : Below W.heap.size W W') : MaxAt W' := by
  obtain ⟨m, h1, h2⟩ := h
  exact ⟨m, (hb.cell (p := ⟨1, 0, none⟩) h2).trans h1, Nat.lt_of_lt_of_le h2 hb.size⟩
theorem cut_line (x r : Nm) (w : World) (hx : ∀ b ∈ x, b ≠ 32) (hm : MaxAt w) (hs : (x ++ 32 :: r).length < 4294967281) :
    Calls Tryz.prog 125 #[.string ⟨⟨x ++ 32 :: r⟩⟩, .string ⟨#[32]⟩] w fun e w' => e = .returned (.tuple #[.string ⟨⟨x⟩⟩, .string ⟨⟨r⟩⟩, .bool true]) ∧ ∃ n, w' = w.drewN n := by
  obtain ⟨m, h1, _⟩ := hm
  have h := Tryz.strings_Cut ⟨⟨x ++ 32 :: r⟩⟩ ⟨#[32]⟩ m w hs h1
  have e1 : Lib.cut (⟨⟨x ++ 32 :: r⟩⟩ : ByteArray).data.toList (⟨#[32]⟩ : ByteArray).data.toList = (x, r, true) := cut_seg 32 x r hx
  rw [e1] at h
  exact h
theorem gen_split (A : List Nm) (y : Nm) (w : World) (hA : ∀ x ∈ A, ∀ b ∈ x, b ≠ 32) (hy : ∀ b ∈ y, b ≠ 32) (hm : MaxAt w) (hs : (ends 32 A ++ y).length < 4294967281) :
    Calls Tryz.prog 123 #[.string ⟨⟨ends 32 A ++ y⟩⟩, .string ⟨#[32]⟩, .int .i64 0, .int .i64 (-1)] w fun e w' =>
      e = .returned (.slice (some ⟨w.heap.size, 0, none⟩) (A.length + 1) (A.length + 1)) ∧ w' = w.alloc (.cells (((A ++ [y]).map fun x => Value.string ⟨⟨x⟩⟩).toArray) 9) := by
  obtain ⟨m, h1, _⟩ := hm
  have hc := count_ends 32 y hy A hA
  have hl : A.length ≤ (ends 32 A ++ y).length := by
    have : ∀ A : List Nm, A.length ≤ (ends 32 A).length := by
      intro A
      induction A with
      | nil => simp
      | cons x A ih =>
        have := ends_cons 32 x A []
        simp only [List.append_nil] at this
        rw [this]
        simp
        omega
    rw [List.length_append]
    exact Nat.le_trans (this A) (by omega)
  have h := Tryz.strings_genSplit ⟨⟨ends 32 A ++ y⟩⟩ ⟨#[32]⟩ 0 (-1) (A.length + 1) m w hs h1 (by decide) (by decide) (by decide) (by decide) (by
    rw [hc]
    show ((A.length + 1 : Nat) : Int) = min (if (-1 : Int) < 0 then ((A.length : Nat) : Int) + 1 else -1) (((ends 32 A ++ y).length : Nat) + 1)
    rw [if_pos (by decide)]
    omega)
  have e1 : Lib.splitB ⟨#[32]⟩ 0 (A.length + 1 - 1) ⟨⟨ends 32 A ++ y⟩⟩ = (A ++ [y]).map fun x => ⟨⟨x⟩⟩ := split_ends 32 y hy A hA
  rw [e1] at h
  refine h.mono ?_
  rintro e w' ⟨rfl, rfl⟩
  refine ⟨by simp, ?_⟩
  unfold Lib.cellsOf
  simp [List.map_map]
  rfl
theorem splitN_line (A : List Nm) (y : Nm) (w : World) (hA : ∀ x ∈ A, ∀ b ∈ x, b ≠ 32) (hy : ∀ b ∈ y, b ≠ 32) (hm : MaxAt w) (hs : (ends 32 A ++ y).length < 4294967281) :
    Calls Tryz.prog 127 #[.string ⟨⟨ends 32 A ++ y⟩⟩, .string ⟨#[32]⟩, .int .i64 (-1)] w fun e w' =>
      e = .returned (.slice (some ⟨w.heap.size, 0, none⟩) (A.length + 1) (A.length + 1)) ∧ w' = w.alloc (.cells (((A ++ [y]).map fun x => Value.string ⟨⟨x⟩⟩).toArray) 9) := by
  have HG := Lib.hid (gen_split A y w hA hy hm hs)
  go_enter Tryz.func127, Tryz.ntmps127
  go_wp2_with (first
    | (go_at_call 123
       refine HG.out.mono ?_
       rintro e w1 ⟨rfl, rfl⟩))
  go_ret
  exact ⟨rfl, by simp⟩
theorem split_text (A : List Nm) (y : Nm) (w : World) (hA : ∀ x ∈ A, ∀ b ∈ x, b ≠ 10) (hy : ∀ b ∈ y, b ≠ 10) (hm : MaxAt w) (hs : (ends 10 A ++ y).length < 4294967281) :
    Calls Tryz.prog 60 #[.string ⟨⟨ends 10 A ++ y⟩⟩, .string ⟨#[10]⟩] w fun e w' =>
      e = .returned (.slice (some ⟨w.heap.size, 0, none⟩) (A.length + 1) (A.length + 1)) ∧ w' = w.alloc (.cells (((A ++ [y]).map fun x => Value.string ⟨⟨x⟩⟩).toArray) 9) := by
  obtain ⟨m, h1, _⟩ := hm
  have h := Tryz.strings_Split ⟨⟨ends 10 A ++ y⟩⟩ ⟨#[10]⟩ m w hs h1 (by decide)
  have hc : Lib.countB ⟨⟨ends 10 A ++ y⟩⟩ ⟨#[10]⟩ = A.length := count_ends 10 y hy A hA
  rw [hc, show Lib.splitB ⟨#[10]⟩ 0 A.length ⟨⟨ends 10 A ++ y⟩⟩ = (A ++ [y]).map fun x => ⟨⟨x⟩⟩ from split_ends 10 y hy A hA] at h
  refine h.mono ?_
  rintro e w' ⟨rfl, rfl⟩
  refine ⟨rfl, ?_⟩
  simp [List.map_map]
  rfl
end Go.Proofs.YtfimajijegohmaaGreatDoor
namespace Go.Proofs.YtfimajijegohmaaGreatDoor
set_option linter.unusedVariables false
set_option linter.unusedSimpArgs false
open Go.RowKit Go.Shelf Go.Lib

theorem gb_high {W0 w : World} {g k : Nat} (h : W0.grownBy w (some g)) (hk : W0.heap.size ≤ k) (j : Nat) (u : Value) : W0.grownBy (w.setCell ⟨k, j, none⟩ u) (some g) :=
  ⟨h.os, h.tape, h.output, by have := h.size; simpa [World.setCell] using this, fun i hi hne => (Below.heap_setCell w ⟨k, j, none⟩ u i (Nat.ne_of_lt (Nat.lt_of_lt_of_le hi hk))).trans (h.block i hi hne)⟩
theorem info_form : (Tryz.prog.info? 213).map (·.size) = some 2 := by kernel_rfl

set_option maxRecDepth 100000 in
set_option maxHeartbeats 8000000 in
theorem line_ok (head x y t : Nm) (f D : Nat) (w : World) (R : World → Prop) (hf : formsF head = some (formV 3 f)) (hh : ∀ b ∈ head, b ≠ 32) (hx : ∀ b ∈ x, b ≠ 32) (hy : ∀ b ∈ y, b ≠ 32) (hl : head.length ≤ 5) (hxl : x.length ≤ 1048576) (hyl : y.length ≤ 1048576) (hm : MaxAt w) (hDl : D < w.heap.size) (hcf : ∀ args w, (callFunc f args).run Tryz.prog w = .ok (.enter f args) w) (hR : ∀ W r v u, Blk W r 9 #[v] → R W → R (W.setCell ⟨r, 0, none⟩ u))
    (hc : ∀ g W, Below w.heap.size w W → WordsAt W g x y → Calls Tryz.prog f #[.pointer (some ⟨D, 0, none⟩), .slice (some ⟨g, 1, none⟩) 2 2] W fun e w' => e = .returned (.string ⟨⟨t⟩⟩) ∧ W.grownBy w' (some D) ∧ R w') :
    Calls Tryz.prog 62 #[.pointer (some ⟨D, 0, none⟩), .string ⟨⟨head ++ 32 :: (x ++ 32 :: y)⟩⟩] w fun e w' => e = .returned (.string ⟨⟨t⟩⟩) ∧ w.grownBy w' (some D) ∧ R w' := by
  have hmf : ∀ (fn : Fn) (first cap : Array Value) (w : World), (Instr.makeFunc fn first cap).run Tryz.prog w = .ok (.func fn first cap) w := fun _ _ _ _ => rfl
  have HM := Lib.hid hm
  have hlen : (head ++ 32 :: (x ++ 32 :: y)).length < 4294967281 := by simp; omega
  have HCU := Lib.hid (fun W (hW : Below w.heap.size w W) => cut_line head (x ++ 32 :: y) W hh (HM.out.below hW) hlen)
  have he : ends 32 [head, x] ++ y = head ++ 32 :: (x ++ 32 :: y) := by simp [ends]
  have HSP := Lib.hid (fun W (hW : Below w.heap.size w W) => by
    have h := splitN_line [head, x] y W (by
      intro z hz
      simp only [List.mem_cons, List.not_mem_nil, or_false] at hz
      rcases hz with rfl | rfl
      · exact hh
      · exact hx) hy (HM.out.below hW) (by rw [he]; exact hlen)
    rw [he] at h
    exact h)
  have HC := Lib.hid hc
  have HF := Lib.hid hf
  have HRS := Lib.hid hR
  clear hm hc hf hlen he hR
  obtain ⟨s, hs⟩ : ∃ s, s = head ++ 32 :: (x ++ 32 :: y) := ⟨_, rfl⟩
  rw [← hs] at HCU HSP ⊢
  clear hs
  obtain ⟨w1, hw1⟩ : ∃ w1, w1 = w.alloc (.cells #[.string ⟨#[]⟩] 9) := ⟨_, rfl⟩
  have HB1 := Lib.hid (show Below w.heap.size w w1 by rw [hw1]; exact bl_alloc (Below.refl _ _) _)
  have HA1 := Lib.hid (show Blk w1 w.heap.size 9 #[.string ⟨#[]⟩] by rw [hw1]; exact blk_new _ _ _ _ rfl)
  go_enter_defers Tryz.func62, Tryz.ntmps62
  go_upto_region 2 with fail
  rw [← hw1]
  clear hw1
  go_upto_region 3 with ((first
    | (go_at_call 125
       refine (HCU.out _ HB1.out).mono ?_
       rintro e w2' ⟨rfl, n2, rfl⟩
       obtain ⟨w2, hw2⟩ : ∃ w2, w2 = w1.drewN n2 := ⟨_, rfl⟩
       have HB2 := Lib.hid (show Below w.heap.size w w2 by rw [hw2]; exact below_drewN HB1.out n2)
       have HA2 := Lib.hid (show Blk w2 w.heap.size 9 #[.string ⟨#[]⟩] by rw [hw2]; exact HA1.out.drewN n2)
       rw [← hw2]
       clear hw2)))
  have HLK := Lib.hid (fun (W' : World) (b n : Nat) (h : SMap W' b n formsF) => show (Instr.lookup 215 (.map (some b)) (.string ⟨⟨head⟩⟩) true).run Tryz.prog W' = .ok (.tuple #[formV 3 f, .bool true]) W' from
    SMap.look_some (P := Tryz.prog) (k := 9) (e := 213) Tryz.underlying9 Tryz.underlying215 h (by unfold maxLen; omega) HF.out true)
  unfold formV at HLK
  go_upto_region 4 with ((first
    | (go_at_call 126
       refine (forms_calls _).mono ?_
       rintro e w3 ⟨b3, n3, rfl, hs3, hb3⟩
       have hl3 := HLK.out w3 b3 n3 hs3
       have HB3 := Lib.hid (bl_trans HB2.out hb3)
       have HA3 := Lib.hid (HA2.out.below hb3)
       clear hs3 hb3)
    | (refine wpList_store_blk (x := .tmp 8) (y := .tmp 22) (ty := 213) (g := w3.heap.size) (cells := #[.int .i64 3, .func (.func f) #[] #[]]) (by rfl) (by rfl) (by rfl) (by rfl) (blk_new _ _ _ _ rfl) info_form rfl (by simp [Value.oneCell']) ?_
       intro w4 hf4 hg4
       have HB4 := Lib.hid (below_grown (bl_alloc HB3.out _) hg4 HB3.out.size (by simp; exact Nat.le_succ_of_le HB3.out.size))
       have HA4 := Lib.hid (gb_blk hg4 (HA3.out.alloc _) (Nat.ne_of_lt HA3.out.lt))
       have HF4 := Lib.hid hf4
       clear hf4 hg4)))
  obtain ⟨G, hG⟩ : ∃ G, G = w3.heap.size := ⟨_, rfl⟩
  have HGL := Lib.hid (show w.heap.size < G by rw [hG]; exact HA3.out.lt)
  rw [← hG] at HF4 ⊢
  clear hG hl3
  have f0 := HF4.out.cell 0
  have f1 := HF4.out.cell 1
  have f2 := HF4.out.lt
  clear HLK HCU
  go_upto_region 5 with ((first
    | (go_at_call 127
       refine (HSP.out _ (by first | exact HB4.out | exact HB4.out.drew)).mono ?_
       rintro e w5 ⟨rfl, hw5⟩
       have hb5 : Below w4.heap.size w4 w5 := by rw [hw5]; first | exact bl_alloc (Below.refl _ _) _ | exact bl_alloc (Below.refl _ _).drew _
       have HB5 := Lib.hid (bl_trans HB4.out hb5)
       have HA5 := Lib.hid (HA4.out.below hb5)
       have HF5 := Lib.hid (HF4.out.below hb5)
       have HW5 := Lib.hid (show Blk w5 w4.heap.size 9 #[.string ⟨⟨head⟩⟩, .string ⟨⟨x⟩⟩, .string ⟨⟨y⟩⟩] by rw [hw5]; exact blk_new _ _ _ _ rfl)
       clear hw5 hb5
       rw [show [head, x].length + 1 = 3 from rfl])))
  clear f0 f1 f2
  have f0 := HF5.out.cell 0
  have f1 := HF5.out.cell 1
  have f2 := HF5.out.lt
  go_upto_region 7 with fail
  have HWD := Lib.hid (show WordsAt w5 w4.heap.size x y from ⟨HW5.out.lt, HW5.out.cell 1, HW5.out.cell 2⟩)
  have HSC := Lib.hid (fun W' (hw : Below w5.heap.size w5 W') => (HF5.out.below hw).cell 1)
  clear f0 f1
  go_region_held3 (fun W' => W'.cell? ⟨G, 1, none⟩ = some (.func (.func f) #[] #[]))
    (first | with_reducible exact hs7 _ | with_reducible exact hs6 | exact HSC.out _ (Below.refl _ _) | exact HSC.out _ (Below.refl _ _).drew)
    ((first
    | (refine (HC.out w4.heap.size _ (by first | exact HB5.out | exact HB5.out.drew) (by first | exact HWD.out | exact HWD.out.below (Below.refl _ _).drew)).mono ?_
       rintro e w6 ⟨rfl, hg6', hR6⟩
       have hg6 : w5.grownBy w6 (some D) := by first | exact hg6' | exact gb_trans (gb_drew (gb_refl w5 D)) hg6'
       have hs6 : w6.cell? ⟨G, 1, none⟩ = some (.func (.func f) #[] #[]) := (gb_cell hg6 (a := ⟨G, 1, none⟩) HF5.out.lt (Nat.ne_of_gt (Nat.lt_trans hDl HGL.out))).trans (HF5.out.cell 1)
       have HG6 := Lib.hid hg6
       have HR6 := Lib.hid hR6
       have ha6 := gb_blk hg6 HA5.out (Nat.ne_of_gt hDl)
       have HA6 := Lib.hid ha6
       have hs7 : ∀ u, (w6.setCell ⟨w.heap.size, 0, none⟩ u).cell? ⟨G, 1, none⟩ = some (.func (.func f) #[] #[]) := fun u => (World.cell?_of_block (Below.heap_setCell w6 ⟨w.heap.size, 0, none⟩ u G (Nat.ne_of_gt HGL.out))).trans hs6
       have a0 := ha6.cell 0
       have a1 := ha6.frozen 0
       have a2 := ha6.lt
       clear hg6' hg6 hR6 ha6)))
  have HS7 := Lib.hid (blk_set HA6.out 0 (.string ⟨⟨t⟩⟩))
  have HG7 := Lib.hid (show w.grownBy (w6.setCell ⟨w.heap.size, 0, none⟩ (.string ⟨⟨t⟩⟩)) (some D) from gb_high (gb_trans (gb_below (gb_refl w D) HB5.out) HG6.out) (Nat.le_refl _) _ _)
  have HR7 := Lib.hid (HRS.out w6 w.heap.size _ (.string ⟨⟨t⟩⟩) HA6.out HR6.out)
  obtain ⟨w7, hw7⟩ : ∃ w7, w7 = w6.setCell ⟨w.heap.size, 0, none⟩ (.string ⟨⟨t⟩⟩) := ⟨_, rfl⟩
  rw [← hw7] at HS7 HG7 HR7 ⊢
  clear a0 a1 a2 hw7 hs6 hs7 f2
  have a0 := HS7.out.cell 0
  have a2 := HS7.out.lt
  go_wp2_with fail
  refine leaves_cons (f := 124) (args := #[.pointer (some ⟨w.heap.size, 0, none⟩)]) (by simp) (by simp [go_sem]) ?_
  refine (dcatch_idle _ _).mono ?_
  rintro e u' w9 ⟨rfl, rfl, rfl⟩
  simp [Leaves, settle, results, Tryz.results62, go_sem, a0, a2]
  exact ⟨HG7.out, HR7.out⟩
--@ERR
/-- a region's end that is a panic with an error, in a function that defers -/
def PanL (z : Int) (D q : Nat) (ds : List Deferred) (R : World → Prop) (w : World) : Exit → Act → World → Prop := fun e a w' => e = .panic (errP z) ∧ a.defers = ds ∧ a.tmps[4]? = some (.pointer (some ⟨q, 0, none⟩)) ∧ w.grownBy w' (some D) ∧ R w'
theorem panl_put {z : Int} {D q : Nat} {ds : List Deferred} {R : World → Prop} {w w' : World} {e : Exit} {a : Act} {k : Tmp} {v : Value} (hk : k ≠ 4) (h : PanL z D q ds R w e (a.put (some k) v) w') : PanL z D q ds R w e a w' := by
  obtain ⟨h1, h2, h3, h4, h5⟩ := h
  refine ⟨h1, h2, ?_, h4, h5⟩
  simp only [Act.put, Array.getElem?_setIfInBounds] at h3
  rwa [if_neg hk] at h3
set_option maxRecDepth 100000 in
set_option maxHeartbeats 8000000 in
theorem line_err (head x y : Nm) (z : Int) (f D : Nat) (w : World) (R : World → Prop) (hf : formsF head = some (formV 3 f)) (hh : ∀ b ∈ head, b ≠ 32) (hx : ∀ b ∈ x, b ≠ 32) (hy : ∀ b ∈ y, b ≠ 32) (hl : head.length ≤ 5) (hxl : x.length ≤ 1048576) (hyl : y.length ≤ 1048576) (hm : MaxAt w) (hDl : D < w.heap.size) (hcf : ∀ args w, (callFunc f args).run Tryz.prog w = .ok (.enter f args) w) (hR0 : ∀ W W', Below W.heap.size W W' → R W → R W') (hR : ∀ W r v u, Blk W r 9 #[v] → R W → R (W.setCell ⟨r, 0, none⟩ u))
    (hc : ∀ g W, Below w.heap.size w W → WordsAt W g x y → Calls Tryz.prog f #[.pointer (some ⟨D, 0, none⟩), .slice (some ⟨g, 1, none⟩) 2 2] W fun e w' => e = .panicked (errP z) ∧ W.grownBy w' (some D) ∧ R w') :
    Calls Tryz.prog 62 #[.pointer (some ⟨D, 0, none⟩), .string ⟨⟨head ++ 32 :: (x ++ 32 :: y)⟩⟩] w fun e w' => e = .returned (.string ⟨⟨errT z⟩⟩) ∧ w.grownBy w' (some D) ∧ R w' := by
  have hmf : ∀ (fn : Fn) (first cap : Array Value) (w : World), (Instr.makeFunc fn first cap).run Tryz.prog w = .ok (.func fn first cap) w := fun _ _ _ _ => rfl
  have HM := Lib.hid hm
  have hlen : (head ++ 32 :: (x ++ 32 :: y)).length < 4294967281 := by simp; omega
  have HCU := Lib.hid (fun W (hW : Below w.heap.size w W) => cut_line head (x ++ 32 :: y) W hh (HM.out.below hW) hlen)
  have he : ends 32 [head, x] ++ y = head ++ 32 :: (x ++ 32 :: y) := by simp [ends]
  have HSP := Lib.hid (fun W (hW : Below w.heap.size w W) => by
    have h := splitN_line [head, x] y W (by
      intro z hz
      simp only [List.mem_cons, List.not_mem_nil, or_false] at hz
      rcases hz with rfl | rfl
      · exact hh
      · exact hx) hy (HM.out.below hW) (by rw [he]; exact hlen)
    rw [he] at h
    exact h)
  have HC := Lib.hid hc
  have HF := Lib.hid hf
  have HRS := Lib.hid hR
  have HRB := Lib.hid hR0
  clear hm hc hf hlen he hR hR0
  obtain ⟨s, hs⟩ : ∃ s, s = head ++ 32 :: (x ++ 32 :: y) := ⟨_, rfl⟩
  rw [← hs] at HCU HSP ⊢
  clear hs
  obtain ⟨w1, hw1⟩ : ∃ w1, w1 = w.alloc (.cells #[.string ⟨#[]⟩] 9) := ⟨_, rfl⟩
  have HB1 := Lib.hid (show Below w.heap.size w w1 by rw [hw1]; exact bl_alloc (Below.refl _ _) _)
  have HA1 := Lib.hid (show Blk w1 w.heap.size 9 #[.string ⟨#[]⟩] by rw [hw1]; exact blk_new _ _ _ _ rfl)
  go_enter_defers Tryz.func62, Tryz.ntmps62
  go_upto_region 2 with fail
  rw [← hw1]
  clear hw1
  go_upto_region 3 with ((first
    | (go_at_call 125
       refine (HCU.out _ HB1.out).mono ?_
       rintro e w2' ⟨rfl, n2, rfl⟩
       obtain ⟨w2, hw2⟩ : ∃ w2, w2 = w1.drewN n2 := ⟨_, rfl⟩
       have HB2 := Lib.hid (show Below w.heap.size w w2 by rw [hw2]; exact below_drewN HB1.out n2)
       have HA2 := Lib.hid (show Blk w2 w.heap.size 9 #[.string ⟨#[]⟩] by rw [hw2]; exact HA1.out.drewN n2)
       rw [← hw2]
       clear hw2)))
  have HLK := Lib.hid (fun (W' : World) (b n : Nat) (h : SMap W' b n formsF) => show (Instr.lookup 215 (.map (some b)) (.string ⟨⟨head⟩⟩) true).run Tryz.prog W' = .ok (.tuple #[formV 3 f, .bool true]) W' from
    SMap.look_some (P := Tryz.prog) (k := 9) (e := 213) Tryz.underlying9 Tryz.underlying215 h (by unfold maxLen; omega) HF.out true)
  unfold formV at HLK
  go_upto_region 4 with ((first
    | (go_at_call 126
       refine (forms_calls _).mono ?_
       rintro e w3 ⟨b3, n3, rfl, hs3, hb3⟩
       have hl3 := HLK.out w3 b3 n3 hs3
       have HB3 := Lib.hid (bl_trans HB2.out hb3)
       have HA3 := Lib.hid (HA2.out.below hb3)
       clear hs3 hb3)
    | (refine wpList_store_blk (x := .tmp 8) (y := .tmp 22) (ty := 213) (g := w3.heap.size) (cells := #[.int .i64 3, .func (.func f) #[] #[]]) (by rfl) (by rfl) (by rfl) (by rfl) (blk_new _ _ _ _ rfl) info_form rfl (by simp [Value.oneCell']) ?_
       intro w4 hf4 hg4
       have HB4 := Lib.hid (below_grown (bl_alloc HB3.out _) hg4 HB3.out.size (by simp; exact Nat.le_succ_of_le HB3.out.size))
       have HA4 := Lib.hid (gb_blk hg4 (HA3.out.alloc _) (Nat.ne_of_lt HA3.out.lt))
       have HF4 := Lib.hid hf4
       clear hf4 hg4)))
  obtain ⟨G, hG⟩ : ∃ G, G = w3.heap.size := ⟨_, rfl⟩
  have HGL := Lib.hid (show w.heap.size < G by rw [hG]; exact HA3.out.lt)
  rw [← hG] at HF4 ⊢
  clear hG hl3
  have f0 := HF4.out.cell 0
  have f1 := HF4.out.cell 1
  have f2 := HF4.out.lt
  clear HLK HCU
  go_upto_region 5 with ((first
    | (go_at_call 127
       refine (HSP.out _ (by first | exact HB4.out | exact HB4.out.drew)).mono ?_
       rintro e w5 ⟨rfl, hw5⟩
       have hb5 : Below w4.heap.size w4 w5 := by rw [hw5]; first | exact bl_alloc (Below.refl _ _) _ | exact bl_alloc (Below.refl _ _).drew _
       have HB5 := Lib.hid (bl_trans HB4.out hb5)
       have HA5 := Lib.hid (HA4.out.below hb5)
       have HF5 := Lib.hid (HF4.out.below hb5)
       have HW5 := Lib.hid (show Blk w5 w4.heap.size 9 #[.string ⟨⟨head⟩⟩, .string ⟨⟨x⟩⟩, .string ⟨⟨y⟩⟩] by rw [hw5]; exact blk_new _ _ _ _ rfl)
       clear hw5 hb5
       rw [show [head, x].length + 1 = 3 from rfl])))
  clear f0 f1 f2
  have f0 := HF5.out.cell 0
  have f1 := HF5.out.cell 1
  have f2 := HF5.out.lt
  go_upto_region 7 with fail
  have HWD := Lib.hid (show WordsAt w5 w4.heap.size x y from ⟨HW5.out.lt, HW5.out.cell 1, HW5.out.cell 2⟩)
  have HSC := Lib.hid (fun W' (hw : Below w5.heap.size w5 W') => (HF5.out.below hw).cell 1)
  clear f0 f1
  refine Code.wp_mono (Q := PanL z D w.heap.size [{ target := .fn (.func 124) #[.pointer (some ⟨w.heap.size, 0, none⟩)], args := #[] }] R w5) ?_ ?_
  · rintro e ⟨tm6, df6⟩ w6 ⟨rfl, hd6, ht6, hg6, hR6⟩
    dsimp only at hd6 ht6
    subst hd6
    have HG6 := Lib.hid hg6
    have HR6 := Lib.hid hR6
    have HA6 := Lib.hid (gb_blk hg6 HA5.out (Nat.ne_of_gt hDl))
    clear hg6 hR6
    simp only [Exit.then, bodyPostD]
    refine leaves_cons (f := 124) (args := #[.pointer (some ⟨w.heap.size, 0, none⟩)]) (by simp) (by simp [go_sem]) ?_
    refine (dcatch_err w.heap.size z _ w6 HA6.out).mono ?_
    rintro e u' w9 ⟨rfl, rfl, w8, hb8, rfl⟩
    have HS7 := Lib.hid (blk_set (HA6.out.below hb8) 0 (.string ⟨⟨errT z⟩⟩))
    have HG7 := Lib.hid (show w.grownBy (w8.setCell ⟨w.heap.size, 0, none⟩ (.string ⟨⟨errT z⟩⟩)) (some D) from gb_high (gb_below (gb_trans (gb_below (gb_refl w D) HB5.out) HG6.out) hb8) (Nat.le_refl _) _ _)
    have HR7 := Lib.hid (HRS.out w8 w.heap.size _ (.string ⟨⟨errT z⟩⟩) (HA6.out.below hb8) (HRB.out _ _ hb8 HR6.out))
    have a0 := HS7.out.cell 0
    have a2 := HS7.out.lt
    simp [Leaves, settle, results, Tryz.results62, go_sem, a0, a2, ht6]
    exact ⟨HG7.out, HR7.out⟩
  refine wp_region_held_drew (S := fun W' => W'.cell? ⟨G, 1, none⟩ = some (.func (.func f) #[] #[])) (by kernel_rfl) ?_ (fun hHeld => ?_)
  · exact HSC.out _ (Below.refl _ _).drew
  refine wpAnyH_take (i := 0) (oi := { dst := some 44, op := Op.fieldAddr 213 (Operand.tmp 8) 1, type := 0, pos := "desk.go:110", after := #[], guard := none }) (v := ?_) rfl (by kernel_rfl) (by kernel_rfl) (by kernel_rfl) (fun _ _ _ h => panl_put (by decide) h) (Or.inl ⟨by rfl, ?_⟩) (by assumption) ?_
  rotate_left
  · (intro w hSw; (try dsimp only at hSw); go_simp; try with_reducible rfl)
  try simp only [Act.put, List.setIfInBounds_toArray, List.set_cons_zero, List.set_cons_succ]
  refine wpAnyH_take (i := 1) (oi := { dst := some 45, op := Op.load 211 (Operand.tmp 44), type := 211, pos := "desk.go:110", after := #[{ on := 0, ground := Ground.data }], guard := none }) (v := ?_) rfl (by kernel_rfl) (by kernel_rfl) (by kernel_rfl) (fun _ _ _ h => panl_put (by decide) h) (Or.inl ⟨by rfl, ?_⟩) (by assumption) ?_
  rotate_left
  · (intro w hSw; (try dsimp only at hSw); go_simp; try with_reducible rfl)
  try simp only [Act.put, List.setIfInBounds_toArray, List.set_cons_zero, List.set_cons_succ]
  refine wpAnyH_take (i := 2) (oi := { dst := some 46, op := Op.move (Operand.tmp 0), type := 133, pos := "desk.go:110", after := #[], guard := none }) (v := ?_) rfl (by kernel_rfl) (by kernel_rfl) (by kernel_rfl) (fun _ _ _ h => panl_put (by decide) h) (Or.inl ⟨by rfl, ?_⟩) (by assumption) ?_
  rotate_left
  · (intro w hSw; (try dsimp only at hSw); go_simp; try with_reducible rfl)
  try simp only [Act.put, List.setIfInBounds_toArray, List.set_cons_zero, List.set_cons_succ]
  refine wpAnyH_take (i := 3) (oi := { dst := some 47, op := Op.move (Operand.tmp 10), type := 27, pos := "desk.go:110", after := #[], guard := none }) (v := ?_) rfl (by kernel_rfl) (by kernel_rfl) (by kernel_rfl) (fun _ _ _ h => panl_put (by decide) h) (Or.inl ⟨by rfl, ?_⟩) (by assumption) ?_
  rotate_left
  · (intro w hSw; (try dsimp only at hSw); go_simp; try with_reducible rfl)
  try simp only [Act.put, List.setIfInBounds_toArray, List.set_cons_zero, List.set_cons_succ]
  refine wpAnyH_take (i := 4) (oi := { dst := some 48, op := Op.slice 27 (Operand.tmp 47) (some (Operand.const (Value.int IntKind.i64 1))) none none, type := 27, pos := "desk.go:110", after := #[{ on := 3, ground := Ground.data }], guard := none }) (v := ?_) rfl (by kernel_rfl) (by kernel_rfl) (by kernel_rfl) (fun _ _ _ h => panl_put (by decide) h) (Or.inl ⟨by rfl, ?_⟩) (by assumption) ?_
  rotate_left
  · (intro w hSw; (try dsimp only at hSw); go_simp; try with_reducible rfl)
  try simp only [Act.put, List.setIfInBounds_toArray, List.set_cons_zero, List.set_cons_succ]
  refine wpAnyH_ready (rs := [5]) (by kernel_rfl) (by simp) ?_
  refine AllReadyH.cons (o := { dst := some 49, op := Op.call { callee := Callee.value (Operand.tmp 45), args := #[Operand.tmp 46, Operand.tmp 48], argTypes := #[133, 27] }, type := 9, pos := "desk.go:110", after := #[{ on := 1, ground := Ground.data }, { on := 2, ground := Ground.data }, { on := 4, ground := Ground.data }], guard := none }) rfl (fun K hK => ?_) AllReadyH.nil
  go_simp
  go_wp2_with ((refine (HC.out w4.heap.size _ (by first | exact HB5.out | exact HB5.out.drew) (by first | exact HWD.out | exact HWD.out.below (Below.refl _ _).drew)).mono ?_; rintro e w6 ⟨rfl, hg6', hR6⟩; have hg6 : w5.grownBy w6 (some D) := by first | exact hg6' | exact gb_trans (gb_drew (gb_refl w5 D)) hg6'))
  exact ⟨rfl, rfl, rfl, hg6, hR6⟩
end Go.Proofs.YtfimajijegohmaaGreatDoor
