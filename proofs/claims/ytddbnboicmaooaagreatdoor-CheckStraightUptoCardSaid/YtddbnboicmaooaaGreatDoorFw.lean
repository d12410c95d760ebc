import Derived.Test.YtddbnboicmaooaaGreatDoorFlowCheck
namespace Go.Proofs.YtddbnboicmaooaaGreatDoor
set_option maxRecDepth 100000
set_option maxHeartbeats 16000000
set_option linter.unusedVariables false
set_option linter.unusedSimpArgs false
open Go.RowKit
theorem rowInt : RowT Tryz.prog 22 3 1 8 := RowT.mk' (z := .int .i64 0) Tryz.underlying22 (by kernel_rfl) rfl (by decide)
open Go.Shelf Go.Lib
abbrev intV (n : Nat) : Value := .int .i64 n
theorem intV_one (L : List Nat) : ∀ u ∈ L.map intV, u.oneCell' = true := by
 intro u hu
 obtain ⟨n, _, rfl⟩ := List.mem_map.1 hu
 rfl
theorem box_kept {w : World} (x : InsR) {ys : Array Value} {w2 : World} (hg : ((w.alloc (.cells #[.int .i64 x.op, .int .i64 x.a, .int .i64 x.b, .string ⟨⟨x.ty⟩⟩, .string ⟨⟨x.cl⟩⟩, .string ⟨⟨x.nm⟩⟩] 40)).alloc (.cells ys 3)).grownBy w2 (Value.slice none 0 0).ownBlock) :
   w2.cell? ⟨w.heap.size, 0, none⟩ = some (.int .i64 x.op) ∧ w2.cell? ⟨w.heap.size, 1, none⟩ = some (.int .i64 x.a) ∧ Below w.heap.size w w2 := by
 have hb : Below w.heap.size w w2 := (((Below.refl w.heap.size w).alloc (Nat.le_refl _) _).alloc (by simp) _).grown hg (by simp; omega) (by intro k hk; simp [Value.ownBlock] at hk)
 have hc : ∀ j : Nat, w2.cell? ⟨w.heap.size, j, none⟩ = (#[.int .i64 x.op, .int .i64 x.a, .int .i64 x.b, .string ⟨⟨x.ty⟩⟩, .string ⟨⟨x.cl⟩⟩, .string ⟨⟨x.nm⟩⟩] : Array Value)[j]? := by
   intro j
   have h1 := hg.block w.heap.size (by simp; omega) (by simp [Value.ownBlock])
   rw [World.cell?_of_block (a := ⟨w.heap.size, j, none⟩) h1, World.cell?_alloc_lt _ _ ⟨w.heap.size, j, none⟩ (by simp), World.cell?_alloc_new]
 exact ⟨by rw [hc]; rfl, by rw [hc]; rfl, hb⟩
def AftRes (l : List InsR) (i : Nat) (w : World) (e : Ending) (w' : World) : Prop :=
 ∃ v, e = .returned v ∧ w'.ownsRow w.heap.size 3 1 v (aft l i).length ((aft l i).map intV) ∧ Below w.heap.size w w'
theorem after_calls (l : List InsR) (a : Option Addr) (cap : Nat) (i : Nat) (w : World) (hC : CodeAt w a cap l) (hl : FlowOk l) (hi : i < l.length) :
   Calls Tryz.prog 140 #[.slice a l.length cap, .int .i64 i] w fun e w' => AftRes l i w e w' := by
 obtain ⟨x, hx⟩ : ∃ x, l[i]? = some x := ⟨_, List.getElem?_eq_getElem hi⟩
 obtain ⟨b, off, rfl, hlt, c0, c1, c2, c3, c4, c5⟩ := hC.cells hx
 have hlen := hl.len
 have hins := hl.ins x (List.mem_of_getElem? hx)
 have haft : aft l i = (if endsB x.op then [] else [i + 1]) ++ (if jumpsB x.op && (x.op == 14 || x.a != ((i : Int) + 1)) then [x.a.toNat] else []) := by unfold aft; rw [hx]
 generalize hA : aft l i = A at haft
 have HA := Hd hA
 have HE := Hd (fun w => ends_calls x.op w)
 have HJ := Hd (fun w => jumps_same x.op w)
 unfold AftRes
 rw [hA]
 cases he : endsB x.op with
 | true =>
   cases hj : jumpsB x.op with
   | false =>
     rw [he] at HE
     rw [hj] at HJ
     have h0 : A = [] := by rw [haft, he, hj]; rfl
     have H0 := Hd h0
     clear haft he hj h0 hx hins hA
     go_enter Tryz.func140, Tryz.ntmps140
     go_wp2_with fail
     refine (HE.out _).mono ?_
     rintro e w1 ⟨rfl, rfl⟩
     go_wp2_with fail
     refine (HJ.out _).mono ?_
     rintro e w1 ⟨rfl, rfl⟩
     go_wp2_with fail
     go_ret
     exact ⟨_, rfl, by rw [H0.out]; exact World.ownsRow_nil _ _ _ _, (Below.refl _ _).alloc (Nat.le_refl _) _⟩
   | true =>
     have h14 : x.op = 14 := by
       simp only [endsB, jumpsB, Bool.or_eq_true, Bool.and_eq_true, beq_iff_eq, decide_eq_true_eq] at he hj
       omega
     have hr := jumps_ranged hins hj
     obtain ⟨t, ht⟩ : ∃ t : Nat, x.a = t := ⟨x.a.toNat, by omega⟩
     rw [he] at HE
     rw [hj] at HJ
     have h0 : A = [t] := by rw [haft, he, hj, h14, ht]; rfl
     have H0 := Hd h0
     rw [ht] at c1
     rw [h14] at c0 HE HJ
     clear haft he hj h0 hx hins hA hr h14 ht
     go_enter Tryz.func140, Tryz.ntmps140
     go_wp2_with fail
     refine (HE.out _).mono ?_
     rintro e w1 ⟨rfl, rfl⟩
     go_wp2_with fail
     refine (HJ.out _).mono ?_
     rintro e w1 ⟨rfl, rfl⟩
     go_wp2_with (at_builtin; refine wpList_append_one rowInt rfl _ _ rfl w.heap.size _ 0 [] rfl ?c0 [intV t] rfl ?c1 _ rfl ?cg ?c2 ?c3 ?c4 ?_)
     case cg => simp
     case c0 => exact World.ownsRow_nil _ _ _ _
     case c1 => exact intV_one [t]
     case c2 => omega
     case c3 => omega
     case c4 => simp
     intro v1 w2 ho1 hg1
     have hb2 := grown_below (B := w.heap.size) (by simp) (World.ownsRow_nil (w.alloc (.cells #[.int .i64 14, .int .i64 t, .int .i64 x.b, .string ⟨⟨x.ty⟩⟩, .string ⟨⟨x.cl⟩⟩, .string ⟨⟨x.nm⟩⟩] 40)) w.heap.size 3 1) hg1
     have HO := Hd ho1
     have HB := Hd (((Below.refl w.heap.size w).alloc (Nat.le_refl _) _).trans hb2)
     clear ho1 hg1 hb2
     go_wp2_with fail
     go_ret
     exact ⟨_, rfl, by rw [H0.out]; exact HO.out, HB.out⟩
 | false =>
   rw [he] at HE
   cases hj : jumpsB x.op with
   | false =>
     rw [hj] at HJ
     have h0 : A = [i + 1] := by rw [haft, he, hj]; rfl
     have H0 := Hd h0
     clear haft he hj h0 hx hins hA
     go_enter Tryz.func140, Tryz.ntmps140
     go_wp2_with fail
     refine (HE.out _).mono ?_
     rintro e w1 ⟨rfl, rfl⟩
     go_wp2_with (at_builtin; refine wpList_append_one rowInt rfl _ _ rfl w.heap.size _ 0 [] rfl ?c0 [intV (i + 1)] rfl ?c1 _ rfl ?cg ?c2 ?c3 ?c4 ?_)
     case c0 => exact World.ownsRow_nil _ _ _ _
     case c1 => exact intV_one [i + 1]
     case cg => simp
     case c2 => omega
     case c3 => omega
     case c4 => simp
     intro v1 w2 ho1 hg1
     obtain ⟨d0, d1, d2⟩ := box_kept x hg1
     have HO := Hd ho1
     have HB := Hd d2
     clear ho1 hg1 d2
     go_wp2_with fail
     refine (HJ.out _).mono ?_
     rintro e w1 ⟨rfl, rfl⟩
     go_wp2_with fail
     go_ret
     exact ⟨_, rfl, by rw [H0.out]; exact HO.out, HB.out⟩
   | true =>
     rw [hj] at HJ
     have hr := jumps_ranged hins hj
     obtain ⟨t, ht⟩ : ∃ t : Nat, x.a = t := ⟨x.a.toNat, by omega⟩
     have h14 : (x.op == 14) = false := by
       simp only [endsB, Bool.or_eq_false_iff] at he
       exact he.1.1.1
     by_cases hne : t = i + 1
     · have h0 : A = [i + 1] := by
         rw [haft, he, hj, h14, ht, hne]
         have : (((i + 1 : Nat) : Int) != (i : Int) + 1) = false := by rw [bne_eq_false_iff_eq]; omega
         rw [this]; rfl
       have H0 := Hd h0
       have e1 : ((t : Int) != (i : Int) + 1) = false := by rw [bne_eq_false_iff_eq]; omega
       have e2 : ((t : Int) == (i : Int) + 1) = true := by rw [beq_iff_eq]; omega
       clear haft he hj h0 hx hins hA hne
       go_enter Tryz.func140, Tryz.ntmps140
       go_wp2_with fail
       refine (HE.out _).mono ?_
       rintro e w1 ⟨rfl, rfl⟩
       go_wp2_with (at_builtin; refine wpList_append_one rowInt rfl _ _ rfl w.heap.size _ 0 [] rfl ?c0 [intV (i + 1)] rfl ?c1 _ rfl ?cg ?c2 ?c3 ?c4 ?_)
       case c0 => exact World.ownsRow_nil _ _ _ _
       case c1 => exact intV_one [i + 1]
       case cg => simp
       case c2 => omega
       case c3 => omega
       case c4 => simp
       intro v1 w2 ho1 hg1
       rw [← ht] at hg1
       obtain ⟨d0, d1, d2⟩ := box_kept x hg1
       rw [ht] at d1
       have HO := Hd ho1
       have HB := Hd d2
       clear ho1 hg1 d2
       go_wp2_with fail
       refine (HJ.out _).mono ?_
       rintro e w1 ⟨rfl, rfl⟩
       go_wp2_with fail
       go_ret
       exact ⟨_, rfl, by rw [H0.out]; exact HO.out, HB.out⟩
     · have h0 : A = [i + 1, t] := by
         rw [haft, he, hj, h14, ht]
         have : ((t : Int) != (i : Int) + 1) = true := by rw [bne_iff_ne]; omega
         rw [this]; rfl
       have H0 := Hd h0
       have e1 : ((t : Int) != (i : Int) + 1) = true := by rw [bne_iff_ne]; omega
       have e2 : ((t : Int) == (i : Int) + 1) = false := by rw [beq_eq_false_iff_ne]; omega
       clear haft he hj h0 hx hins hA hne
       go_enter Tryz.func140, Tryz.ntmps140
       go_wp2_with fail
       refine (HE.out _).mono ?_
       rintro e w1 ⟨rfl, rfl⟩
       go_wp2_with (at_builtin; refine wpList_append_one rowInt rfl _ _ rfl w.heap.size _ 0 [] rfl ?c0 [intV (i + 1)] rfl ?c1 _ rfl ?cg ?c2 ?c3 ?c4 ?_)
       case c0 => exact World.ownsRow_nil _ _ _ _
       case c1 => exact intV_one [i + 1]
       case cg => simp
       case c2 => omega
       case c3 => omega
       case c4 => simp
       intro v1 w2 ho1 hg1
       rw [← ht] at hg1
       obtain ⟨d0, d1, d2⟩ := box_kept x hg1
       rw [ht] at d1
       have HO := Hd ho1
       have HB := Hd d2
       have hs2 := d2.size
       clear ho1 hg1 d2
       go_wp2_with fail
       refine (HJ.out _).mono ?_
       rintro e w1 ⟨rfl, rfl⟩
       go_wp2_with (at_builtin; refine wpList_append_one rowInt rfl _ _ rfl w.heap.size _ 1 [intV (i + 1)] rfl ?c0 [intV t] rfl ?c1 _ rfl ?cg ?c2 ?c3 ?c4 ?_)
       case c0 => exact HO.out
       case c1 => exact intV_one [t]
       case cg => rfl
       case c2 => omega
       case c3 => omega
       case c4 => exact hs2
       intro v2 w3 ho2 hg2
       have HO2 := Hd ho2
       have HB2 := Hd (HB.out.trans (grown_below (B := w.heap.size) hs2 HO.out hg2))
       clear ho2 hg2
       go_wp2_with fail
       go_ret
       exact ⟨_, rfl, by rw [H0.out]; exact HO2.out, HB2.out⟩
end Go.Proofs.YtddbnboicmaooaaGreatDoor
