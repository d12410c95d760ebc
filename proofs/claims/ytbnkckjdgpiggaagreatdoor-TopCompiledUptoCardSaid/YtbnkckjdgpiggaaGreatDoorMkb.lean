import Derived.Test.YtbnkckjdgpiggaaGreatDoorMka
import Derived.Test.YtbnkckjdgpiggaaGreatDoorCx
import Derived.Test.YtbnkckjdgpiggaaGreatDoorHc
import Derived.Test.YtbnkckjdgpiggaaGreatDoorRr
namespace Go.Proofs.YtbnkckjdgpiggaaGreatDoor
set_option maxRecDepth 100000
set_option maxHeartbeats 16000000
set_option linter.unusedVariables false
set_option linter.unusedSimpArgs false
open Go.RowKit Go.Shelf Go.Lib Go.Sort
theorem z6y (n : Int) : ∀ u ∈ [iV n], u.oneCell' = true := by
 intro u hu
 rw [List.mem_singleton.1 hu]; rfl
theorem zkt {w : World} {a : Option Addr} {cap : Nat} {L : List Int} (h : zab w a cap (L.map (Value.int .i64))) {j : Nat} {k : Int} (hk : L[j]? = some k) : ∃ b off, a = some ⟨b, off, none⟩ /\ b < w.heap.size /\ w.cell? ⟨b, off + j, none⟩ = some (.int .i64 k) := by
 obtain ⟨_, h2 | ⟨b, off, rfl, hlt, hc⟩⟩ := h
 . have : L = [] := by simpa using h2
   subst this; simp at hk
 . exact ⟨b, off, rfl, hlt, hc j _ (by rw [List.getElem?_map, hk]; rfl)⟩
theorem zmx {w : World} {B : Nat} {v : Value} {L : List Int} {n : Nat} (h : w.ownsRow B 3 1 v n (L.map (Value.int .i64))) : ∃ a cap, v = .slice a n cap /\ zab w a cap (L.map (Value.int .i64)) := by
 obtain ⟨a, cap, h1, _, h2⟩ := zmd h
 exact ⟨a, cap, h1, h2⟩
theorem zzu (h s : Hd) (hk : h.kind = 6) (hs : h.subs[0]? = some s) (hsl : h.subs.length <= 2) (vs : List Int) (hv : vs.length <= 1000) (hpl : h.pos.length <= 1000) (hp : ∀ k ∈ h.pos, 0 <= k /\ k.toNat < vs.length) (ga : Option Addr) (gc : Nat) (w : World) (hA : zab w ga gc (vs.map (Value.int .i64))) (hP : zab w h.pa h.pc (h.pos.map (Value.int .i64))) (hS : za6 w 5 h.sa h.sc (h.subs.map zc3)) (o : Option Int)
   (hM : ∀ a c w', Below w.heap.size w w' -> zab w' a c ((h.pos.map fun k => vs.getD k.toNat 0).map (Value.int .i64)) -> Calls Tryz.prog 18 #[hdV s, .slice a h.pos.length c] w' (zbh w' o)) :
   Calls Tryz.prog 18 #[hdV h, .slice ga vs.length gc] w (zbh w o) := by
 obtain ⟨W, hW⟩ : ∃ W, W = w.alloc (.cells #[.int .i64 6, .string ⟨⟨h.ty⟩⟩, .int .i64 h.a, .slice h.pa h.pos.length h.pc, .slice h.sa h.subs.length h.sc] 25) := ⟨_, rfl⟩
 have HB := Hq (show Below w.heap.size w W by rw [hW]; exact ze (Below.refl _ _) _)
 have HX := Hq (show Blk W w.heap.size 25 #[.int .i64 6, .string ⟨⟨h.ty⟩⟩, .int .i64 h.a, .slice h.pa h.pos.length h.pc, .slice h.sa h.subs.length h.sc] by rw [hW]; exact zg _ _ _ _ rfl)
 have e3 := HX.out.cell 3
 have e9 := HX.out.lt
 unfold hdV
 rw [hk]
 go_enter Tryz.func18, Tryz.ntmps18
 go_upto_region 15 with fail
 rw [<- hW]
 clear hW
 have HAV := Hq (fun W' (hb : Below W.heap.size W W') => hA.below (zc HB.out hb))
 have HPV := Hq (fun W' (hb : Below W.heap.size W W') => hP.below (zc HB.out hb))
 have HPP := Hq hp
 have HTK := Hq (fun (j : Nat) (k : Int) (hj : h.pos[j]? = some k) => show (h.pos.map fun k => vs.getD k.toNat 0).take (j + 1) = (h.pos.map fun k => vs.getD k.toNat 0).take j ++ [vs.getD k.toNat 0] by rw [List.take_add_one, List.getElem?_map, hj]; rfl)
 have HSUB := Hq (fun W' (hb : Below W.heap.size W W') a c (hz : zab W' a c ((h.pos.map fun k => vs.getD k.toNat 0).map (Value.int .i64))) => show Calls Tryz.prog 35 #[.int .i64 0, .slice a h.pos.length c, .pointer (some ⟨w.heap.size, 0, none⟩)] W' (zbh W' o) from
   zfk h s 0 (.slice a h.pos.length c) w.heap.size W' (by rw [hk]; exact HX.out.below hb) (hS.below (zc HB.out hb)) hs hsl o (fun w' hb' => hM a c w' (zc (zc HB.out hb) hb') (hz.below hb')))
 clear hA hP hp hS hM hs hsl hk
 obtain ⟨L, hL⟩ : ∃ L, L = h.pos.map fun k => vs.getD k.toNat 0 := ⟨_, rfl⟩
 have HLL := Hq (show L.length = h.pos.length by rw [hL]; simp)
 rw [<- hL] at HTK HSUB
 clear hL
 go_wp2_with fail
 clear e3 e9
 go_loopw [8, 72] (fun l i wr => ∃ j : Nat, j <= h.pos.length /\ i = .int .i64 j /\ Hid (wr.ownsRow W.heap.size 3 1 l j ((L.take j).map (Value.int .i64))) /\ Below W.heap.size W wr) (fun _ i _ => h.pos.length - (RowKit.intOf i).toNat)
 case atStart => exact ⟨0, by omega, rfl, Hq ⟨by simp, Or.inl ⟨rfl, rfl⟩⟩, Below.refl _ _⟩
 case round =>
   obtain ⟨j, hj, rfl, HO, hbr⟩ := hrel
   obtain ⟨A, C, rfl, _⟩ := zy HO.out
   have HBR := Hq hbr
   have hsr := hbr.size
   clear hbr
   by_cases hlj : j < h.pos.length
   . obtain ⟨k, hk⟩ : ∃ k, h.pos[j]? = some k := ⟨_, List.getElem?_eq_getElem hlj⟩
     obtain ⟨pb, po, hpa, hplt, hpc⟩ := zkt (HPV.out _ HBR.out) hk
     obtain ⟨hk0, hk1⟩ := HPP.out k (List.mem_of_getElem? hk)
     obtain ⟨kk, rfl⟩ : ∃ kk : Nat, k = kk := ⟨k.toNat, by omega⟩
     have HT := Hq (HTK.out j _ hk)
     rw [Int.toNat_natCast] at HT hk1
     obtain ⟨vb, vo, rfl, hvlt, hvc⟩ := zkt (HAV.out _ HBR.out) (List.getElem?_eq_getElem hk1)
     obtain ⟨x, hx⟩ : ∃ x, x = vs[kk] := ⟨_, rfl⟩
     rw [<- hx] at hvc
     have HTX := Hq (show L.take (j + 1) = L.take j ++ [x] by rw [HT.out, List.getD_eq_getElem?_getD, List.getElem?_eq_getElem hk1, hx]; rfl)
     have hkl : (kk : Int) < (vs.length : Int) := by omega
     rw [hpa]
     clear hpa hk hx HT hk0
     go_wp2_with (at_builtin; refine zt ziz rfl _ _ rfl W.heap.size _ j ((L.take j).map (Value.int .i64)) rfl HO.out [iV x] rfl (z6y _) _ rfl (by simp) (by omega) (by omega) hsr ?_)
     intro v5 w5 ho5 hg5
     have HB5 := Hq (HBR.out.trans (zbg hsr HO.out hg5))
     have HO5 := Hq (show w5.ownsRow W.heap.size 3 1 v5 (j + 1) ((L.take (j + 1)).map (Value.int .i64)) by rw [HTX.out, List.map_append, List.map_take]; exact ho5)
     clear ho5 hg5
     go_wp2_with fail
     go_roundw
     case rel => exact ⟨j + 1, by omega, by go_num, HO5, HB5.out⟩
     case measure => simp [RowKit.intOf]; omega
   . obtain rfl : j = h.pos.length := by omega
     have hown : wr.ownsRow W.heap.size 3 1 (.slice A h.pos.length C) h.pos.length (L.map (Value.int .i64)) := by
       have := HO.out
       rw [<- HLL.out, List.take_length] at this
       rw [<- HLL.out]
       exact this
     obtain ⟨a2, c2, hv2, hz⟩ := zmx hown
     simp only [Value.slice.injEq] at hv2
     obtain ⟨rfl, _, rfl⟩ := hv2
     have HCL := Hq (HSUB.out _ HBR.out _ _ hz)
     clear hown hz hlj
     go_wp2_with fail
     refine HCL.out.mono ?_
     rintro e w4 ⟨hb4, ⟨n, hn, rfl⟩ | ⟨hn, rfl⟩⟩
     . have HN := Hq hn
       have HB4 := Hq (zc HB.out (zc HBR.out hb4))
       clear hn hb4 HCL HSUB HAV HPV HTK HPP
       go_wp2_with fail
       go_ret
       exact ⟨HB4.out, Or.inl ⟨_, HN.out, rfl⟩⟩
     . exact ⟨rfl, zc HB.out (zc HBR.out hb4), Or.inr ⟨hn, rfl⟩⟩
theorem zti (h s t : Hd) (hk : h.kind = 7) (k : Nat) (ha : h.a = k) (hs : h.subs[0]? = some s) (ht : h.subs[1]? = some t) (hsl : h.subs.length <= 2) (vs : List Int) (hv : k < vs.length /\ vs.length <= 1000) (ga : Option Addr) (gc : Nat) (w : World) (hA : zab w ga gc (vs.map (Value.int .i64))) (hS : za6 w 5 h.sa h.sc (h.subs.map zc3)) (o2 : Option Int) (o : Int -> Option Int)
   (hM2 : ∀ a c w', Below w.heap.size w w' -> zab w' a c ([vs.getD k 0].map (Value.int .i64)) -> Calls Tryz.prog 18 #[hdV t, .slice a 1 c] w' (zbh w' o2))
   (hM : ∀ x a c w', o2 = some x -> Below w.heap.size w w' -> zab w' a c ((vs.set k x).map (Value.int .i64)) -> Calls Tryz.prog 18 #[hdV s, .slice a vs.length c] w' (zbh w' (o x))) :
   Calls Tryz.prog 18 #[hdV h, .slice ga vs.length gc] w (zbh w (o2.elim none o)) := by
 obtain ⟨W, hW⟩ : ∃ W, W = w.alloc (.cells #[.int .i64 7, .string ⟨⟨h.ty⟩⟩, .int .i64 k, .slice h.pa h.pos.length h.pc, .slice h.sa h.subs.length h.sc] 25) := ⟨_, rfl⟩
 have HB := Hq (show Below w.heap.size w W by rw [hW]; exact ze (Below.refl _ _) _)
 have HX := Hq (show Blk W w.heap.size 25 #[.int .i64 7, .string ⟨⟨h.ty⟩⟩, .int .i64 k, .slice h.pa h.pos.length h.pc, .slice h.sa h.subs.length h.sc] by rw [hW]; exact zg _ _ _ _ rfl)
 have hWs : w.heap.size < W.heap.size := HX.out.lt
 have HC := Hq (zjr vs ga gc W (hA.below HB.out) hv.2)
 have HS1 := Hq (fun W' (hb : Below W.heap.size W W') a c (hz : zab W' a c ([vs.getD k 0].map (Value.int .i64))) => show Calls Tryz.prog 35 #[.int .i64 1, .slice a 1 c, .pointer (some ⟨w.heap.size, 0, none⟩)] W' (zbh W' o2) from
   zfk h t 1 (.slice a 1 c) w.heap.size W' (by rw [hk, ha]; exact HX.out.below hb) (hS.below (zc HB.out hb)) ht hsl o2 (fun w' hb' => hM2 a c w' (zc (zc HB.out hb) hb') (hz.below hb')))
 have HSUB := Hq (fun W' x (hx : o2 = some x) (hb : Below W.heap.size W W') a c (hz : zab W' a c ((vs.set k x).map (Value.int .i64))) => show Calls Tryz.prog 35 #[.int .i64 0, .slice a vs.length c, .pointer (some ⟨w.heap.size, 0, none⟩)] W' (zbh W' (o x)) from
   zfk h s 0 (.slice a vs.length c) w.heap.size W' (by rw [hk, ha]; exact HX.out.below hb) (hS.below (zc HB.out hb)) hs hsl (o x) (fun w' hb' => hM x a c w' hx (zc (zc HB.out hb) hb') (hz.below hb')))
 have HE := Hq (show ∀ x, o2 = some x -> o2.elim none o = o x from fun x hx => by rw [hx]; rfl)
 have HEN := Hq (show o2 = none -> o2.elim none o = none from fun hx => by rw [hx]; rfl)
 generalize o2.elim none o = res at HE HEN |-
 unfold hdV
 rw [hk, ha]
 clear hA hS hM hM2 hs ht hk ha hsl
 go_enter Tryz.func18, Tryz.ntmps18
 go_upto_region 23 with fail
 rw [<- hW]
 clear hW
 go_wp2_with fail
 refine HC.out.mono ?_
 rintro e w2 ⟨v2, rfl, ho2, hb2⟩
 obtain ⟨g, cap, rfl⟩ : ∃ g cap, v2 = .slice (some ⟨g, 0, none⟩) vs.length cap := by
   rcases ho2.2 with ⟨rfl, h0⟩ | ⟨g, cap, cur, h, _⟩
   . omega
   . exact ⟨g, cap, h⟩
 have HO2 := Hq ho2
 have HB02 := Hq (show Below W.heap.size W w2 from hb2)
 obtain ⟨hgB, hgl⟩ := ho2.lt g rfl
 have hcg : w2.cell? ⟨g, k, none⟩ = some (.int .i64 (vs.getD k 0)) := by rw [ho2.cellAt k (by omega), List.getElem?_map, List.getD_eq_getElem?_getD, List.getElem?_eq_getElem hv.1]; rfl
 obtain ⟨y, hy⟩ : ∃ y, y = vs.getD k 0 := ⟨_, rfl⟩
 rw [<- hy] at hcg HS1
 have hv1 : (k : Int) < (vs.length : Int) := by omega
 have hv1n : k < vs.length := hv.1
 have HSC := Hq (fun W' (hb : Below w2.heap.size w2 W') => (HX.out.below (zc HB02.out hb)).cell 2)
 have HS1 := Hq (fun W' (hb : Below w2.heap.size w2 W') a c hz => HS1.out W' (zc HB02.out hb) a c hz)
 clear HC ho2 hb2 hy hv
 go_upto_region 24 with fail
 refine wp_region_held_drew (S := fun W' => W'.cell? ⟨w.heap.size, 2, none⟩ = some (.int .i64 k)) (by kernel_rfl) ?_ (fun hHeld => ?_)
 . exact HSC.out _ (Below.refl _ _).drew
 refine wpAnyH_take (i := 0) (oi := { dst := some 91, op := Op.move (Operand.tmp 11), type := 22, pos := "call.go:40", after := #[], guard := none }) (v := ?_) rfl (by kernel_rfl) (by kernel_rfl) (by kernel_rfl) (fun _ _ _ h => h) (Or.inl ⟨by rfl, ?_⟩) (by assumption) ?_
 rotate_left
 . (intro w hSw; (try dsimp only at hSw); go_simp; try with_reducible rfl)
 refine wpAnyH_take (i := 1) (oi := { dst := some 92, op := Op.fieldAddr 25 (Operand.tmp 2) 2, type := 0, pos := "call.go:40", after := #[], guard := none }) (v := ?_) rfl (by kernel_rfl) (by kernel_rfl) (by kernel_rfl) (fun _ _ _ h => h) (Or.inl ⟨by rfl, ?_⟩) (by assumption) ?_
 rotate_left
 . (intro w hSw; (try dsimp only at hSw); go_simp; try with_reducible rfl)
 refine wpAnyH_take (i := 2) (oi := { dst := some 93, op := Op.load 3 (Operand.tmp 92), type := 3, pos := "call.go:40", after := #[{ on := 1, ground := Ground.data }], guard := none }) (v := ?_) rfl (by kernel_rfl) (by kernel_rfl) (by kernel_rfl) (fun _ _ _ h => h) (Or.inl ⟨by rfl, ?_⟩) (by assumption) ?_
 rotate_left
 . (intro w hSw; (try dsimp only at hSw); go_simp; try with_reducible rfl)
 refine wpAnyH_take (i := 3) (oi := { dst := some 94, op := Op.move (Operand.tmp 5), type := 97, pos := "call.go:40", after := #[], guard := none }) (v := ?_) rfl (by kernel_rfl) (by kernel_rfl) (by kernel_rfl) (fun _ _ _ h => h) (Or.inl ⟨by rfl, ?_⟩) (by assumption) ?_
 rotate_left
 . (intro w hSw; (try dsimp only at hSw); go_simp; try with_reducible rfl)
 refine wpAnyH_take (i := 4) (oi := { dst := some 95, op := Op.move (Operand.tmp 11), type := 22, pos := "call.go:40", after := #[], guard := none }) (v := ?_) rfl (by kernel_rfl) (by kernel_rfl) (by kernel_rfl) (fun _ _ _ h => h) (Or.inl ⟨by rfl, ?_⟩) (by assumption) ?_
 rotate_left
 . (intro w hSw; (try dsimp only at hSw); go_simp; try with_reducible rfl)
 refine wpAnyH_take (i := 5) (oi := { dst := some 96, op := Op.fieldAddr 25 (Operand.tmp 2) 2, type := 0, pos := "call.go:40", after := #[], guard := none }) (v := ?_) rfl (by kernel_rfl) (by kernel_rfl) (by kernel_rfl) (fun _ _ _ h => h) (Or.inl ⟨by rfl, ?_⟩) (by assumption) ?_
 rotate_left
 . (intro w hSw; (try dsimp only at hSw); go_simp; try with_reducible rfl)
 refine wpAnyH_take (i := 6) (oi := { dst := some 97, op := Op.load 3 (Operand.tmp 96), type := 3, pos := "call.go:40", after := #[{ on := 5, ground := Ground.data }], guard := none }) (v := ?_) rfl (by kernel_rfl) (by kernel_rfl) (by kernel_rfl) (fun _ _ _ h => h) (Or.inl ⟨by rfl, ?_⟩) (by assumption) ?_
 rotate_left
 . (intro w hSw; (try dsimp only at hSw); go_simp; try with_reducible rfl)
 refine wpAnyH_take (i := 7) (oi := { dst := some 98, op := Op.indexAddr 22 (Operand.tmp 95) (Operand.tmp 97), type := 0, pos := "call.go:40", after := #[{ on := 4, ground := Ground.data }, { on := 6, ground := Ground.data }], guard := none }) (v := ?_) rfl (by kernel_rfl) (by kernel_rfl) (by kernel_rfl) (fun _ _ _ h => h) (Or.inl ⟨by rfl, ?_⟩) (by assumption) ?_
 rotate_left
 . (intro w hSw; (try dsimp only at hSw); go_simp; try with_reducible rfl)
 try simp only [Act.put, List.setIfInBounds_toArray, List.set_cons_zero, List.set_cons_succ]
 refine wpAnyH_ready (rs := [8]) (by kernel_rfl) (by simp) ?_
 refine AllReadyH.cons (o := { dst := some 99, op := Op.load 3 (Operand.tmp 98), type := 3, pos := "call.go:40", after := #[{ on := 7, ground := Ground.data }], guard := none }) rfl (fun K hK => ?_) AllReadyH.nil
 go_simp
 try go_wp2_with fail
 refine hK.out _ _ ?_ (fun hHeld => ?_)
 . exact HSC.out _ (Below.refl _ _).drew
 clear hK K
 try simp only [Act.put, List.setIfInBounds_toArray, List.set_cons_zero, List.set_cons_succ]
 have HB03 := Hq (show Below w2.heap.size w2 (w2.drew.alloc (.cells #[.int .i64 y] 3)) from (Below.refl _ _).drew.alloc (Nat.le_refl _) _)
 have HV3 := Hq (show zab (w2.drew.alloc (.cells #[.int .i64 y] 3)) (some ⟨w2.heap.size, 0, none⟩) 1 ([y].map (Value.int .i64)) from ⟨by simp, Or.inr ⟨w2.heap.size, 0, rfl, by show w2.drew.heap.size < _; simp, fun j u hj => by rw [Nat.zero_add]; exact ((zg w2.drew w2.heap.size 3 #[.int .i64 y] rfl).cell j).trans (by simpa using hj)⟩⟩)
 refine wpAnyH_ready (rs := [9]) (by kernel_rfl) (by simp) ?_
 refine AllReadyH.cons (o := { dst := some 100, op := Op.buildSlice 22 1 #[(0, Operand.tmp 99)], type := 22, pos := "call.go:40", after := #[{ on := 8, ground := Ground.data }], guard := none }) rfl (fun K hK => ?_) AllReadyH.nil
 go_simp
 try go_wp2_with fail
 refine hK.out _ _ ?_ (fun hHeld => ?_)
 . exact HSC.out _ HB03.out
 clear hK K
 try simp only [Act.put, List.setIfInBounds_toArray, List.set_cons_zero, List.set_cons_succ]
 refine wpAnyH_ready (rs := [10]) (by kernel_rfl) (by simp) ?_
 refine AllReadyH.cons (o := { dst := some 101, op := Op.call { callee := Callee.value (Operand.tmp 94), args := #[Operand.const (Value.int IntKind.i64 1), Operand.tmp 100], argTypes := #[3, 22] }, type := 3, pos := "call.go:40", after := #[{ on := 3, ground := Ground.data }, { on := 9, ground := Ground.data }], guard := none }) rfl (fun K hK => ?_) AllReadyH.nil
 go_simp
 go_wp2_with (go_at_call 35; refine (HS1.out _ HB03.out _ _ HV3.out).mono ?_; rintro e w4 ⟨hb4, ⟨x, hx, rfl⟩ | ⟨hx, rfl⟩⟩)
 rotate_left
 . exact ⟨rfl, zc HB.out (HB02.out.trans ((HB03.out.trans (hb4.mono HB03.out.size)).mono HB02.out.size)), Or.inr ⟨HEN.out hx, rfl⟩⟩
 have HXX := Hq hx
 have HB04 := Hq (HB03.out.trans (hb4.mono HB03.out.size))
 have ho4 := zad HO2.out HB04.out
 have hc4 := ho4.cellAt k (by omega)
 rw [List.getElem?_map, List.getElem?_eq_getElem hv1n] at hc4
 have hf4 := ho4.frozenAt k
 have hg4 := (ho4.lt g rfl).2
 have hst := (ho4.stored k (iV x)).1
 have hz := zmx (L := vs.set k x) (n := vs.length) (by rw [List.map_set]; exact hst)
 obtain ⟨a5, c5, hv5, hz5⟩ := hz
 simp only [Value.slice.injEq] at hv5
 obtain ⟨rfl, _, rfl⟩ := hv5
 have HZ5 := Hq hz5
 have HB05 := Hq (show Below w2.heap.size w2 w4 from HB04.out)
 have HBW := Hq (show Below W.heap.size W (w4.setCell ⟨g, k, none⟩ (iV x)) from (HB02.out.trans (HB04.out.mono HB02.out.size)).setCell (p := ⟨g, k, none⟩) hgB (iV x))
 clear hx hb4 hst hz5 ho4
 refine hK.out _ _ ?_ (fun hHeld => ?_)
 . exact HSC.out _ HB04.out
 clear hK K
 refine wpAnyH_take (i := 11) (oi := { dst := some 102, op := Op.indexAddr 22 (Operand.tmp 91) (Operand.tmp 93), type := 0, pos := "call.go:40", after := #[{ on := 0, ground := Ground.data }, { on := 2, ground := Ground.data }, { on := 0, ground := Ground.phase }, { on := 1, ground := Ground.phase }, { on := 2, ground := Ground.phase }, { on := 3, ground := Ground.phase }, { on := 4, ground := Ground.phase }, { on := 5, ground := Ground.phase }, { on := 6, ground := Ground.phase }, { on := 7, ground := Ground.phase }, { on := 8, ground := Ground.phase }, { on := 9, ground := Ground.phase }, { on := 10, ground := Ground.phase }], guard := none }) (v := ?_) rfl (by kernel_rfl) (by kernel_rfl) (by kernel_rfl) (fun _ _ _ h => h) (Or.inl ⟨by rfl, ?_⟩) (by assumption) ?_
 rotate_left
 . (intro w hSw; (try dsimp only at hSw); go_simp; try with_reducible rfl)
 try simp only [Act.put, List.setIfInBounds_toArray, List.set_cons_zero, List.set_cons_succ]
 refine wpAnyH_ready (rs := [12]) (by kernel_rfl) (by simp) ?_
 refine AllReadyH.cons (o := { dst := none, op := Op.store 3 (Operand.tmp 102) (Operand.tmp 101), type := 0, pos := "call.go:40", after := #[{ on := 11, ground := Ground.data }, { on := 10, ground := Ground.data }, { on := 10, ground := Ground.chain }, { on := 0, ground := Ground.phase }, { on := 1, ground := Ground.phase }, { on := 2, ground := Ground.phase }, { on := 3, ground := Ground.phase }, { on := 4, ground := Ground.phase }, { on := 5, ground := Ground.phase }, { on := 6, ground := Ground.phase }, { on := 7, ground := Ground.phase }, { on := 8, ground := Ground.phase }, { on := 9, ground := Ground.phase }, { on := 10, ground := Ground.phase }], guard := none }) rfl (fun K hK => ?_) AllReadyH.nil
 go_simp
 try go_wp2_with fail
 refine hK.out _ _ ?_ (fun hHeld => ?_)
 . exact (HX.out.below HBW.out).cell 2
 clear hK K
 try simp only [Act.put, List.setIfInBounds_toArray, List.set_cons_zero, List.set_cons_succ]
 refine wpAnyH_done (by kernel_rfl) ?_ _
 have HCL := Hq (HSUB.out _ x HXX.out HBW.out _ _ HZ5.out)
 clear HS1 HSUB HSC HO2 HZ5 HB02 HB03 HB04 HB05 HV3 hHeld hc4 hf4 hcg
 go_wp2_with fail
 refine HCL.out.mono ?_
 rintro e w6 ⟨hb6, ⟨n, hn, rfl⟩ | ⟨hn, rfl⟩⟩
 . have HN := Hq ((HE.out x HXX.out).trans hn)
   have HB6 := Hq (zc HB.out (HBW.out.trans (hb6.mono HBW.out.size)))
   clear hn hb6 HCL
   go_wp2_with fail
   go_ret
   exact ⟨HB6.out, Or.inl ⟨_, HN.out, rfl⟩⟩
 . exact ⟨rfl, zc HB.out (HBW.out.trans (hb6.mono HBW.out.size)), Or.inr ⟨(HE.out x HXX.out).trans hn, rfl⟩⟩
theorem zfz {w0 : World} : ∀ (n : Nat) {h : Hd} {A : List Nm} {g : Nm}, RH h A g -> h.size <= n -> zh0 w0 h -> A.length <= 5 -> ∀ (vs : List Int) (a : Option Addr) (c : Nat) (w : World), Below w0.heap.size w0 w -> vs.length = A.length -> zab w a c (vs.map (Value.int .i64)) -> Calls Tryz.prog 18 #[hdV h, .slice a vs.length c] w (zbh w (zbw ofO n h vs))
 | 0, h, A, g, _, hn, _, _, _, _, _, _, _, _, _ => by have := zf8 h; omega
 | n + 1, h, A, g, hr, hn, H, hA5, vs, a, c, w, hb, hl, hv => by
   have hro := H.row.below hb
   have hbl : ∀ {w'}, Below w.heap.size w w' -> Below w0.heap.size w0 w' := fun hw => hb.trans (hw.mono hb.size)
   cases hr with
   | const _ hk ht hr =>
     have e : zbw ofO (n + 1) h vs = some h.a := by rw [zbw.eq_2]; rw [if_pos hk]
     rw [e]
     exact zvj h hk _ w
   | same _ hk ht =>
     have e : zbw ofO (n + 1) h vs = some (vs.getD 0 0) := by rw [zbw.eq_2]; simp [hk]
     rw [e]
     exact zz6 h hk vs (by simpa using hl) a c w hv
   | math _ hk ht ha =>
     have e : zbw ofO (n + 1) h vs = ofO h.ty h.a (vs.getD 0 0) (vs.getD (vs.length - 1) 0) := by rw [zbw.eq_2]; simp [hk]
     rw [e]
     have hl2 : 1 <= vs.length /\ vs.length <= 5 := by
       rw [hl]
       refine ⟨?_, hA5⟩
       unfold zcf
       rw [if_neg (by omega)]
       split
       . simp
       split <;> simp
     exact zx9 h hk ht ha vs hl2 a c w hv
   | drop _ s A g i hk hs hr h5 hi hil =>
     have e : zbw ofO (n + 1) h vs = zbw ofO n s (vs.eraseIdx i) := by rw [zbw.eq_2]; simp [hk, hs, hi]
     rw [e]
     have hs0 : h.subs[0]? = some s := by rw [hs]; rfl
     have hsz := zba hs0
     have hl2 : vs.length = A.length + 1 := by rw [hl]; simp; omega
     refine zyu h s hk i hi hs0 (by rw [hs]; simp) vs ⟨by omega, by omega⟩ a c w hv hro _ fun a' c' w' hw hz => ?_
     exact zfz n hr (by omega) (H.subs s (by rw [hs]; simp)) h5 _ a' c' w' (hbl hw) (by rw [List.length_eraseIdx, if_pos (by omega)]; omega) hz
   | bind _ s u A g g2 i hk hs hr h5 hr2 hi hA =>
     have e : zbw ofO (n + 1) h vs = (zbw ofO n u []).elim none fun x => zbw ofO n s (vs.take i ++ x :: vs.drop i) := by rw [zbw.eq_2]; simp [hk, hs, hi]
     rw [e]
     have hs0 : h.subs[0]? = some s := by rw [hs]; rfl
     have hs1 : h.subs[1]? = some u := by rw [hs]; rfl
     have hsz := zba hs0
     have hsz1 := zba hs1
     have hiA := (List.getElem?_eq_some_iff.1 hA).1
     have hl2 : vs.length = A.length - 1 := by rw [hl, List.length_eraseIdx, if_pos hiA]
     refine z0d h s u hk i hi hs0 hs1 (by rw [hs]; simp) vs ⟨by omega, by omega⟩ a c w hv hro _ _ (fun w' hw => ?_) (fun x a' c' w' _ hw hz => ?_)
     . exact zfz n hr2 (by omega) (H.subs u (by rw [hs]; simp)) (by simp) [] none 0 w' (hbl hw) rfl ⟨by simp, Or.inl rfl⟩
     . have := zfz n hr (by omega) (H.subs s (by rw [hs]; simp)) h5 (z1g vs i x) a' c' w' (hbl hw) (by rw [zgb]; omega) hz
       rwa [zgb] at this
   | perm _ s A g B hk hs hr h5 hpl hpe =>
     have e : zbw ofO (n + 1) h vs = zbw ofO n s (h.pos.map fun k => vs.getD k.toNat 0) := by rw [zbw.eq_2]; simp [hk, hs]
     rw [e]
     have hs0 : h.subs[0]? = some s := by rw [hs]; rfl
     have hsz := zba hs0
     refine zzu h s hk hs0 (by rw [hs]; simp) vs (by omega) (by omega) (fun k hkm => ?_) a c w hv (H.pos.below hb) hro _ fun a' c' w' hw hz => ?_
     . obtain ⟨j, hj⟩ := List.getElem?_of_mem hkm
       obtain ⟨t, ht⟩ : ∃ t, A[j]? = some t := ⟨_, List.getElem?_eq_getElem (by have := (List.getElem?_eq_some_iff.1 hj).1; omega)⟩
       obtain ⟨h0, h1, _⟩ := zhi hpl hpe j k t hj ht
       exact ⟨h0, by omega⟩
     . have := zfz n hr (by omega) (H.subs s (by rw [hs]; simp)) h5 (h.pos.map fun k => vs.getD k.toNat 0) a' c' w' (hbl hw) (by rw [List.length_map]; exact hpl) hz
       rwa [List.length_map] at this
   | filter _ s u A g v g2 i hk hs hr h5 hr2 hi hA =>
     have e : zbw ofO (n + 1) h vs = (zbw ofO n u [vs.getD i 0]).elim none fun x => zbw ofO n s (vs.set i x) := by rw [zbw.eq_2]; simp [hk, hs, hi]
     rw [e]
     have hs0 : h.subs[0]? = some s := by rw [hs]; rfl
     have hs1 : h.subs[1]? = some u := by rw [hs]; rfl
     have hsz := zba hs0
     have hsz1 := zba hs1
     have hiA := (List.getElem?_eq_some_iff.1 hA).1
     have hl2 : vs.length = A.length := by rw [hl, List.length_set]
     refine zti h s u hk i hi hs0 hs1 (by rw [hs]; simp) vs ⟨by omega, by omega⟩ a c w hv hro _ _ (fun a' c' w' hw hz => ?_) (fun x a' c' w' _ hw hz => ?_)
     . exact zfz n hr2 (by omega) (H.subs u (by rw [hs]; simp)) (by simp) [vs.getD i 0] a' c' w' (hbl hw) rfl hz
     . have := zfz n hr (by omega) (H.subs s (by rw [hs]; simp)) h5 (vs.set i x) a' c' w' (hbl hw) (by rw [List.length_set]; exact hl2) hz
       rwa [List.length_set] at this
theorem zsb (p q : Addr) (w : World) :
   CallsD Tryz.prog 17 #[.pointer (some p), .pointer (some q)] .returning w fun e u' w' => e = .returned (.tuple #[]) /\ u' = .returning /\ w' = w := by
 refine callsD_of_wpS Tryz.func17 rfl fun c₀ cs hu => ?_
 apply wpS_seq
 apply wpS_region
 simp [wpOpsS, go_sem, recoverD, hu, Tryz.ntmps17, Exit.thenS]
 refine wpS_of_wp ?_
 simp only [show (15 : Nat) = 14 + 1 from rfl, Array.replicate, List.replicate, List.setIfInBounds_toArray, List.set_cons_zero, List.set_cons_succ, List.append_toArray, List.cons_append, List.nil_append]
 go_wp2_with fail
 cases c₀
 simp_all [bodyPostS, results, Tryz.results17]
theorem zvp (g h : Nat) (z : Value) (v : Value) (w : World) (hg : Blk w g 3 #[z]) (hh : Blk w h 28 #[v]) :
   CallsD Tryz.prog 17 #[.pointer (some ⟨g, 0, none⟩), .pointer (some ⟨h, 0, none⟩)] (.panicking z86) w fun e u' w' =>
     e = .returned (.tuple #[]) /\ u' = .panicking [{ v := .iface 68 (.agg #[]), recovered := true }] /\ w' = ((w.setCell ⟨g, 0, none⟩ (.int .i64 0)).setCell ⟨h, 0, none⟩ (zby 3)).alloc (.cells #[] 68) := by
 have hta : ∀ w, (Instr.typeAssert (.iface 68 (.agg #[])) 20 68 true).run Tryz.prog w = .ok (.tuple #[.agg #[], .bool true]) w := fun _ => by kernel_rfl
 have hz := hg.alloc (.cells #[] 68)
 have hy := hh.alloc (.cells #[] 68)
 have z0 := hg.cell 0
 have z2 := hg.frozen 0
 have z4 := hg.lt
 have y0 := hh.cell 0
 have y1 := hh.frozen 0
 have y2 := hh.lt
 have hne : h ≠ g := by
   intro e
   subst e
   have := hg.symm.trans hh
   simp at this
 unfold z86
 refine callsD_of_wpS Tryz.func17 rfl fun c₀ cs hu => ?_
 apply wpS_seq
 apply wpS_region
 simp [wpOpsS, go_sem, recoverD, hu, Tryz.ntmps17, Exit.thenS]
 refine wpS_of_wp ?_
 simp only [show (17 : Nat) = 16 + 1 from rfl, show (15 : Nat) = 14 + 1 from rfl, Array.replicate, List.replicate, List.setIfInBounds_toArray, List.set_cons_zero, List.set_cons_succ, List.append_toArray, List.cons_append, List.nil_append]
 go_wp2_with fail
 simp [bodyPostS, results, Tryz.results17]
def z5a (h : Hd) (vs : List Int) (w : World) (e : Ending) (w' : World) : Prop :=
 Below w.heap.size w w' /\ ((∃ k, e = .returned (.tuple #[.int .i64 0, zby k])) \/
   ∃ n A g, e = .returned (.tuple #[.int .i64 n, .nilIface]) /\ h.size <= 30 /\ h.typed = (0, zaz A g) /\ zk (zaz A g) A g /\ RH h A g /\ zdb g = true /\ vs.length = A.length /\ zbw ofO h.size h vs = some n)
theorem zsx (h : Hd) (vs : List Int) (a : Option Addr) (c : Nat) (w : World) (H : zh0 w h) (hv : zab w a c (vs.map (Value.int .i64))) (hvl : vs.length <= 8388608) :
   Calls Tryz.prog 5 #[hdV h, .slice a vs.length c] w (z5a h vs w) := by
 have hmf : ∀ (fn : Fn) (first cap : Array Value) (w : World), (Instr.makeFunc fn first cap).run Tryz.prog w = .ok (.func fn first cap) w := fun _ _ _ _ => rfl
 obtain ⟨W, hW⟩ : ∃ W, W = ((w.alloc (.cells #[.int .i64 h.kind, .string ⟨⟨h.ty⟩⟩, .int .i64 h.a, .slice h.pa h.pos.length h.pc, .slice h.sa h.subs.length h.sc] 25)).alloc (.cells #[.int .i64 0] 3)).alloc (.cells #[.nilIface] 28) := ⟨_, rfl⟩
 have hb : Below w.heap.size w W := by rw [hW]; exact ze (ze (ze (Below.refl _ _) _) _) _
 have HX := Hq (show zi7 W w.heap.size h by rw [hW]; exact ((zg _ _ _ _ rfl).alloc _).alloc _)
 have HN := Hq (show Blk W (w.heap.size + 1) 3 #[.int .i64 0] by rw [hW]; exact (zg _ _ _ _ (by simp)).alloc _)
 have HE := Hq (show Blk W (w.heap.size + 1 + 1) 28 #[.nilIface] by rw [hW]; exact zg _ _ _ _ (by simp))
 have HB := Hq hb
 have HT := Hq (zvh H W hb)
 have HV := Hq hv
 have HH := Hq H
 obtain ⟨c0, c1, c2, c3, c4⟩ := HX.out.cells
 have c9 := HX.out.lt
 unfold hdV at *
 unfold zg0 at HT
 clear H hv hb
 go_enter_defers Tryz.func5, Tryz.ntmps5
 go_upto_region 1 with fail
 rw [<- hW]
 clear hW
 by_cases h0 : (zjl h).1 = 0
 case neg =>
   rw [zed h0] at HT
   generalize (zjl h).1 = z at HT
   generalize (zjl h).2 = y at HT
   clear h0
   go_wp2_with fail
   refine HT.out.mono ?_
   rintro e w2 ⟨rfl, hb2⟩
   have hE2 := HE.out.below hb2
   have hN2 := HN.out.below hb2
   have b0 := hE2.cell 0
   have b1 := hE2.frozen 0
   have b2 := hE2.lt
   have HB2 := Hq (zc HB.out hb2)
   obtain ⟨w3, hw3⟩ : ∃ w3, w3 = w2.setCell ⟨w.heap.size + 1 + 1, 0, none⟩ (zby z) := ⟨_, rfl⟩
   have hE3 : Blk w3 (w.heap.size + 1 + 1) 28 #[zby z] := by rw [hw3]; exact zm hE2 0 _
   have hN3 : Blk w3 (w.heap.size + 1) 3 #[.int .i64 0] := by rw [hw3]; exact zac (zai (zp _ _) 0 _) hN2 (by omega)
   have HB3 := Hq (show Below w.heap.size w w3 by rw [hw3]; exact HB2.out.setCell (p := ⟨w.heap.size + 1 + 1, 0, none⟩) (by show w.heap.size <= w.heap.size + 1 + 1; omega) _)
   have hE5 : Blk ((w3.setCell ⟨w.heap.size + 1, 0, none⟩ (.int .i64 0)).setCell ⟨w.heap.size + 1 + 1, 0, none⟩ (zby z)) (w.heap.size + 1 + 1) 28 #[zby z] := zm (zac (zai (zp _ _) 0 _) hE3 (by omega)) 0 _
   have hN5 : Blk ((w3.setCell ⟨w.heap.size + 1, 0, none⟩ (.int .i64 0)).setCell ⟨w.heap.size + 1 + 1, 0, none⟩ (zby z)) (w.heap.size + 1) 3 #[.int .i64 0] := zac (zai (zp _ _) 0 _) (zm hN3 0 _) (by omega)
   have HB5 := Hq (show Below w.heap.size w ((w3.setCell ⟨w.heap.size + 1, 0, none⟩ (.int .i64 0)).setCell ⟨w.heap.size + 1 + 1, 0, none⟩ (zby z)) from (HB3.out.setCell (p := ⟨w.heap.size + 1, 0, none⟩) (by show w.heap.size <= w.heap.size + 1; omega) _).setCell (p := ⟨w.heap.size + 1 + 1, 0, none⟩) (by show w.heap.size <= w.heap.size + 1 + 1; omega) _)
   have n4 := hN3.cell 0
   have n5 := hN3.frozen 0
   have n6 := hN3.lt
   have f5 := hE3.frozen 0
   have f6 := hE3.lt
   have f7 := hE3.cell 0
   have hne : ¬ w.heap.size + 1 + 1 = w.heap.size + 1 := by omega
   have HSH := Hq (show w3.cell? ⟨w.heap.size + 1 + 1, 0, none⟩ = some (zby z) from f7)
   have HSI := Hq (show (w3.setCell ⟨w.heap.size + 1, 0, none⟩ (.int .i64 0)).cell? ⟨w.heap.size + 1 + 1, 0, none⟩ = some (zby z) from (zac (zai (zp _ _) 0 _) hE3 (by omega)).cell 0)
   have HSJ := Hq (show ((w3.setCell ⟨w.heap.size + 1, 0, none⟩ (.int .i64 0)).setCell ⟨w.heap.size + 1 + 1, 0, none⟩ (zby z)).cell? ⟨w.heap.size + 1 + 1, 0, none⟩ = some (zby z) from hE5.cell 0)
   clear hb2 c0 c1 c2 c3 c4 c9 HX HH HV
   go_upto_region 3 with fail
   rw [<- hw3]
   clear hw3
   go_region_held3 (fun W' => W'.cell? ⟨w.heap.size + 1 + 1, 0, none⟩ = some (zby z))
     (first | exact HSH.out | exact HSI.out | exact HSJ.out)
     (fail)
   obtain ⟨w5, hw5⟩ : ∃ w5, w5 = ((w3.setCell ⟨w.heap.size + 1, 0, none⟩ (.int .i64 0)).setCell ⟨w.heap.size + 1 + 1, 0, none⟩ (.iface 31 (.int .i64 z))).drew := ⟨_, rfl⟩
   have d0 : w5.cell? ⟨w.heap.size + 1, 0, none⟩ = some (.int .i64 0) := by rw [hw5]; exact hN5.cell 0
   have d1 : w5.cell? ⟨w.heap.size + 1 + 1, 0, none⟩ = some (zby z) := by rw [hw5]; exact hE5.cell 0
   have HB6 := Hq (show Below w.heap.size w w5 by rw [hw5]; exact HB5.out.drew)
   rw [<- hw5]
   clear hw5 hE2 hN2 hE3 hN3 hE5 hN5 HB5 n4 n5 n6 f5 f6 f7 b0 b1 b2 HSH HSI HSJ
   go_wp2_with fail
   simp [bodyPostD, Leaves, settle, results, Tryz.results5, go_sem, d0, d1]
   exact ⟨HB6.out, Or.inl ⟨z, rfl⟩⟩
 case pos =>
   obtain ⟨h30, ht0⟩ := zve.1 h0
   obtain ⟨A, g, hmo, hme, hrh, hnum⟩ := z4y h.size (Nat.le_refl _) (m := h.typed.2) (by rw [<- ht0])
   have htm : h.typed = (0, zaz A g) := by rw [<- hme, <- ht0]
   have htf : (zjl h).2 = zaz A g := by unfold zjl; rw [if_neg (by omega), hme]
   rw [hme] at hmo
   have hml : (zaz A g).length <= 200 := by have := zfh h; rw [htm] at this; exact this
   rw [h0, zqp, htf] at HT
   have HIN := Hq (show h.size <= 30 /\ h.typed = (0, zaz A g) /\ zk (zaz A g) A g /\ RH h A g /\ zdb g = true from ⟨h30, htm, hmo, hrh, hnum⟩)
   have HMC := Hq (fun W => zat (zaz A g) (by omega) W)
   have hA5 : A.length <= 5 := hmo.2.2.1
   have HFIN := Hq (fun (W : World) (k : Int) (hn : Blk W (w.heap.size + 1) 3 #[.int .i64 0]) (he : Blk W (w.heap.size + 1 + 1) 28 #[.nilIface]) (hb : Below w.heap.size w W) => show ((W.setCell ⟨w.heap.size + 1, 0, none⟩ (.int .i64 0)).setCell ⟨w.heap.size + 1 + 1, 0, none⟩ (.iface 31 (.int .i64 k))).cell? ⟨w.heap.size + 1, 0, none⟩ = some (.int .i64 0) /\ ((W.setCell ⟨w.heap.size + 1, 0, none⟩ (.int .i64 0)).setCell ⟨w.heap.size + 1 + 1, 0, none⟩ (.iface 31 (.int .i64 k))).cell? ⟨w.heap.size + 1 + 1, 0, none⟩ = some (zby k) /\ Below w.heap.size w ((W.setCell ⟨w.heap.size + 1, 0, none⟩ (.int .i64 0)).setCell ⟨w.heap.size + 1 + 1, 0, none⟩ (.iface 31 (.int .i64 k))) from
     ⟨(zac (zai (zp _ _) 0 _) (zm hn 0 _) (by omega) : Blk _ _ _ _).cell 0, (zm (zac (zai (zp _ _) 0 _) he (by omega)) 0 _ : Blk _ _ _ _).cell 0, (hb.setCell (p := ⟨w.heap.size + 1, 0, none⟩) (by show w.heap.size <= w.heap.size + 1; omega) _).setCell (p := ⟨w.heap.size + 1 + 1, 0, none⟩) (by show w.heap.size <= w.heap.size + 1 + 1; omega) _⟩)
   obtain ⟨mt, hmt⟩ : ∃ mt, mt = zaz A g := ⟨_, rfl⟩
   rw [<- hmt] at HT HMC
   have HMT := Hq hmt
   clear hmt
   clear h0 h30 ht0 hmo hme hrh hnum htm htf
   go_wp2_with fail
   refine HT.out.mono ?_
   rintro e w2 ⟨rfl, hb2⟩
   have hE2 := HE.out.below hb2
   have b0 := hE2.cell 0
   have b1 := hE2.frozen 0
   have b2 := hE2.lt
   obtain ⟨w3, hw3⟩ : ∃ w3, w3 = w2.setCell ⟨w.heap.size + 1 + 1, 0, none⟩ .nilIface := ⟨_, rfl⟩
   have hg3 : w2.grownBy w3 (some (w.heap.size + 1 + 1)) := by rw [hw3]; exact zai (zp _ _) 0 _
   have HE3 := Hq (show Blk w3 (w.heap.size + 1 + 1) 28 #[.nilIface] by rw [hw3]; exact zm hE2 0 _)
   have HN3 := Hq (show Blk w3 (w.heap.size + 1) 3 #[.int .i64 0] from zac hg3 (HN.out.below hb2) (by omega))
   have HX3 := Hq (show zi7 w3 w.heap.size h from zac hg3 (HX.out.below hb2) (by omega))
   have HB3 := Hq (show Below w.heap.size w w3 by rw [hw3]; exact (zc HB.out hb2).setCell (p := ⟨w.heap.size + 1 + 1, 0, none⟩) (by show w.heap.size <= w.heap.size + 1 + 1; omega) _)
   have f0 := HE3.out.cell 0
   have f1 := HE3.out.lt
   clear hb2 hg3 hE2 HT c0 c1 c2 c3 c4 c9
   go_upto_region 2 with fail
   rw [<- hw3]
   clear hw3 b0 b1 b2
   go_wp2_with fail
   refine (HMC.out _).mono ?_
   rintro e w4 ⟨hb4, ⟨rfl, hno⟩ | ⟨v, A', g', rfl, hok, ho⟩⟩
   . rw [HMT.out] at hno
     exact absurd HIN.out.2.2.1 (hno _ _)
   rw [HMT.out] at hok
   obtain ⟨rfl, rfl⟩ := zap hok HIN.out.2.2.1
   obtain ⟨ta, tc, rfl, hts⟩ := zl ho
   have hE4 := HE3.out.below hb4
   have b0 := hE4.cell 0
   have b1 := hE4.frozen 0
   have b2 := hE4.lt
   obtain ⟨w5, hw5⟩ : ∃ w5, w5 = w4.setCell ⟨w.heap.size + 1 + 1, 0, none⟩ .nilIface := ⟨_, rfl⟩
   have hg5 : w4.grownBy w5 (some (w.heap.size + 1 + 1)) := by rw [hw5]; exact zai (zp _ _) 0 _
   have HE5 := Hq (show Blk w5 (w.heap.size + 1 + 1) 28 #[.nilIface] by rw [hw5]; exact zm hE4 0 _)
   have HN5 := Hq (show Blk w5 (w.heap.size + 1) 3 #[.int .i64 0] from zac hg5 (HN3.out.below hb4) (by omega))
   have HX5 := Hq (show zi7 w5 w.heap.size h from zac hg5 (HX3.out.below hb4) (by omega))
   have HB5 := Hq (show Below w.heap.size w w5 by rw [hw5]; exact (zc HB3.out hb4).setCell (p := ⟨w.heap.size + 1 + 1, 0, none⟩) (by show w.heap.size <= w.heap.size + 1 + 1; omega) _)
   have hlo : w.heap.size + 1 + 1 < w3.heap.size := HE3.out.lt
   have HTS5 := Hq (show zdl w5 ta tc A' from by
     obtain ⟨a', c', e', hs'⟩ := zl (show w5.ownsRow w3.heap.size 9 1 (.slice ta A'.length tc) A'.length (A'.map zz) by rw [hw5]; exact zax ho (fun e => by have := (ho.lt _ e).1; omega) _)
     simp only [Value.slice.injEq] at e'
     obtain ⟨rfl, _, rfl⟩ := e'
     exact hs')
   have f0 := HE5.out.cell 0
   have f1 := HE5.out.lt
   clear hb4 hg5 hE4 HMC hok ho hts f0 f1
   have f0 := HE5.out.cell 0
   have f1 := HE5.out.lt
   have f2 := HE5.out.frozen 0
   have n0 := HN5.out.cell 0
   have n1 := HN5.out.lt
   have n2 := HN5.out.frozen 0
   go_upto_region 5 with fail
   rw [<- hw5]
   clear hw5 b0 b1 b2
   by_cases hln : A'.length = vs.length
   case neg =>
     have q1 : ((A'.length : Int) != (vs.length : Int)) = true := by simp; omega
     have q2 : (A'.length != vs.length) = true := by simp; omega
     have q3 : (A'.length == vs.length) = false := by rw [beq_eq_false_iff_ne]; exact hln
     have q4 : ((A'.length : Int) == (vs.length : Int)) = false := by rw [beq_eq_false_iff_ne]; omega
     clear hln
     go_wp2_with fail
     obtain ⟨d0, d1, hb8⟩ := HFIN.out w5 8 HN5.out HE5.out HB5.out
     have HB8 := Hq hb8
     clear hb8
     generalize (w5.setCell ⟨w.heap.size + 1, 0, none⟩ (.int .i64 0)).setCell ⟨w.heap.size + 1 + 1, 0, none⟩ (.iface 31 (.int .i64 8)) = w8 at d0 d1 HB8 |-
     simp [bodyPostD, Leaves, settle, results, Tryz.results5, go_sem, d0, d1]
     exact ⟨HB8.out, Or.inl ⟨8, rfl⟩⟩
   case pos =>
     have q1 : ((A'.length : Int) != (vs.length : Int)) = false := by simp; omega
     have q2 : (A'.length != vs.length) = false := by simp; omega
     have HLN := Hq hln
     have hv5 : vs.length <= 5 := by omega
     have HMA := Hq (fun W (hw : Below w.heap.size w W) (hv : zab W a c (vs.map (Value.int .i64))) => show Calls Tryz.prog 18 #[.agg #[.int .i64 h.kind, .string ⟨⟨h.ty⟩⟩, .int .i64 h.a, .slice h.pa h.pos.length h.pc, .slice h.sa h.subs.length h.sc], .slice a vs.length c] W (zbh W (zbw ofO h.size h vs)) from zfz h.size HIN.out.2.2.2.1 (Nat.le_refl _) HH.out hA5 vs a c W hw hln.symm hv)
     clear hln
     go_wp2_with fail
     clear q1 q2 f0 f1 f2 n0 n1 n2
     go_loopw [36] (fun i wr => ∃ j : Nat, j <= vs.length /\ i = .int .i64 j /\ Below w5.heap.size w5 wr) (fun i _ => vs.length - (RowKit.intOf i).toNat)
     case atStart => exact ⟨0, by omega, rfl, Below.refl _ _⟩
     case round =>
       obtain ⟨j, hj, rfl, hbr⟩ := hrel
       have HBR := Hq hbr
       have HBW := Hq (zc HB5.out hbr)
       have hEr := HE5.out.below hbr
       have hNr := HN5.out.below hbr
       have f0 := hEr.cell 0
       have f1 := hEr.lt
       have f2 := hEr.frozen 0
       have n0 := hNr.cell 0
       have n1 := hNr.lt
       have n2 := hNr.frozen 0
       clear hbr
       by_cases hlj : j < vs.length
       . obtain ⟨x, hx⟩ : ∃ x, vs[j]? = some x := ⟨_, List.getElem?_eq_getElem hlj⟩
         obtain ⟨t, ht⟩ : ∃ t, A'[j]? = some t := ⟨_, List.getElem?_eq_getElem (by have := HLN.out; omega)⟩
         obtain ⟨vb, vo, hva, hvlt, hvc⟩ := zkt (HV.out.below HBW.out) hx
         obtain ⟨tb, to_, hta, htlt, htc⟩ := zeq (HTS5.out.below HBR.out) ht
         have hjA : (j : Int) < (A'.length : Int) := by have := HLN.out; omega
         have HWD := Hq (fun W => zh2 x W)
         rw [hva, hta]
         clear hx ht hva hta
         by_cases ht : t = [73]
         . subst ht
           by_cases hxw : x = wrap32 x
           . have q1 : (x == wrap32 x) = true := by rw [beq_iff_eq]; exact hxw
             have q2 : (x != wrap32 x) = false := by rw [bne, q1]; rfl
             clear hxw
             go_wp2_with fail
             refine (HWD.out _).mono ?_
             rintro e w6 ⟨rfl, rfl⟩
             go_wp2_with fail
             go_roundw
             case rel => exact ⟨j + 1, by omega, by go_num, HBR.out⟩
             case measure => simp [RowKit.intOf]; omega
           . have q1 : (x == wrap32 x) = false := by rw [beq_eq_false_iff_ne]; exact hxw
             have q2 : (x != wrap32 x) = true := by rw [bne, q1]; rfl
             clear hxw
             go_wp2_with fail
             refine (HWD.out _).mono ?_
             rintro e w6 ⟨rfl, rfl⟩
             go_wp2_with fail
             obtain ⟨d0, d1, hb8⟩ := HFIN.out _ 2 hNr hEr HBW.out
             have HB8 := Hq hb8
             clear hb8 hEr hNr f0 f1 f2 n0 n1 n2
             generalize (World.setCell (World.setCell _ ⟨w.heap.size + 1, 0, none⟩ (.int .i64 0)) ⟨w.heap.size + 1 + 1, 0, none⟩ (.iface 31 (.int .i64 2))) = w8 at d0 d1 HB8 |-
             simp [bodyPostD, Leaves, settle, results, Tryz.results5, go_sem, d0, d1]
             exact ⟨HB8.out, Or.inl ⟨2, rfl⟩⟩
         . have q1 : (t == [73]) = false := by rw [beq_eq_false_iff_ne]; exact ht
           clear ht
           go_wp2_with fail
           go_roundw
           case rel => exact ⟨j + 1, by omega, by go_num, HBR.out⟩
           case measure => simp [RowKit.intOf]; omega
       . obtain rfl : j = vs.length := by omega
         obtain ⟨c0, c1, c2, c3, c4⟩ := (HX5.out.below HBR.out).cells
         have c9 := (HX5.out.below HBR.out).lt
         have HCM := Hq (HMA.out wr HBW.out (HV.out.below HBW.out))
         have HNR := Hq hNr
         have HER := Hq hEr
         clear hlj hEr hNr f0 f1 f2 n0 n1 n2 HMA HV HH
         go_wp2_with fail
         refine HCM.out.mono ?_
         rintro e w7 ⟨hb7, ⟨n, hn, rfl⟩ | ⟨hn, rfl⟩⟩
         . have hN7 := HNR.out.below hb7
           have hE7 := HER.out.below hb7
           have f0 := hE7.cell 0
           have f1 := hE7.lt
           have f2 := hE7.frozen 0
           have n0 := hN7.cell 0
           have n1 := hN7.lt
           have n2 := hN7.frozen 0
           have HMD := Hq hn
           have HB7 := Hq (zc HBW.out hb7)
           clear hb7 hn HCM c0 c1 c2 c3 c4 c9
           go_wp2_with fail
           obtain ⟨w9, hw9⟩ : ∃ w9, w9 = (w7.setCell ⟨w.heap.size + 1, 0, none⟩ (.int .i64 n)).setCell ⟨w.heap.size + 1 + 1, 0, none⟩ .nilIface := ⟨_, rfl⟩
           have d0 : w9.cell? ⟨w.heap.size + 1, 0, none⟩ = some (.int .i64 n) := by rw [hw9]; exact (zac (zai (zp _ _) 0 _) (zm hN7 0 _) (by omega) : Blk _ _ _ _).cell 0
           have d1 : w9.cell? ⟨w.heap.size + 1 + 1, 0, none⟩ = some .nilIface := by rw [hw9]; exact (zm (zac (zai (zp _ _) 0 _) hE7 (by omega)) 0 _ : Blk _ _ _ _).cell 0
           have HB9 := Hq (show Below w.heap.size w w9 by rw [hw9]; exact (HB7.out.setCell (p := ⟨w.heap.size + 1, 0, none⟩) (by show w.heap.size <= w.heap.size + 1; omega) _).setCell (p := ⟨w.heap.size + 1 + 1, 0, none⟩) (by show w.heap.size <= w.heap.size + 1 + 1; omega) _)
           rw [<- hw9]
           clear hw9 hN7 hE7 f0 f1 f2 n0 n1 n2
           refine leaves_cons (f := 17) (args := #[.pointer (some ⟨w.heap.size + 1, 0, none⟩), .pointer (some ⟨w.heap.size + 1 + 1, 0, none⟩)]) (by simp) (by simp [go_sem]) ?_
           refine (zsb _ _ _).mono ?_
           rintro e u' w10 ⟨rfl, rfl, rfl⟩
           simp [Leaves, settle, results, Tryz.results5, go_sem, d0, d1]
           obtain ⟨i1, i2, i3, i4, i5⟩ := HIN.out
           exact ⟨HB9.out, Or.inr ⟨n, A', g', rfl, i1, i2, i3, i4, i5, HLN.out.symm, HMD.out⟩⟩
         . have hN7 := HNR.out.below hb7
           have hE7 := HER.out.below hb7
           refine leaves_cons (f := 17) (args := #[.pointer (some ⟨w.heap.size + 1, 0, none⟩), .pointer (some ⟨w.heap.size + 1 + 1, 0, none⟩)]) (by simp) (by simp [go_sem]) ?_
           refine (zvp (w.heap.size + 1) (w.heap.size + 1 + 1) _ _ _ hN7 hE7).mono ?_
           rintro e u' w9 ⟨rfl, rfl, hw9⟩
           obtain ⟨d0', d1', hb8⟩ := HFIN.out w7 3 hN7 hE7 (zc HBW.out hb7)
           have d0 : w9.cell? ⟨w.heap.size + 1, 0, none⟩ = some (.int .i64 0) := by rw [hw9]; exact (World.cell?_alloc_some _ _ _ (by rw [d0']; rfl)).trans d0'
           have d1 : w9.cell? ⟨w.heap.size + 1 + 1, 0, none⟩ = some (zby 3) := by rw [hw9]; exact (World.cell?_alloc_some _ _ _ (by rw [d1']; rfl)).trans d1'
           have HB9 := Hq (show Below w.heap.size w w9 by rw [hw9]; exact ze hb8 _)
           simp [Leaves, settle, results, Tryz.results5, go_sem, d0, d1]
           exact ⟨HB9.out, Or.inl ⟨3, rfl⟩⟩
end Go.Proofs.YtbnkckjdgpiggaaGreatDoor
