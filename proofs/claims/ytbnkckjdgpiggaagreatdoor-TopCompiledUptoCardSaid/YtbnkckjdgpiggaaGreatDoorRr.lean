import Derived.Test.YtbnkckjdgpiggaaGreatDoorRq
import Derived.Test.YtbnkckjdgpiggaaGreatDoorHb
import Derived.Deep.RegionHeld
namespace Go.Proofs.YtbnkckjdgpiggaaGreatDoor
set_option maxRecDepth 100000
set_option maxHeartbeats 16000000
set_option linter.unusedVariables false
set_option linter.unusedSimpArgs false
open Go.RowKit Go.Shelf Go.Lib
def zru (a : Option Addr) (lo cap : Nat) : Option Addr := if cap = lo then a else a.map (·.add (lo * 1))
theorem zee {w : World} {a : Option Addr} {cap : Nat} {xs : List Value} (h : zab w a cap xs) {lo hi : Nat} (h1 : lo <= hi) (h2 : hi <= xs.length) : zab w (zru a lo cap) (cap - lo) ((xs.drop lo).take (hi - lo)) := by
 obtain ⟨hc, h3⟩ := h
 refine ⟨by simp; omega, ?_⟩
 rcases h3 with rfl | ⟨b, off, rfl, hlt, hv⟩
 . left; simp
 . by_cases e : cap = lo
   . left
     have : hi - lo = 0 := by omega
     rw [this]; simp
   . right
     refine ⟨b, off + lo, ?_, hlt, fun j x hx => ?_⟩
     . unfold zru; rw [if_neg e]; simp [Addr.add]
     . rw [List.getElem?_take] at hx
       split at hx
       . rw [List.getElem?_drop] at hx
         have := hv _ _ hx
         rwa [<- Nat.add_assoc] at this
       . cases hx
theorem zka {w : World} {a : Option Addr} {cap : Nat} {xs : List Value} (h : zab w a cap xs) (h1 : ∀ u ∈ xs, u.oneCell' = true) : z4k w 1 (.slice a xs.length cap) xs.length xs := by
 obtain ⟨_, rfl | ⟨b, off, rfl, _, hc⟩⟩ := h
 . cases a with
   | none => exact Or.inl ⟨cap, rfl, rfl, rfl⟩
   | some ad => exact Or.inr ⟨rfl, by simp, Or.inr ⟨ad, cap, rfl, fun j u hj => by simp at hj⟩⟩
 . refine Or.inr ⟨by simp, h1, Or.inr ⟨_, cap, rfl, fun j u hj => ?_⟩⟩
   have e : (⟨b, off, none⟩ : Addr).add j = ⟨b, off + j, none⟩ := by unfold Addr.add; split <;> simp_all
   rw [e]; exact hc j u hj
theorem ze4 {P : Program} {t e : TypeId} (ht : P.underlying t = some (.slice e)) (hs : ∀ W, (sizeOf e).run P W = .ok 1 W) (a : Option Addr) (n cap lo : Nat) (h : lo <= n) (k : IntKind) (W : World) :
   (Instr.slice t (.slice a n cap) (some (.int k (lo : Int))) none none).run P W = .ok (.slice (zru a lo cap) (n - lo) (cap - lo)) W := by
 have ht' : P.underlying t = some (.slice (P.elem t)) := by simp [Program.elem, ht]
 have he : P.elem t = e := by simp [Program.elem, ht]
 rw [run_slice_l W _ _ _ _ ht' k lo (by omega) (by omega), he, hs]
 simp [Result.andThen, sliced, zru]
theorem ze7 {P : Program} {t e : TypeId} (ht : P.underlying t = some (.slice e)) (hs : ∀ W, (sizeOf e).run P W = .ok 1 W) (a : Option Addr) (n cap hi : Nat) (h : hi <= cap) (k : IntKind) (W : World) :
   (Instr.slice t (.slice a n cap) none (some (.int k (hi : Int))) none).run P W = .ok (.slice (zru a 0 cap) hi cap) W := by
 have ht' : P.underlying t = some (.slice (P.elem t)) := by simp [Program.elem, ht]
 have he : P.elem t = e := by simp [Program.elem, ht]
 rw [run_slice_h W _ _ _ _ ht' k hi (by omega) (by omega), he, hs]
 simp [Result.andThen, sliced, zru]
theorem zn9 {P : Program} {t e : TypeId} (ht : P.underlying t = some (.slice e)) (hs : ∀ W, (sizeOf e).run P W = .ok 1 W) (a : Option Addr) (n cap lo hi : Nat) (h0 : lo <= hi) (h : hi <= cap) (k l : IntKind) (W : World) :
   (Instr.slice t (.slice a n cap) (some (.int k (lo : Int))) (some (.int l (hi : Int))) none).run P W = .ok (.slice (zru a lo cap) (hi - lo) (cap - lo)) W := by
 have ht' : P.underlying t = some (.slice (P.elem t)) := by simp [Program.elem, ht]
 have he : P.elem t = e := by simp [Program.elem, ht]
 rw [run_slice_lh W _ _ _ _ ht' k l lo hi (by omega) (by omega) (by omega), he, hs]
 simp [Result.andThen, sliced, zru]
theorem zae (s : List UInt8) (w : World) : Calls Tryz.prog 70 #[.string ⟨⟨s⟩⟩] w fun e w' => e = .returned (.bool (zdb s)) /\ w = w' := by
 by_cases h1 : s = [73]
 . subst h1
   go_enter Tryz.func70, Tryz.ntmps70
   go_wp2_with fail
   go_ret
   exact ⟨rfl, rfl⟩
 . have q1 : (s == [73]) = false := by rw [beq_eq_false_iff_ne]; exact h1
   unfold zdb
   rw [q1]
   clear h1
   go_enter Tryz.func70, Tryz.ntmps70
   go_wp2_with fail
   go_ret
   exact ⟨by simp, rfl⟩
theorem zpo (n : Int) (w : World) : Calls Tryz.prog 71 #[.int .i64 n] w fun e w' => e = .returned (.bool (n == wrap32 n)) /\ w = w' := by
 have hq : (n == wrap32 n) = (decide (-2147483648 <= n) && decide (n <= 2147483647)) := by
   rw [Bool.eq_iff_iff, Bool.and_eq_true, decide_eq_true_eq, decide_eq_true_eq, beq_iff_eq]
   unfold wrap32
   omega
 rw [hq]
 clear hq
 go_enter Tryz.func71, Tryz.ntmps71
 go_wp2_with fail
 all_goals (go_ret; exact ⟨zaa (by rw [Bool.eq_iff_iff]; simp only [Bool.and_eq_true, decide_eq_true_eq, Bool.false_eq_true, iff_true, iff_false, false_iff, true_iff]; omega), rfl⟩)
theorem zfv (A : List Nm) (a : Option Addr) (cap : Nat) (g : Nm) (w : World) (h : zdl w a cap A) (hl : A.length <= 10) (hf : A.flatten.length <= 100000) (hg : g.length <= 100000) :
   Calls Tryz.prog 72 #[.slice a A.length cap, .string ⟨⟨g⟩⟩] w fun e w' => e = .returned (.string ⟨⟨zaz A g⟩⟩) /\ Below w.heap.size w w' := by
 have HR := Hq h
 clear h
 have HF := Hq (fun (k : Nat) (t : Nm) (ht : A[k]? = some t) => show (A.take (k + 1)).flatten = (A.take k).flatten ++ t by rw [List.take_add_one, ht]; simp)
 have HL := Hq (fun (k : Nat) => show (A.take k).flatten.length <= 100000 by
   have : A.flatten = (A.take k).flatten ++ (A.drop k).flatten := by rw [<- List.flatten_append, List.take_append_drop]
   rw [this, List.length_append] at hf
   omega)
 clear hf
 go_enter Tryz.func72, Tryz.ntmps72
 go_wp2_with fail
 go_loopw [5, 6] (fun s i wr => ∃ k : Nat, k <= A.length /\ i = .int .i64 k /\ s = .string ⟨⟨40 :: (A.take k).flatten⟩⟩ /\ Below w.heap.size w wr) (fun _ i _ => A.length - (RowKit.intOf i).toNat)
 case atStart => exact ⟨0, by omega, rfl, rfl, Below.refl _ _⟩
 case round =>
   obtain ⟨k, hk, rfl, rfl, hb⟩ := hrel
   have HB := Hq hb
   clear hb
   by_cases hlk : k < A.length
   . obtain ⟨t, ht⟩ : ∃ t, A[k]? = some t := ⟨_, List.getElem?_eq_getElem hlk⟩
     have HT := Hq (HF.out k t ht)
     obtain ⟨_, h0 | ⟨b, off, rfl, hlt, hc⟩⟩ := HR.out.below HB.out
     . subst h0; simp at hlk
     have hcell := hc k t ht
     have hl1 := HL.out k
     have hl2 := HL.out (k + 1)
     rw [HT.out] at hl2
     obtain ⟨F, hFq⟩ : ∃ F, F = (A.take k).flatten := ⟨_, rfl⟩
     rw [<- hFq] at HT hl1 hl2 |-
     rw [List.length_append] at hl2
     clear hFq ht hc
     unfold zz at hcell
     go_wp2_with fail
     go_roundw
     case rel => exact ⟨k + 1, by omega, by go_num, by rw [HT.out], HB.out⟩
     case measure => simp [RowKit.intOf]; omega
   . obtain rfl : k = A.length := by omega
     have hl1 := HL.out A.length
     rw [List.take_length] at hl1 |-
     generalize hFq : A.flatten = F at hl1 |-
     have HFQ := Hq hFq
     clear hFq
     go_wp2_with fail
     go_ret
     exact ⟨by unfold zaz; rw [HFQ.out]; simp, HB.out⟩
open Go.Sort
theorem zg5 {w : World} {a : Option Addr} {cap : Nat} {A : List Nm} (h : zdl w a cap A) : zab w a cap (A.map zz) := by
 obtain ⟨h1, h2 | ⟨b, off, rfl, hlt, hc⟩⟩ := h
 . subst h2; exact ⟨by simp, Or.inl rfl⟩
 . refine ⟨by simpa using h1, Or.inr ⟨b, off, rfl, hlt, fun j x hj => ?_⟩⟩
   rw [List.getElem?_map] at hj
   cases hA : A[j]? with
   | none => rw [hA] at hj; cases hj
   | some y => rw [hA] at hj; cases hj; exact hc j y hA
theorem zi0 {w : World} {a : Option Addr} {cap n : Nat} {A : List Nm} (h : zab w a cap (A.map zz)) (hn : n = A.length) : z4k w 1 (.slice a n cap) n (A.map zz) := by
 have := zka h (zo5 A)
 rw [List.length_map] at this
 rw [hn]; exact this
theorem zo6 (W : World) : (sizeOf 9).run Tryz.prog W = .ok 1 W := Tryz.sizeOf9 W
theorem zlx {α : Type} (A : List α) (i : Nat) : A.take i ++ (A.drop (i + 1)).take (A.length - (i + 1)) = A.eraseIdx i := by
 have h : (A.drop (i + 1)).take (A.length - (i + 1)) = A.drop (i + 1) := List.take_of_length_le (by simp)
 rw [h, List.eraseIdx_eq_take_drop_succ]
theorem zof (A : List Nm) (i : Nat) (hi : i < A.length) (hl : A.length <= 1000) (a : Option Addr) (cap : Nat) (w : World) (h : zdl w a cap A) :
   Calls Tryz.prog 73 #[.slice a A.length cap, .int .i64 i] w fun e w' => ∃ v, e = .returned v /\ w'.ownsRow w.heap.size 9 1 v (A.eraseIdx i).length ((A.eraseIdx i).map zz) /\ Below w.heap.size w w' := by
 have hc : A.length <= cap := h.1
 obtain ⟨a1, ha1⟩ : ∃ a1, a1 = zru a 0 cap := ⟨_, rfl⟩
 obtain ⟨a2, ha2⟩ : ∃ a2, a2 = zru a (i + 1) cap := ⟨_, rfl⟩
 obtain ⟨n2, hn2⟩ : ∃ n2, n2 = A.length - (i + 1) := ⟨_, rfl⟩
 obtain ⟨c2, hc2⟩ : ∃ c2, c2 = cap - (i + 1) := ⟨_, rfl⟩
 have hs1 : ∀ W, (Instr.slice 35 (.slice a A.length cap) none (some (.int .i64 (i : Int))) none).run Tryz.prog W = .ok (.slice a1 i cap) W := fun W => by rw [ha1]; exact ze7 Tryz.underlying35 zo6 a A.length cap i (by omega) .i64 W
 have hs2 : ∀ W, (Instr.slice 35 (.slice a A.length cap) (some (.int .i64 ((i : Int) + 1))) none none).run Tryz.prog W = .ok (.slice a2 n2 c2) W := fun W => by rw [ha2, hn2, hc2]; exact ze4 Tryz.underlying35 zo6 a A.length cap (i + 1) (by omega) .i64 W
 have hwr : IntKind.i64.wrap ((i : Int) + 1) = (i : Int) + 1 := by rw [IntKind.wrap_i64]; omega
 have HV1 := Hq (fun W (hb : Below w.heap.size w W) => show zab W a1 cap ((A.take i).map zz) by
   have := zee ((zg5 h).below hb) (lo := 0) (hi := i) (by omega) (by simp; omega)
   rw [ha1, List.map_take]
   simpa using this)
 have HV2 := Hq (fun W (hb : Below w.heap.size w W) => show zab W a2 c2 (((A.drop (i + 1)).take n2).map zz) by
   have := zee ((zg5 h).below hb) (lo := i + 1) (hi := A.length) (by omega) (by simp)
   rw [ha2, hc2, hn2, List.map_take, List.map_drop]
   exact this)
 have HE := Hq (show A.take i ++ (A.drop (i + 1)).take n2 = A.eraseIdx i by rw [hn2]; exact zlx A i)
 have HL := Hq (show ((A.drop (i + 1)).take n2).length = n2 /\ (A.take i).length = i /\ (A.eraseIdx i).length = i + n2 by
   rw [List.length_eraseIdx, if_pos hi]
   refine ⟨?_, ?_, ?_⟩
   . rw [List.length_take, List.length_drop]; omega
   . rw [List.length_take]; omega
   . omega)
 have hb2 : i + n2 <= 1000 := by omega
 clear h ha1 ha2 hn2 hc2
 go_enter Tryz.func73, Tryz.ntmps73
 go_upto_region 1 with fail
 refine wp_region_held_drew (S := fun _ => True) (by kernel_rfl) ?_ (fun hHeld => ?_)
 . trivial
 refine wpAnyH_take (i := 1) (oi := { dst := some 6, op := Op.move (Operand.tmp 0), type := 35, pos := "trees.go:133", after := #[], guard := none }) (v := ?_) rfl (by kernel_rfl) (by kernel_rfl) (by kernel_rfl) (fun _ _ _ h => h) (Or.inl ⟨by rfl, ?_⟩) (by assumption) ?_
 rotate_left
 . (intro w hSw; (try dsimp only at hSw); go_simp; try with_reducible rfl)
 refine wpAnyH_take (i := 2) (oi := { dst := some 7, op := Op.move (Operand.tmp 1), type := 3, pos := "trees.go:133", after := #[], guard := none }) (v := ?_) rfl (by kernel_rfl) (by kernel_rfl) (by kernel_rfl) (fun _ _ _ h => h) (Or.inl ⟨by rfl, ?_⟩) (by assumption) ?_
 rotate_left
 . (intro w hSw; (try dsimp only at hSw); go_simp; try with_reducible rfl)
 refine wpAnyH_take (i := 3) (oi := { dst := some 8, op := Op.slice 35 (Operand.tmp 6) none (some (Operand.tmp 7)) none, type := 35, pos := "trees.go:133", after := #[{ on := 1, ground := Ground.data }, { on := 2, ground := Ground.data }], guard := none }) (v := ?_) rfl (by kernel_rfl) (by kernel_rfl) (by kernel_rfl) (fun _ _ _ h => h) (Or.inl ⟨by rfl, ?_⟩) (by assumption) ?_
 rotate_left
 . (intro w hSw; (try dsimp only at hSw); go_simp; try with_reducible rfl)
 refine wpAnyH_take (i := 5) (oi := { dst := some 10, op := Op.move (Operand.tmp 0), type := 35, pos := "trees.go:133", after := #[], guard := none }) (v := ?_) rfl (by kernel_rfl) (by kernel_rfl) (by kernel_rfl) (fun _ _ _ h => h) (Or.inl ⟨by rfl, ?_⟩) (by assumption) ?_
 rotate_left
 . (intro w hSw; (try dsimp only at hSw); go_simp; try with_reducible rfl)
 refine wpAnyH_take (i := 6) (oi := { dst := some 11, op := Op.move (Operand.tmp 1), type := 3, pos := "trees.go:133", after := #[], guard := none }) (v := ?_) rfl (by kernel_rfl) (by kernel_rfl) (by kernel_rfl) (fun _ _ _ h => h) (Or.inl ⟨by rfl, ?_⟩) (by assumption) ?_
 rotate_left
 . (intro w hSw; (try dsimp only at hSw); go_simp; try with_reducible rfl)
 refine wpAnyH_take (i := 7) (oi := { dst := some 12, op := Op.binOp BinOp.add 3 (Operand.tmp 11) (Operand.const (Value.int IntKind.i64 1)) 3, type := 3, pos := "trees.go:133", after := #[{ on := 6, ground := Ground.data }], guard := none }) (v := ?_) rfl (by kernel_rfl) (by kernel_rfl) (by kernel_rfl) (fun _ _ _ h => h) (Or.inl ⟨by rfl, ?_⟩) (by assumption) ?_
 rotate_left
 . (intro w hSw; (try dsimp only at hSw); go_simp; try with_reducible rfl)
 refine wpAnyH_take (i := 8) (oi := { dst := some 13, op := Op.slice 35 (Operand.tmp 10) (some (Operand.tmp 12)) none none, type := 35, pos := "trees.go:133", after := #[{ on := 5, ground := Ground.data }, { on := 7, ground := Ground.data }], guard := none }) (v := ?_) rfl (by kernel_rfl) (by kernel_rfl) (by kernel_rfl) (fun _ _ _ h => h) (Or.inl ⟨by rfl, ?_⟩) (by assumption) ?_
 rotate_left
 . (intro w hSw; (try dsimp only at hSw); go_simp; try with_reducible rfl)
 try simp only [Act.put, List.setIfInBounds_toArray, List.set_cons_zero, List.set_cons_succ]
 refine wpAnyH_ready (rs := [0]) (by kernel_rfl) (by simp) ?_
 refine AllReadyH.cons (o := { dst := some 5, op := Op.buildSlice 35 0 #[], type := 35, pos := "trees.go:133", after := #[], guard := none }) rfl (fun K hK => ?_) AllReadyH.nil
 go_simp
 try go_wp2_with fail
 refine hK.out _ _ ?_ (fun hHeld => ?_)
 . trivial
 clear hK K
 try simp only [Act.put, List.setIfInBounds_toArray, List.set_cons_zero, List.set_cons_succ]
 have HB0 := Hq (show Below w.heap.size w (w.drew.alloc (.cells #[] 9)) from (Below.refl _ _).drew.alloc (Nat.le_refl _) _)
 have HO0 := Hq (show (w.drew.alloc (.cells #[] 9)).ownsRow w.heap.size 9 1 (.slice (some ⟨w.heap.size, 0, none⟩) 0 0) 0 [] from World.ownsRow_made w.drew #[] 0 (Nat.le_refl _) (by unfold maxLen; omega) rfl)
 refine wpAnyH_ready (rs := [4]) (by kernel_rfl) (by simp) ?_
 refine AllReadyH.cons (o := { dst := some 9, op := Op.call { callee := Callee.builtin Builtin.append, args := #[Operand.tmp 5, Operand.tmp 8], argTypes := #[35, 35] }, type := 35, pos := "trees.go:133", after := #[{ on := 0, ground := Ground.data }, { on := 3, ground := Ground.data }], guard := none }) rfl (fun K hK => ?_) AllReadyH.nil
 refine zdt zdu rfl (.tmp 5) (.tmp 8) rfl w.heap.size _ 0 [] rfl HO0.out _ i ((A.take i).map zz) rfl (zi0 (HV1.out _ HB0.out) HL.out.2.1.symm) (by omega) (by omega) HB0.out.size ?_
 intro v1 w1 ho1 hg1 hv1
 have HB1 := Hq (show Below w.heap.size w w1 from Below.grown HB0.out hg1 HB0.out.size hv1)
 have HO1 := Hq (show w1.ownsRow w.heap.size 9 1 v1 i ((A.take i).map zz) by simpa using ho1)
 clear ho1 hg1 hv1
 refine hK.out _ _ ?_ (fun hHeld => ?_)
 . trivial
 clear hK K
 try simp only [Act.put, List.setIfInBounds_toArray, List.set_cons_zero, List.set_cons_succ]
 refine wpAnyH_ready (rs := [9]) (by kernel_rfl) (by simp) ?_
 refine AllReadyH.cons (o := { dst := some 14, op := Op.call { callee := Callee.builtin Builtin.append, args := #[Operand.tmp 9, Operand.tmp 13], argTypes := #[35, 35] }, type := 35, pos := "trees.go:133", after := #[{ on := 4, ground := Ground.data }, { on := 8, ground := Ground.data }, { on := 4, ground := Ground.chain }], guard := none }) rfl (fun K hK => ?_) AllReadyH.nil
 refine zdt zdu rfl (.tmp 9) (.tmp 13) rfl w.heap.size _ i ((A.take i).map zz) rfl HO1.out _ n2 (((A.drop (i + 1)).take n2).map zz) rfl (zi0 (HV2.out _ HB1.out) HL.out.1.symm) (by omega) (by omega) HB1.out.size ?_
 intro v2 w2 ho2 hg2 hv2
 have HB2 := Hq (show Below w.heap.size w w2 from Below.grown HB1.out hg2 HB1.out.size hv2)
 have HO2 := Hq (show w2.ownsRow w.heap.size 9 1 v2 (A.eraseIdx i).length ((A.eraseIdx i).map zz) by rw [HL.out.2.2, <- HE.out, List.map_append]; exact ho2)
 clear ho2 hg2 hv2
 refine hK.out _ _ ?_ (fun hHeld => ?_)
 . trivial
 clear hK K
 refine wpAnyH_take (i := 10) (oi := { dst := some 4, op := Op.assign (Operand.tmp 14), type := 35, pos := "trees.go:133", after := #[{ on := 9, ground := Ground.data }, { on := 9, ground := Ground.chain }, { on := 0, ground := Ground.phase }, { on := 1, ground := Ground.phase }, { on := 2, ground := Ground.phase }, { on := 3, ground := Ground.phase }, { on := 4, ground := Ground.phase }, { on := 5, ground := Ground.phase }, { on := 6, ground := Ground.phase }, { on := 7, ground := Ground.phase }, { on := 8, ground := Ground.phase }, { on := 9, ground := Ground.phase }], guard := none }) (v := ?_) rfl (by kernel_rfl) (by kernel_rfl) (by kernel_rfl) (fun _ _ _ h => h) (Or.inl ⟨by rfl, ?_⟩) (by assumption) ?_
 rotate_left
 . (intro w hSw; (try dsimp only at hSw); go_simp; try with_reducible rfl)
 try simp only [Act.put, List.setIfInBounds_toArray, List.set_cons_zero, List.set_cons_succ]
 refine wpAnyH_done (by kernel_rfl) ?_ _
 clear hHeld hs1 hs2 HV1 HV2
 go_wp2_with fail
 go_ret
 exact ⟨_, rfl, HO2.out, HB2.out⟩
def zd5 (r : Int × Nm) (w : World) (e : Ending) (w' : World) : Prop := Below w.heap.size w w' /\ ∃ (t : Nm) (k : Int), e = .returned (.tuple #[.string ⟨⟨t⟩⟩, .int .i64 k]) /\ (k = 0 -> r = (0, t))
theorem zd5.bad {r : Int × Nm} {w w' : World} (hb : Below w.heap.size w w') {k : Int} (hk : k ≠ 0) : zd5 r w (.returned (.tuple #[.string ⟨#[]⟩, .int .i64 k])) w' := ⟨hb, [], k, rfl, fun h => absurd h hk⟩
theorem zkx {m g : Nm} {A : List Nm} {r : List Nm -> Int × List Nm} (h : zk m A g) (h0 : (r A).1 = 0) (h5 : (r A).2.length <= 5) : chF m r = (0, zaz (r A).2 g) := by
 unfold chF
 rw [zce h]
 simp only
 rw [if_neg (by simpa using h0), if_neg (by omega)]
theorem zig {g : Nm} (h : zf4 g) : g.length <= 25 := by
 rcases h with rfl | h
 . simp
 . exact (zeb h).2
theorem ztj (m : Nm) (hm : m.length <= 8388608) (i : Int) (w : World) : Calls Tryz.prog 44 #[.string ⟨⟨m⟩⟩, .int .i64 i] w (zd5 (zl4 m i) w) := by
 have HM := Hq (fun W => zbd m hm W)
 clear hm
 go_enter Tryz.func44, Tryz.ntmps44
 go_wp2_with fail
 refine (HM.out _).mono ?_
 rintro e w1 ⟨hb1, ⟨rfl, hno⟩ | ⟨v, A, g, rfl, hok, ho⟩⟩
 . have HB1 := Hq hb1
   clear hno hb1
   go_wp2_with fail
   go_ret2
   exact .bad HB1.out (by decide)
 . have HB1 := Hq hb1
   have HOK := Hq hok
   obtain ⟨a, cap, rfl, hsr⟩ := zl ho
   have HSR := Hq hsr
   have hl5 := hok.2.2.1
   clear hb1 hok ho hsr
   by_cases hi : i < 0 \/ (A.length : Int) <= i
   . rcases hi with hi | hi
     . go_wp2_with fail
       go_ret2
       exact .bad HB1.out (by decide)
     . by_cases h0 : i < 0
       . exfalso; omega
       go_wp2_with fail
       go_ret2
       exact .bad HB1.out (by decide)
   . obtain ⟨k, rfl⟩ : ∃ k : Nat, i = k := ⟨i.toNat, by omega⟩
     have hk : k < A.length := by omega
     have hk1 : ¬ (k : Int) < 0 := by omega
     have hk2 : ¬ (A.length : Int) <= (k : Int) := by omega
     have HR := Hq (show zl4 m k = (0, zaz (A.eraseIdx k) g) by
       have hd : zhu k A = (0, A.eraseIdx k) := by unfold zhu; rw [if_neg hi]; rfl
       have := zkx (r := zhu k) HOK.out (by rw [hd]) (by rw [hd]; rw [List.length_eraseIdx, if_pos hk]; omega)
       rw [hd] at this
       exact this)
     have HWO := Hq (zof A k hk (by omega) a cap w1 HSR.out)
     have HFL := Hq (show (A.eraseIdx k).length <= 5 /\ (A.eraseIdx k).flatten.length <= 100000 /\ g.length <= 100000 by
       have h1 : (A.eraseIdx k).length <= 5 := by rw [List.length_eraseIdx, if_pos hk]; omega
       have h2 := ze6 (A.eraseIdx k) (fun t ht => HOK.out.2.1 t (List.mem_of_mem_eraseIdx ht))
       have h3 := zig HOK.out.2.2.2
       exact ⟨h1, by omega, by omega⟩)
     clear hi
     go_wp2_with fail
     refine HWO.out.mono ?_
     rintro e w2 ⟨v2, rfl, ho2, hb2⟩
     obtain ⟨a2, c2, rfl, hs2⟩ := zl ho2
     have HB2 := Hq (zc HB1.out hb2)
     have HTX := Hq (zfv (A.eraseIdx k) a2 c2 g w2 hs2 (by have := HFL.out.1; omega) HFL.out.2.1 HFL.out.2.2)
     clear ho2 hb2 hs2
     go_wp2_with fail
     refine HTX.out.mono ?_
     rintro e w3 ⟨rfl, hb3⟩
     have HB3 := Hq (zc HB2.out hb3)
     clear hb3
     go_wp2_with fail
     go_ret2
     exact ⟨HB3.out, _, 0, rfl, fun _ => HR.out⟩
theorem z0f (m : Nm) (hm : m.length <= 8388608) (i : Int) (t : Nm) (ht : t.length <= 8388608) (w : World) : Calls Tryz.prog 42 #[.string ⟨⟨m⟩⟩, .int .i64 i, .string ⟨⟨t⟩⟩] w (zd5 (zne m i t) w) := by
 have HM := Hq (fun W => zbd m hm W)
 have HTY := Hq (fun W => zid t W ht)
 clear hm ht
 go_enter Tryz.func42, Tryz.ntmps42
 go_wp2_with fail
 refine (HM.out _).mono ?_
 rintro e w1 ⟨hb1, ⟨rfl, hno⟩ | ⟨v, A, g, rfl, hok, ho⟩⟩
 . have HB1 := Hq hb1
   clear hno hb1
   go_wp2_with fail
   go_ret2
   exact .bad HB1.out (by decide)
 . have HB1 := Hq hb1
   have HOK := Hq hok
   obtain ⟨a, cap, rfl, hsr⟩ := zl ho
   have HSR := Hq hsr
   have hl5 := hok.2.2.1
   clear hb1 hok ho hsr
   by_cases hi : i < 0 \/ (A.length : Int) < i
   . rcases hi with hi | hi
     . go_wp2_with fail
       go_ret2
       exact .bad HB1.out (by decide)
     . by_cases h0 : i < 0
       . exfalso; omega
       go_wp2_with fail
       go_ret2
       exact .bad HB1.out (by decide)
   . obtain ⟨k, rfl⟩ : ∃ k : Nat, i = k := ⟨i.toNat, by omega⟩
     have hk : k <= A.length := by omega
     have hk1 : ¬ (k : Int) < 0 := by omega
     have hk2 : ¬ (A.length : Int) < (k : Int) := by omega
     have HI := Hq hi
     clear hi
     go_wp2_with fail
     refine (HTY.out _).mono ?_
     rintro e w2 ⟨⟨b, hbt, rfl⟩, hb2⟩
     have HB2 := Hq (zc HB1.out hb2)
     have HS2 := Hq (HSR.out.below hb2)
     have HBT := Hq hbt
     clear hb2 hbt
     cases b with
     | false =>
       go_wp2_with fail
       go_ret2
       exact .bad HB2.out (by decide)
     | true =>
       by_cases h5 : 5 <= A.length
       . have h5i : (5 : Int) <= (A.length : Int) := by omega
         go_wp2_with fail
         go_ret2
         exact .bad HB2.out (by decide)
       . have h5i : ¬ (5 : Int) <= (A.length : Int) := by omega
         have hT : zi t := HBT.out.1 rfl
         have HR := Hq (show zne m k t = (0, zaz (A.take k ++ t :: A.drop k) g) by
           have hd : zrn k t A = (0, A.take k ++ t :: A.drop k) := by unfold zrn; rw [if_neg HI.out, if_neg (not_not_intro hT)]; rfl
           have := zkx (r := zrn k t) HOK.out (by rw [hd]) (by rw [hd]; simp; omega)
           rw [hd] at this
           exact this)
         have HFL := Hq (show (A.take k ++ t :: A.drop k).length <= 5 /\ (A.take k ++ t :: A.drop k).flatten.length <= 100000 /\ g.length <= 100000 by
           have h1 : (A.take k ++ t :: A.drop k).length <= 5 := by simp; omega
           have h2 := ze6 (A.take k ++ t :: A.drop k) (fun x hx => by
             simp only [List.mem_append, List.mem_cons] at hx
             rcases hx with hx | rfl | hx
             . exact HOK.out.2.1 x (List.mem_of_mem_take hx)
             . exact hT
             . exact HOK.out.2.1 x (List.mem_of_mem_drop hx))
           have h3 := zig HOK.out.2.2.2
           exact ⟨h1, by omega, by omega⟩)
         have hc : A.length <= cap := HSR.out.1
         obtain ⟨a1, ha1⟩ : ∃ a1, a1 = zru a 0 cap := ⟨_, rfl⟩
         obtain ⟨a2, ha2⟩ : ∃ a2, a2 = zru a k cap := ⟨_, rfl⟩
         obtain ⟨n2, hn2⟩ : ∃ n2, n2 = A.length - k := ⟨_, rfl⟩
         obtain ⟨c2, hc2⟩ : ∃ c2, c2 = cap - k := ⟨_, rfl⟩
         have hs1 : ∀ W, (Instr.slice 35 (.slice a A.length cap) none (some (.int .i64 (k : Int))) none).run Tryz.prog W = .ok (.slice a1 k cap) W := fun W => by rw [ha1]; exact ze7 Tryz.underlying35 zo6 a A.length cap k (by omega) .i64 W
         have hs2 : ∀ W, (Instr.slice 35 (.slice a A.length cap) (some (.int .i64 (k : Int))) none none).run Tryz.prog W = .ok (.slice a2 n2 c2) W := fun W => by rw [ha2, hn2, hc2]; exact ze4 Tryz.underlying35 zo6 a A.length cap k (by omega) .i64 W
         have HV1 := Hq (fun W (hb : Below w2.heap.size w2 W) => show zab W a1 cap ((A.take k).map zz) by
           have := zee ((zg5 HS2.out).below hb) (lo := 0) (hi := k) (by omega) (by simp; omega)
           rw [ha1, List.map_take]
           simpa using this)
         have HV2 := Hq (fun W (hb : Below w2.heap.size w2 W) => show zab W a2 c2 ((A.drop k).map zz) by
           have := zee ((zg5 HS2.out).below hb) (lo := k) (hi := A.length) (by omega) (by simp)
           rw [ha2, hc2, List.map_drop]
           rwa [List.take_of_length_le (by simp)] at this)
         have HL := Hq (show (A.drop k).length = n2 /\ (A.take k).length = k /\ (A.take k ++ t :: A.drop k).length = k + 1 + n2 by
           refine ⟨by rw [List.length_drop, hn2], by rw [List.length_take]; omega, by simp; omega⟩)
         have HLB := Hq (show k + 1 + n2 <= 10 by omega)
         have hb10 : k + 1 + n2 <= 10 := HLB.out
         have HB3 := Hq (show Below w2.heap.size w2 (w2.alloc (.cells #[] 9)) from ze (Below.refl _ _) _)
         have HO3 := Hq (show (w2.alloc (.cells #[] 9)).ownsRow w2.heap.size 9 1 (.slice (some ⟨w2.heap.size, 0, none⟩) 0 0) 0 [] from World.ownsRow_made w2 #[] 0 (Nat.le_refl _) (by unfold maxLen; omega) rfl)
         clear hT ha1 ha2 hn2 hc2 hc
         go_wp2_with (at_builtin; refine z8 zdu rfl _ _ rfl w2.heap.size _ 0 [] rfl HO3.out _ k ((A.take k).map zz) rfl (zi0 (HV1.out _ HB3.out) HL.out.2.1.symm) (by omega) (by omega) HB3.out.size ?_)
         intro v4 w4 ho4 hg4
         have HB4 := Hq (show Below w2.heap.size w2 w4 from HB3.out.grown hg4 HB3.out.size (fun q hq => (HO3.out.lt q hq).1))
         have HO4 := Hq (show w4.ownsRow w2.heap.size 9 1 v4 k ((A.take k).map zz) by simpa using ho4)
         have hs4 := HB4.out.size
         clear ho4 hg4
         go_wp2_with (at_builtin; refine zt zdu rfl _ _ rfl w2.heap.size _ k ((A.take k).map zz) rfl HO4.out [zz t] rfl (zo5 [t]) _ rfl (by simp) (by omega) (by omega) hs4 ?_)
         intro v5 w5 ho5 hg5
         have HB5 := Hq (HB4.out.trans (zbg hs4 HO4.out hg5))
         have HO5 := Hq (show w5.ownsRow w2.heap.size 9 1 v5 (k + 1) ((A.take k).map zz ++ [zz t]) by simpa using ho5)
         have hs5 := HB5.out.size
         clear ho5 hg5
         go_wp2_with (at_builtin; refine z8 zdu rfl _ _ rfl w2.heap.size _ (k + 1) ((A.take k).map zz ++ [zz t]) rfl HO5.out _ n2 ((A.drop k).map zz) rfl (zi0 (HV2.out _ HB5.out) HL.out.1.symm) (by omega) (by omega) hs5 ?_)
         intro v6 w6 ho6 hg6
         have HB6 := Hq (show Below w2.heap.size w2 w6 from HB5.out.grown hg6 hs5 (fun q hq => (HO5.out.lt q hq).1))
         have ho6' : w6.ownsRow w2.heap.size 9 1 v6 (A.take k ++ t :: A.drop k).length ((A.take k ++ t :: A.drop k).map zz) := by rw [HL.out.2.2]; simpa using ho6
         obtain ⟨a6, c6, rfl, hs6⟩ := zl ho6'
         have HTX := Hq (zfv (A.take k ++ t :: A.drop k) a6 c6 g w6 hs6 (by have := HFL.out.1; omega) HFL.out.2.1 HFL.out.2.2)
         rw [HL.out.2.2] at HTX |-
         clear ho6 hg6 ho6' hs6 hs1 hs2
         go_wp2_with fail
         refine HTX.out.mono ?_
         rintro e w7 ⟨rfl, hb7⟩
         have HB7 := Hq (zc HB2.out (zc HB6.out hb7))
         clear hb7
         go_wp2_with fail
         go_ret2
         exact ⟨HB7.out, _, 0, rfl, fun _ => HR.out⟩
theorem zp5 (m : Nm) (hm : m.length <= 8388608) (i : Int) (t : Nm) (ht : t.length <= 8388608) (w : World) : Calls Tryz.prog 45 #[.string ⟨⟨m⟩⟩, .int .i64 i, .string ⟨⟨t⟩⟩] w (zd5 (zex m i t) w) := by
 have HM := Hq (fun W => zbd m hm W)
 have HTY := Hq (fun W => zid t W ht)
 clear hm ht
 go_enter Tryz.func45, Tryz.ntmps45
 go_wp2_with fail
 refine (HM.out _).mono ?_
 rintro e w1 ⟨hb1, ⟨rfl, hno⟩ | ⟨v, A, g, rfl, hok, ho⟩⟩
 . have HB1 := Hq hb1
   clear hno hb1
   go_wp2_with fail
   go_ret2
   exact .bad HB1.out (by decide)
 . have HB1 := Hq hb1
   have HOK := Hq hok
   obtain ⟨a, cap, rfl, hsr⟩ := zl ho
   have HSR := Hq hsr
   have hl5 := hok.2.2.1
   clear hb1 hok ho hsr
   by_cases hi : i < 0 \/ (A.length : Int) <= i
   . rcases hi with hi | hi
     . go_wp2_with fail
       go_ret2
       exact .bad HB1.out (by decide)
     . by_cases h0 : i < 0
       . exfalso; omega
       go_wp2_with fail
       go_ret2
       exact .bad HB1.out (by decide)
   . obtain ⟨k, rfl⟩ : ∃ k : Nat, i = k := ⟨i.toNat, by omega⟩
     have hk : k < A.length := by omega
     have hk1 : ¬ (k : Int) < 0 := by omega
     have hk2 : ¬ (A.length : Int) <= (k : Int) := by omega
     have hk3 : (k : Int) < (A.length : Int) := by omega
     have HI := Hq hi
     clear hi
     go_wp2_with fail
     refine (HTY.out _).mono ?_
     rintro e w2 ⟨⟨b, hbt, rfl⟩, hb2⟩
     have HB2 := Hq (zc HB1.out hb2)
     have HS2 := Hq (HSR.out.below hb2)
     have HBT := Hq hbt
     clear hb2 hbt
     cases b with
     | false =>
       go_wp2_with fail
       go_ret2
       exact .bad HB2.out (by decide)
     | true =>
       have hT : zi t := HBT.out.1 rfl
       have HR := Hq (show zex m k t = (0, zaz (A.set k t) g) by
         have hd : zb3 k t A = (0, A.set k t) := by unfold zb3; rw [if_neg HI.out, if_neg (not_not_intro hT)]; rfl
         have := zkx (r := zb3 k t) HOK.out (by rw [hd]) (by rw [hd]; simp; omega)
         rw [hd] at this
         exact this)
       have HFL := Hq (show (A.set k t).length <= 5 /\ (A.set k t).flatten.length <= 100000 /\ g.length <= 100000 by
         have h1 : (A.set k t).length <= 5 := by simp; omega
         have h2 := ze6 (A.set k t) (fun x hx => by
           rcases List.mem_or_eq_of_mem_set hx with hx | rfl
           . exact HOK.out.2.1 x hx
           . exact hT)
         have h3 := zig HOK.out.2.2.2
         exact ⟨h1, by omega, by omega⟩)
       have HL := Hq (show (A.set k t).length = A.length by simp)
       have HB3 := Hq (show Below w2.heap.size w2 (w2.alloc (.cells #[] 9)) from ze (Below.refl _ _) _)
       have HO3 := Hq (show (w2.alloc (.cells #[] 9)).ownsRow w2.heap.size 9 1 (.slice (some ⟨w2.heap.size, 0, none⟩) 0 0) 0 [] from World.ownsRow_made w2 #[] 0 (Nat.le_refl _) (by unfold maxLen; omega) rfl)
       clear hT
       go_wp2_with (at_builtin; refine z8 zdu rfl _ _ rfl w2.heap.size _ 0 [] rfl HO3.out _ A.length (A.map zz) rfl (zi0 (zg5 (HS2.out.below HB3.out)) rfl) (by omega) (by omega) HB3.out.size ?_)
       intro v4 w4 ho4 hg4
       have HB4 := Hq (show Below w2.heap.size w2 w4 from HB3.out.grown hg4 HB3.out.size (fun q hq => (HO3.out.lt q hq).1))
       have ho4' : w4.ownsRow w2.heap.size 9 1 v4 A.length (A.map zz) := by simpa using ho4
       obtain ⟨g4, c4, rfl⟩ : ∃ g c, v4 = .slice (some ⟨g, 0, none⟩) A.length c := by
         rcases ho4'.2 with ⟨rfl, h0⟩ | ⟨g, c, cur, h, _⟩
         . omega
         . exact ⟨g, c, h⟩
       obtain ⟨hgB, hgl⟩ := ho4'.lt g4 rfl
       have hcg := ho4'.cellAt k (by omega)
       rw [List.getElem?_map, List.getElem?_eq_getElem hk] at hcg
       have hfg := ho4'.frozenAt k
       have hst := (ho4'.stored k (zz t)).1
       have hst2 : (w4.setCell ⟨g4, k, none⟩ (zz t)).ownsRow w2.heap.size 9 1 (.slice (some ⟨g4, 0, none⟩) A.length c4) (A.set k t).length ((A.set k t).map zz) := by rw [List.length_set, List.map_set]; exact hst
       have HB5 := Hq (HB4.out.setCell (p := ⟨g4, k, none⟩) hgB (zz t))
       obtain ⟨a6, c6, hv6, hs6⟩ := zl hst2
       rw [HL.out] at hv6
       simp only [Value.slice.injEq] at hv6
       obtain ⟨rfl, _, rfl⟩ := hv6
       have HTX := Hq (zfv (A.set k t) _ c4 g _ hs6 (by have := HFL.out.1; omega) HFL.out.2.1 HFL.out.2.2)
       rw [HL.out] at HTX
       clear ho4 hg4 ho4' hst hst2 hs6
       go_wp2_with fail
       refine HTX.out.mono ?_
       rintro e w7 ⟨rfl, hb7⟩
       have HB7 := Hq (zc HB2.out (zc HB5.out hb7))
       clear hb7
       go_wp2_with fail
       go_ret2
       exact ⟨HB7.out, _, 0, rfl, fun _ => HR.out⟩
theorem zeq {w : World} {a : Option Addr} {cap : Nat} {A : List Nm} (h : zdl w a cap A) {j : Nat} {x : Nm} (hx : A[j]? = some x) : ∃ b off, a = some ⟨b, off, none⟩ /\ b < w.heap.size /\ w.cell? ⟨b, off + j, none⟩ = some (.string ⟨⟨x⟩⟩) := by
 obtain ⟨_, h2 | ⟨b, off, rfl, hlt, hc⟩⟩ := h
 . subst h2; simp at hx
 . exact ⟨b, off, rfl, hlt, hc j x hx⟩
theorem zxc (m : Nm) (hm : m.length <= 8388608) (pos : List Int) (pa : Option Addr) (pc : Nat) (all : Nm) (ha : all.length <= 8388608) (w : World) (hv : zab w pa pc (pos.map (fun k => .int .i64 k))) : Calls Tryz.prog 43 #[.string ⟨⟨m⟩⟩, .slice pa pos.length pc, .string ⟨⟨all⟩⟩] w (zd5 (zm2 m pos all) w) := by
 have HM := Hq (fun W => zbd m hm W)
 have HN := Hq (fun W => zbd all ha W)
 have HV := Hq hv
 clear hm ha hv
 go_enter Tryz.func43, Tryz.ntmps43
 go_wp2_with fail
 refine (HM.out _).mono ?_
 rintro e w1 ⟨hb1, ⟨rfl, hno⟩ | ⟨v, A, g, rfl, hok, ho⟩⟩
 . have HB1 := Hq hb1
   clear hno hb1
   go_wp2_with fail
   go_ret2
   exact .bad HB1.out (by decide)
 . have HB1 := Hq hb1
   have HOK := Hq hok
   obtain ⟨a, cap, rfl, hsr⟩ := zl ho
   have HSR := Hq hsr
   have hl5 := hok.2.2.1
   clear hb1 hok ho hsr
   go_wp2_with fail
   refine (HN.out _).mono ?_
   rintro e w2 ⟨hb2, ⟨rfl, hno⟩ | ⟨v2, B, g2, rfl, hok2, ho2⟩⟩
   . have HB2 := Hq (zc HB1.out hb2)
     clear hno hb2
     go_wp2_with fail
     go_ret2
     exact .bad HB2.out (by decide)
   . have HB2 := Hq (zc HB1.out hb2)
     have HS2 := Hq (HSR.out.below hb2)
     have HOK2 := Hq hok2
     obtain ⟨a2, cap2, rfl, hsr2⟩ := zl ho2
     have HSR2 := Hq hsr2
     have hl52 := hok2.2.2.1
     clear hb2 hok2 ho2 hsr2
     by_cases hpl : pos.length = A.length
     case neg =>
       have h1 : ((pos.length : Int) != (A.length : Int)) = true := by simp; omega
       have h2 : (pos.length != A.length) = true := by simp; omega
       have h3 : (pos.length == A.length) = false := by rw [beq_eq_false_iff_ne]; exact hpl
       have h4 : ((pos.length : Int) == (A.length : Int)) = false := by rw [beq_eq_false_iff_ne]; omega
       clear hpl
       go_wp2_with fail
       go_ret2
       exact .bad HB2.out (by decide)
     case pos =>
       have h1 : ((pos.length : Int) != (A.length : Int)) = false := by simp; omega
       have h2 : (pos.length != A.length) = false := by simp; omega
       have HPL := Hq hpl
       have hp5 : pos.length <= 5 := by omega
       clear hpl
       go_wp2_with fail
       clear h1 h2
       go_loopw [14] (fun i wr => ∃ j : Nat, j <= pos.length /\ i = .int .i64 j /\ Hid (zgw B pos A j) /\ Below w2.heap.size w2 wr) (fun i _ => pos.length - (RowKit.intOf i).toNat)
       case atStart => exact ⟨0, by omega, rfl, Hq (zmt _ _ _), Below.refl _ _⟩
       case round =>
         obtain ⟨j, hj, rfl, HP, hbr⟩ := hrel
         have HBR := Hq hbr
         have HBW := Hq (zc HB2.out hbr)
         clear hbr
         by_cases hlj : j < pos.length
         . obtain ⟨k, hk⟩ : ∃ k, pos[j]? = some k := ⟨_, List.getElem?_eq_getElem hlj⟩
           obtain ⟨pb, po, hpa, hplt, hpc⟩ := zom (HV.out.below HBW.out) hk
           have hjA : j < A.length := by have := HPL.out; omega
           obtain ⟨x, hx⟩ : ∃ x, A[j]? = some x := ⟨_, List.getElem?_eq_getElem hjA⟩
           obtain ⟨ab, ao, haa, halt, hac⟩ := zeq (HS2.out.below HBR.out) hx
           have HPA := Hq (zzy HP.out hk hx)
           have hjAi : (j : Int) < (A.length : Int) := by omega
           rw [hpa, haa]
           by_cases hk0 : k < 0
           . clear hk hx HPA
             go_wp2_with fail
             go_ret2
             exact .bad HBW.out (by decide)
           by_cases hk1 : (B.length : Int) <= k
           . clear hk hx HPA
             go_wp2_with fail
             go_ret2
             exact .bad HBW.out (by decide)
           obtain ⟨kk, rfl⟩ : ∃ kk : Nat, k = kk := ⟨k.toNat, by omega⟩
           have hkk : kk < B.length := by omega
           have hkki : (kk : Int) < (B.length : Int) := by omega
           obtain ⟨y, hy⟩ : ∃ y, B[kk]? = some y := ⟨_, List.getElem?_eq_getElem hkk⟩
           obtain ⟨bb, bo, hba, hblt, hbc⟩ := zeq (HSR2.out.below HBR.out) hy
           rw [hba]
           by_cases hxy : y = x
           . subst hxy
             have HP2 := Hq (show zgw B pos A (j + 1) by
               unfold zgw
               rw [HPA.out, if_neg (by omega), if_neg (by rw [Int.toNat_natCast, hy]; simp)])
             clear hk hx hy HPA
             go_upto_region 14 with fail
             go_quiet (fail)
             have HBN := Hq (zbv HBR.out nq)
             go_wp2_with fail
             go_roundw
             case rel => exact ⟨j + 1, by omega, by go_num, HP2, HBN.out⟩
             case measure => simp [RowKit.intOf]; omega
           . have q1 : (y == x) = false := by rw [beq_eq_false_iff_ne]; exact hxy
             have q2 : (y != x) = true := by rw [bne, q1]; rfl
             clear hk hx hy HPA hxy
             go_upto_region 14 with fail
             go_quiet (fail)
             have HBN := Hq (zbv HBW.out nq)
             go_wp2_with fail
             go_ret2
             exact .bad HBN.out (by decide)
         . obtain rfl : j = pos.length := by omega
           have HR := Hq (show zm2 m pos all = (0, zaz B g) by
             have hd : zgr pos all A = (0, B) := by
               unfold zgr
               rw [zce HOK2.out]
               simp only
               rw [if_neg (by rw [HPL.out]; simp), zus HP.out (Nat.le_refl _)]
             have := zkx (r := zgr pos all) HOK.out (by rw [hd]) (by rw [hd]; exact hl52)
             rw [hd] at this
             exact this)
           have HTX := Hq (zfv B a2 cap2 g wr (HSR2.out.below HBR.out) (by omega) (by have := ze6 B HOK2.out.2.1; omega) (by have := zig HOK.out.2.2.2; omega))
           clear hlj
           go_wp2_with fail
           refine HTX.out.mono ?_
           rintro e w7 ⟨rfl, hb7⟩
           have HB7 := Hq (zc HBW.out hb7)
           clear hb7
           go_wp2_with fail
           go_ret2
           exact ⟨HB7.out, _, 0, rfl, fun _ => HR.out⟩
end Go.Proofs.YtbnkckjdgpiggaaGreatDoor
