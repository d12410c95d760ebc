import Derived.Laws.CopyOwn
import Derived.Test.YtfimajijegohmaaGreatDoorSc
import Derived.Test.YtfimajijegohmaaGreatDoorRa
namespace Go.Proofs.YtfimajijegohmaaGreatDoor
set_option maxRecDepth 100000
set_option maxHeartbeats 8000000
set_option linter.unusedVariables false
set_option linter.unusedSimpArgs false
open Go.RowKit Go.Shelf Go.Lib Go.Sort
def repC (t : List UInt8) (n c : Nat) : List Value := List.replicate c (strV t) ++ List.replicate (n - c) (.string ByteArray.empty)
def RepRes (t : List UInt8) (n : Nat) (w : World) (e : Ending) (w' : World) : Prop := (∃ a, e = .returned (.slice a n n) ∧ SRow w' a n (List.replicate n t)) ∧ Below w.heap.size w w'
abbrev FS := Nm × FieldR
def lsCells (x : FS) : List Value := [.string ⟨⟨x.1⟩⟩, .string ⟨⟨x.2.nm⟩⟩, .string ⟨⟨x.2.ty⟩⟩]
def lsV (x : FS) : Value := .agg #[.string ⟨⟨x.1⟩⟩, .string ⟨⟨x.2.nm⟩⟩, .string ⟨⟨x.2.ty⟩⟩]
def lsL (l : List FS) : List Value := (l.map lsCells).flatten
theorem lsCells_one (x : FS) : ∀ u ∈ lsCells x, u.oneCell' = true := by
 intro u hu
 simp only [lsCells, List.mem_cons, List.mem_nil_iff, or_false] at hu
 rcases hu with rfl | rfl | rfl <;> rfl
def LsAt (w : World) (a : Option Addr) (cap : Nat) (l : List FS) : Prop := RowsAt w 3 a cap (l.map lsCells)
theorem LsAt.below {w w' : World} {a : Option Addr} {cap : Nat} {l : List FS} (h : LsAt w a cap l) (hb : Below w.heap.size w w') : LsAt w' a cap l := RowsAt.below h hb
theorem LsAt.cells {w : World} {a : Option Addr} {cap : Nat} {l : List FS} (h : LsAt w a cap l) {k : Nat} {x : FS} (hx : l[k]? = some x) : ∃ b off, a = some ⟨b, off, none⟩ ∧ b < w.heap.size ∧
   w.cell? ⟨b, off + k * 3, none⟩ = some (.string ⟨⟨x.1⟩⟩) ∧ w.cell? ⟨b, off + k * 3 + 1, none⟩ = some (.string ⟨⟨x.2.nm⟩⟩) ∧ w.cell? ⟨b, off + k * 3 + 2, none⟩ = some (.string ⟨⟨x.2.ty⟩⟩) := by
 obtain ⟨_, h2 | ⟨b, off, rfl, hlt, hc⟩⟩ := h
 · have : l = [] := by simpa using h2
   subst this; simp at hx
 · have hk : (l.map lsCells)[k]? = some (lsCells x) := by rw [List.getElem?_map, hx]; rfl
   have hh := hc k _ hk
   exact ⟨b, off, rfl, hlt, hh 0 _ rfl, hh 1 _ rfl, hh 2 _ rfl⟩
theorem ls_of_own {w : World} {B : Nat} {v : Value} {l : List FS} (h : w.ownsRow B 163 3 v l.length (lsL l)) : ∃ a cap, v = .slice a l.length cap ∧ LsAt w a cap l := by
 have h' : w.ownsRow B 163 3 v (l.map lsCells).length (l.map lsCells).flatten := by rw [List.length_map]; exact h
 obtain ⟨a, cap, h1, h2⟩ := rows_of_own h' (by intro c hc; obtain ⟨x, _, rfl⟩ := List.mem_map.1 hc; rfl)
 exact ⟨a, cap, by rw [h1, List.length_map], h2⟩
theorem lsL_snoc (l : List FS) (x : FS) : lsL (l ++ [x]) = lsL l ++ lsCells x := by simp [lsL]
theorem rowLs : RowT Tryz.prog 161 163 3 48 := RowT.mk' (z := .agg #[.string ByteArray.empty, .string ByteArray.empty, .string ByteArray.empty]) Tryz.underlying161 (by kernel_rfl) rfl (by decide)
theorem fields_at {L : List CP} (x : Nm) : fieldsAt (CL L) x = (curP L x).1.fields := by
 unfold fieldsAt
 rw [cur_is]
 cases look (CL L) x with
 | none => rfl
 | some c => rfl
theorem flat_succ {α β : Type} {f : α → List β} {l : List α} {k : Nat} {x : α} (hx : l[k]? = some x) : (l.take (k + 1)).flatMap f = (l.take k).flatMap f ++ f x := by
 obtain ⟨hk, rfl⟩ := List.getElem?_eq_some_iff.1 hx
 rw [List.take_succ_eq_append_getElem hk, List.flatMap_append]
 simp
theorem map_succ {α β : Type} {f : α → β} {l : List α} {k : Nat} {x : α} (hx : l[k]? = some x) : (l.take (k + 1)).map f = (l.take k).map f ++ [f x] := by
 obtain ⟨hk, rfl⟩ := List.getElem?_eq_some_iff.1 hx
 rw [List.take_succ_eq_append_getElem hk, List.map_append]
 simp
def LsRes (l : List FS) (w : World) (e : Ending) (w' : World) : Prop := (∃ v, e = .returned v ∧ w'.ownsRow w.heap.size 163 3 v l.length (lsL l)) ∧ Below w.heap.size w w'
theorem lslots_calls (l : List ClassR) (L : List CP) (b : Nat) (n : Nm) (w : World) (hW : WOk w b l L) (hn : n.length ≤ 1048576) :
   Calls Tryz.prog 81 #[.map (some b), .string ⟨⟨n⟩⟩] w (LsRes (slotsF (wl l) n) w) := by
 have HW := Hd hW
 have hcl := Hd hW.cl
 have hg := Hd hW.good
 have hml : (1048576 : Nat) ≤ maxLen := by unfold maxLen; omega
 have hl13 := line_len13 hg.out n
 have HLE := Hd (fun x (h : x ∈ line (wl l) n) => show x.length ≤ 1048576 by
   rcases rc_names hg.out.join ((line_rs hg.out _ _).1 h).rc with e | e
   · rw [e]; exact hn
   · have := good_names20 hg.out e; omega)
 have hpos : 0 < (line (wl l) n).length := by unfold line; simp
 clear hW
 go_enter Tryz.func81, Tryz.ntmps81
 go_wp2_with fail
 refine (line_w HW.out n hn).mono ?_
 rintro e w1 ⟨⟨v, rfl, ho⟩, hb1⟩
 obtain ⟨g, C, rfl, hgB, hgl⟩ := ho.form hpos
 have HRV := Hd (rev_own (line (wl l) n) w.heap.size g C w w1 hb1 hgB ho (by omega))
 clear ho hb1
 go_wp2_with fail
 refine HRV.out.mono ?_
 rintro e w2 ⟨rfl, hb2, ho2, _⟩
 have HB2 := Hd hb2
 have HW2 := Hd (HW.out.below hb2)
 obtain ⟨A2, C2, hv2, hr2⟩ := srow_of_own (A := (line (wl l) n).reverse) (by rw [List.length_reverse]; exact ho2)
 rw [List.length_reverse] at hv2
 simp only [Value.slice.injEq] at hv2
 obtain ⟨rfl, _, rfl⟩ := hv2
 have HR2 := Hd hr2
 have hs2 := hb2.size
 have hrl : (line (wl l) n).length = (line (wl l) n).reverse.length := by rw [List.length_reverse]
 have HSM := Hd (show slotsF (wl l) n = (line (wl l) n).reverse.flatMap (addF (wl l)) from rfl)
 have HLR := Hd (fun x (h : x ∈ (line (wl l) n).reverse) => HLE.out x (List.mem_reverse.1 h))
 clear hb2 ho2 hr2 HRV HLE
 rw [hrl]
 rw [hrl] at hl13
 clear hpos hrl
 generalize (line (wl l) n).reverse = rl at *
 go_wp2_with fail
 go_loopw [18, 5] (fun i v wr => ∃ (j : Nat) (A : Option Addr) (C' : Nat) (out : List FS), j ≤ rl.length ∧ i = .int .i64 j ∧ v = .slice A out.length C' ∧ wr.ownsRow w2.heap.size 163 3 (.slice A out.length C') out.length (lsL out) ∧ Below w2.heap.size w2 wr ∧ out.length ≤ 8 * j ∧ Hid (out = (rl.take j).flatMap (addF (wl l)))) (fun i _ _ => rl.length - (RowKit.intOf i).toNat)
 case atStart => exact ⟨0, none, 0, [], by omega, rfl, rfl, World.ownsRow_nil _ _ _ _, Below.refl _ _, by simp, Hd rfl⟩
 case round =>
   obtain ⟨j, A, C', out, hj, rfl, rfl, ho, hb, hol, HA⟩ := hrel
   have HO := Hd ho
   have HB := Hd hb
   have hsz := hb.size
   by_cases hlk : j < rl.length
   · obtain ⟨x, hx⟩ : ∃ x, rl[j]? = some x := ⟨_, List.getElem?_eq_getElem hlk⟩
     obtain ⟨b1, off, hbo, hlt, c0⟩ := strs_cell (HR2.out.below hb) hx
     simp only [Option.some.injEq, Addr.mk.injEq] at hbo
     obtain ⟨rfl, rfl, _⟩ := hbo
     have hxl := HLR.out x (List.mem_of_getElem? hx)
     have hlkx := cur_look (n := x) (HW2.out.below hb).at_ (Nat.le_trans hxl hml)
     have hmb := (cur_bounds HW.out x).2.2.2.1
     have HX := Hd hx
     have HMA := Hd (cur_at HW2.out.at_ x).2.1
     have HME := Hd (fields_at (L := L) x)
     rw [hcl.out] at HME
     have HF := Hd (flat_succ (f := addF (wl l)) hx)
     rw [Nat.zero_add] at c0
     clear hb hx ho
     obtain ⟨w3, hw3⟩ : ∃ w3, w3 = wr := ⟨wr, rfl⟩
     subst hw3
     generalize curP L x = cx at *
     obtain ⟨cc, ⟨fa, fc, ga, gc, ma, mc, pms⟩⟩ := cx
     dsimp only at *
     go_wp2_with fail
     go_loopw [27, 5] (fun i v wr => ∃ (k : Nat) (A2 : Option Addr) (C2 : Nat) (out2 : List FS), k ≤ cc.fields.length ∧ i = .int .i64 k ∧ v = .slice A2 out2.length C2 ∧ wr.ownsRow w2.heap.size 163 3 (.slice A2 out2.length C2) out2.length (lsL out2) ∧ Below w2.heap.size w2 wr ∧ out2.length ≤ 8 * j + k ∧ Hid (out2 = out ++ (cc.fields.take k).map fun f => (x, f))) (fun i _ _ => cc.fields.length - (RowKit.intOf i).toNat)
     case atStart => exact ⟨0, A, C', out, by omega, rfl, rfl, HO.out, HB.out, by omega, Hd (by simp)⟩
     case round =>
       obtain ⟨k, A2, C2, out2, hk, rfl, rfl, ho, hb, hol2, HA2⟩ := hrel
       have HO2 := Hd ho
       have HBQ := Hd hb
       have hsq := hb.size
       by_cases hkm : k < cc.fields.length
       · obtain ⟨f, hf⟩ : ∃ f, cc.fields[k]? = some f := ⟨_, List.getElem?_eq_getElem hkm⟩
         obtain ⟨b3, off3, hga, hlt3, c1, c2⟩ := (HMA.out.below hb).cells hf
         have HF2 := Hd (map_succ (f := fun f => (x, f)) hf)
         subst hga
         clear hb hf ho
         have HN := Hd (show out2 ++ [(x, f)] = out ++ (cc.fields.take (k + 1)).map fun f => (x, f) by rw [HF2.out, ← List.append_assoc, ← HA2.out])
         have HO5 := Hd (HO2.out.alloc (.cells #[.string ⟨⟨f.nm⟩⟩, .string ⟨⟨f.ty⟩⟩] 157))
         have HB5 := Hd (HBQ.out.alloc hsq (.cells #[.string ⟨⟨f.nm⟩⟩, .string ⟨⟨f.ty⟩⟩] 157))
         go_wp2_with (at_builtin; refine wpList_append_one rowLs rfl _ _ rfl w2.heap.size _ out2.length (lsL out2) rfl ?c0 (lsCells (x, f)) rfl ?c1 _ rfl ?cg ?c2 ?c3 ?c4 ?_)
         case c0 => exact HO5.out
         case c1 => exact lsCells_one _
         case cg => simp
         case c2 => omega
         case c3 => omega
         case c4 => simp; omega
         intro v6 w6 ho6 hg6
         have HB6 := Hd (HB5.out.trans (grown_below (by simp; omega) HO5.out hg6))
         have ho7 : w6.ownsRow w2.heap.size 163 3 v6 (out2 ++ [(x, f)]).length (lsL (out2 ++ [(x, f)])) := by
           rw [List.length_append, List.length_singleton, lsL_snoc]; exact ho6
         obtain ⟨A7, C7, rfl, _⟩ := slice_of_own ho7
         have HO7 := Hd ho7
         clear ho6 hg6 ho7
         go_wp2_with fail
         go_roundw
         case rel => exact ⟨k + 1, A7, C7, out2 ++ [(x, f)], by omega, by go_num, rfl, HO7.out, HB6.out, by simp; omega, Hd HN.out⟩
         case measure => simp [RowKit.intOf]; omega
       · obtain rfl : k = cc.fields.length := by omega
         have HE := Hd (show out2 = (rl.take (j + 1)).flatMap (addF (wl l)) by rw [HF.out, ← HA.out, HA2.out, List.take_length]; unfold addF; rw [HME.out])
         clear hb ho
         go_wp2_with fail
         go_roundw
         case rel => exact ⟨j + 1, A2, C2, out2, by omega, by go_num, rfl, HO2.out, HBQ.out, by omega, HE⟩
         case measure => simp [RowKit.intOf]; omega
   · obtain rfl : j = rl.length := by omega
     have HE := Hd (show slotsF (wl l) n = out by rw [HSM.out, HA.out, List.take_length])
     clear hb ho
     go_wp2_with fail
     go_ret
     exact ⟨⟨_, rfl, by rw [HE.out]; exact own_down HO.out hs2⟩, HB2.out.trans (HB.out.mono hs2)⟩
theorem slotsF_len {l : List ClassR} (hg : Good l) (n : Nm) : (slotsF (wl l) n).length ≤ 104 := by
 have gen : ∀ cs : List Nm, (cs.flatMap (addF (wl l))).length ≤ 8 * cs.length := by
   intro cs
   induction cs with
   | nil => simp
   | cons c r ih =>
     have h2 : (addF (wl l) c).length ≤ 8 := by
       unfold addF fieldsAt
       rw [List.length_map]
       cases hl : look (wl l) c with
       | none => simp
       | some d => exact (good_cls hg (find_name hl).2).2.2.2.1
     simp only [List.flatMap_cons, List.length_append, List.length_cons]
     omega
 have h1 := gen (line (wl l) n).reverse
 have h2 := line_len13 hg n
 rw [List.length_reverse] at h1
 unfold slotsF
 omega
noncomputable def typesF (L : List ClassR) (n : Nm) : List Nm := (slotsF L n).map (·.2.ty)
theorem types_calls (l : List ClassR) (L : List CP) (b : Nat) (n : Nm) (w : World) (hW : WOk w b l L) (hn : n.length ≤ 1048576) :
   Calls Tryz.prog 229 #[.map (some b), .string ⟨⟨n⟩⟩] w (LineRes (typesF (wl l) n) w) := by
 have HLS := Hd (lslots_calls l L b n w hW hn)
 have hlen := slotsF_len hW.good n
 have HTY := Hd (show typesF (wl l) n = (slotsF (wl l) n).map (·.2.ty) from rfl)
 clear hW
 generalize slotsF (wl l) n = S at *
 go_enter Tryz.func229, Tryz.ntmps229
 go_wp2_with fail
 refine HLS.out.mono ?_
 rintro e w2 ⟨⟨v, rfl, ho⟩, hb2⟩
 obtain ⟨a2, c2, rfl, hr2⟩ := ls_of_own ho
 have HB2 := Hd hb2
 have HR2 := Hd hr2
 have hs2 := hb2.size
 clear ho hb2 hr2
 go_wp2_with fail
 go_loopw [12, 5] (fun i v wr => ∃ (j : Nat) (A : Option Addr) (C : Nat) (out : List Nm), j ≤ S.length ∧ i = .int .i64 j ∧ v = .slice A out.length C ∧ wr.ownsRow w2.heap.size 9 1 (.slice A out.length C) out.length (out.map strV) ∧ Below w2.heap.size w2 wr ∧ out.length ≤ j ∧ Hid (out = (S.take j).map (·.2.ty))) (fun i _ _ => S.length - (RowKit.intOf i).toNat)
 case atStart => exact ⟨0, none, 0, [], by omega, rfl, rfl, World.ownsRow_nil _ _ _ _, Below.refl _ _, by simp, Hd rfl⟩
 case round =>
   obtain ⟨j, A, C, out, hj, rfl, rfl, ho, hb, hol, HA⟩ := hrel
   have HO := Hd ho
   have HB := Hd hb
   have hsz := hb.size
   by_cases hlk : j < S.length
   · obtain ⟨x, hx⟩ : ∃ x, S[j]? = some x := ⟨_, List.getElem?_eq_getElem hlk⟩
     obtain ⟨b1, off, rfl, hlt, c0, c1, c2⟩ := (HR2.out.below hb).cells hx
     have HN := Hd (show out ++ [x.2.ty] = (S.take (j + 1)).map (·.2.ty) by rw [map_succ hx, ← HA.out])
     clear hb hx ho
     obtain ⟨xn, ⟨xf, xt⟩⟩ := x
     dsimp only at *
     have HO5 := Hd (HO.out.alloc (.cells #[.string ⟨⟨xn⟩⟩, .string ⟨⟨xf⟩⟩, .string ⟨⟨xt⟩⟩] 163))
     have HB5 := Hd (HB.out.alloc hsz (.cells #[.string ⟨⟨xn⟩⟩, .string ⟨⟨xf⟩⟩, .string ⟨⟨xt⟩⟩] 163))
     go_wp2_with (at_builtin; refine wpList_append_one rowStr rfl _ _ rfl w2.heap.size _ out.length (out.map strV) rfl ?c0 [strV xt] rfl ?c1 _ rfl ?cg ?c2 ?c3 ?c4 ?_)
     case c0 => exact HO5.out
     case c1 => intro u hu; rw [List.mem_singleton.1 hu]; rfl
     case cg => simp
     case c2 => omega
     case c3 => omega
     case c4 => simp; omega
     intro v6 w6 ho6 hg6
     have HB6 := Hd (HB5.out.trans (grown_below (by simp; omega) HO5.out hg6))
     have ho7 : w6.ownsRow w2.heap.size 9 1 v6 (out ++ [xt]).length ((out ++ [xt]).map strV) := by
       rw [List.length_append, List.length_singleton, List.map_append]; exact ho6
     obtain ⟨A7, C7, rfl, _⟩ := slice_of_own ho7
     have HO7 := Hd ho7
     clear ho6 hg6 ho7
     go_wp2_with fail
     go_roundw
     case rel => exact ⟨j + 1, A7, C7, out ++ [xt], by omega, by go_num, rfl, HO7.out, HB6.out, by simp; omega, Hd HN.out⟩
     case measure => simp [RowKit.intOf]; omega
   · obtain rfl : j = S.length := by omega
     have HE := Hd (show typesF (wl l) n = out by rw [HTY.out, HA.out, List.take_length])
     clear hb ho
     go_wp2_with fail
     go_ret
     exact ⟨⟨_, rfl, by rw [HE.out]; exact own_down HO.out hs2⟩, HB2.out.trans (HB.out.mono hs2)⟩
def TysRes (A : List Nm) (w : World) (e : Ending) (w' : World) : Prop := Below w.heap.size w w' ∧ ∃ a cap, e = .returned (.slice a A.length cap) ∧ SRow w' a cap A
theorem cutPre_no (c : UInt8) (r : Nm) (hc : c ≠ 91) (w : World) : Calls Tryz.prog 71 #[.string ⟨⟨c :: r⟩⟩, .string ⟨#[91]⟩] w fun e w' => e = .returned (.tuple #[.string ⟨⟨c :: r⟩⟩, .bool false]) ∧ w = w' := by
 have h := Tryz.strings_CutPrefix ⟨⟨c :: r⟩⟩ ⟨#[91]⟩ w
 refine h.mono fun e w' ⟨h1, h2⟩ => ⟨?_, h2.symm⟩
 rw [h1]
 have h3 : (91 == c) = false := by simpa using Ne.symm hc
 simp [Lib.trimPrefix, Lib.hasPrefix, List.isPrefixOf, h3]
def TyL (L : List ClassR) (x : ThingR) (n : Nm) : Prop := x.ty = thing n ∧ nameOk n = true ∧ (look L n).isSome = true
def TyA (L : List ClassR) (x : ThingR) (r : Nm) : Prop := x.ty = 91 :: r ∧ x.has.length ≤ 10 ∧ DT r
theorem typesH_L {L : List ClassR} {x : ThingR} {n : Nm} (h : TyL L x n) : typesH L x = typesF L n := by
 have h1 : x.ty.head? ≠ some 91 := by rw [h.1]; simp [thing]
 unfold typesH typesF
 rw [if_neg h1, h.1]
 have : clsOf (thing n) = n := by simp [clsOf, thing]
 rw [this]
theorem htypes_L (l : List ClassR) (L : List CP) (b : Nat) (x : ThingR) (p : HA) (n : Nm) (w : World) (hW : WOk w b l L) (h : TyL (wl l) x n) :
   Calls Tryz.prog 281 #[.map (some b), .agg #[.string ⟨⟨x.ty⟩⟩, .slice p.1 x.has.length p.2]] w (TysRes (typesH (wl l) x) w) := by
 have hn := (name_len h.2.1).2
 rw [typesH_L h, h.1]
 have HT := Hd (fun w' (hw : Below w.heap.size w w') => types_calls l L b n w' (hW.below hw) (by omega))
 have HC := Hd (fun w => show Calls Tryz.prog 133 #[.string ⟨⟨thing n⟩⟩] w (fun e w' => e = .returned (.string ⟨⟨n⟩⟩) ∧ w = w') from class_calls 0 (.cls n) (by show n.length ≤ _; omega) w)
 have HCP := Hd (fun w => cutPre_no 76 (n ++ [59]) (by decide) w)
 have HB1 := Hd (fun o => bl_alloc (Below.refl w.heap.size w) o)
 have HX := Hd (fun cs => (blk_new w w.heap.size 149 cs rfl))
 clear hW h
 unfold thing at *
 generalize n ++ [59] = r at *
 go_enter Tryz.func281, Tryz.ntmps281
 go_wp2_with fail
 refine (HCP.out _).mono ?_
 rintro e w1 ⟨rfl, rfl⟩
 go_wp2_with fail
 refine (HC.out _).mono ?_
 rintro e w1 ⟨rfl, rfl⟩
 go_wp2_with fail
 refine (HT.out _ (HB1.out _)).mono ?_
 rintro e w2 ⟨⟨v, rfl, ho⟩, hb2⟩
 obtain ⟨a2, c2, rfl, hr2⟩ := srow_of_own ho
 have HB2 := Hd (bl_trans (HB1.out _) hb2)
 have HR := Hd hr2
 clear ho hb2 hr2
 go_wp2_with fail
 go_ret
 exact ⟨HB2.out, a2, c2, rfl, HR.out⟩
end Go.Proofs.YtfimajijegohmaaGreatDoor
