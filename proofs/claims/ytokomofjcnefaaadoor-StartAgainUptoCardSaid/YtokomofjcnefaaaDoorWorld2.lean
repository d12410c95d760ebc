/-
  The walk of world.W's Every.
-/
import Derived.Test.YtokomofjcnefaaaDoorWorld1
import Derived.Lib.OwnBridge
import Derived.Lib.AppendIntMem
import Derived.Deep.AppendLies
namespace Go.Proofs.YtokomofjcnefaaaDoor
set_option linter.unusedVariables false
set_option linter.unusedSimpArgs false
open Go.RowKit Go.Shelf Go.Lib Go.Sort

theorem grow_own {w : World} {B : Nat} {e : TypeId} {size : Nat} {v : Value} {n : Nat} {xs : List Value} (h : w.ownsRow B e size v n xs) (os : Array Obj) : (grow w os).ownsRow B e size v n xs := by
  refine h.kept (row := none) ⟨rfl, rfl, rfl, by simp [grow], fun k hk _ => ?_⟩ (by cases hv : Value.ownBlock v <;> simp)
  simp only [grow]
  rw [Array.getElem?_append_left hk]
theorem sort_own (A : List Nm) (B : Nat) (g cap : Nat) (w0 w : World) (hb : Below B w0 w) (hg : B ≤ g) (h : w.ownsRow B 9 1 (.slice (some ⟨g, 0, none⟩) A.length cap) A.length (A.map strV)) (hl : A.length ≤ 1000000) :
    Calls Tryd.prog 26 #[.slice (some ⟨g, 0, none⟩) A.length cap] w fun e w' => e = .returned (.tuple #[]) ∧ Below B w0 w' ∧ w'.ownsRow B 9 1 (.slice (some ⟨g, 0, none⟩) A.length cap) A.length ((A.mergeSort (fun x y => decide (x ≤ y))).map strV) := by
  obtain ⟨g', cap', hv, _, hlt, hle, _, hzl, hH⟩ := holds_of_ownsRow (enc := encStr) (zs := A) h (by simp)
  simp only [Value.slice.injEq, Option.some.injEq, Addr.mk.injEq] at hv
  obtain ⟨⟨rfl, _, _⟩, _, rfl⟩ := hv
  refine (Tryd.slices_Sort_string g 0 cap A w hH hlt (by omega)).mono ?_
  rintro e w' ⟨rfl, n, os, rfl⟩
  refine ⟨rfl, ?_, ?_⟩
  · have h1 := below_putRow (enc := encStr) (q := n) (d := (A.mergeSort (fun x y => decide (x ≤ y))).toArray) hb hg
    exact ⟨h1.os, h1.tape, h1.output, Nat.le_trans h1.size (by simp [grow]), fun k hk => by
      rw [← h1.block k hk]
      simp only [grow]
      have hs1 : w.heap.size ≤ (putRow encStr (Go.Sort.ahead w n) g 0 (A.mergeSort (fun x y => decide (x ≤ y))).toArray).heap.size := by simp [putRow, mapBlock, Go.Sort.ahead]
      rw [Array.getElem?_append_left (Nat.lt_of_lt_of_le (show k < w.heap.size by omega) hs1)]⟩
  · have h2 := ownsRow_putRow (enc := encStr) (q := n) (k := A.length) (ys := A.mergeSort (fun x y => decide (x ≤ y))) h (by simp) (Nat.le_refl _)
    rw [List.take_of_length_le (by simp)] at h2
    exact grow_own h2 os

/-- an append of one text, and where the new slice lies -/
theorem wpList_append_str {W : World} {ops : Array Oper} {rest : List Oper} {o : Oper} {a : Act} {Q : Exit → Act → World → Prop} (hgd : o.guard = none) (s x : Operand)
    (ho : o.op = .call { callee := .builtin .append, args := #[s, x], argTypes := #[24, 24] }) (B : Nat) (v : Value) (n : Nat) (xs : List Value) (hs : a.eval s = v) (hown : W.ownsRow B 9 1 v n xs)
    (y : Nm) (g : Nat) (hx : a.eval x = .slice (some ⟨g, 0, none⟩) 1 1) (hg : g = W.heap.size) (hn : n + 1 ≤ 1000000000) (hB : B ≤ W.heap.size)
    (h : ∀ g' cap w', w'.ownsRow B 9 1 (.slice (some ⟨g', 0, none⟩) (n + 1) cap) (n + 1) (xs ++ [strV y]) → (W.alloc (.cells #[strV y] 9)).grownBy w' v.ownBlock → (v.ownBlock = some g' ∨ g' = W.heap.size + 1) → wpList Tryd.prog ops Q rest (a.put o.dst (.slice (some ⟨g', 0, none⟩) (n + 1) cap)) w') :
    wpList Tryd.prog ops Q (o :: rest) a (W.alloc (.cells #[strV y] 9)) := by
  subst hg
  obtain ⟨i, z, hi, hz, hsz, hby, hzs⟩ := rowStr.info
  exact wpList_append_lies _ hgd s x _ ho B 9 i z 1 16 rowStr.slice hi hz hsz hby hzs (by omega) v n xs hs (hown.alloc _) ⟨W.heap.size, 0, none⟩ 1 1 [strV y] hx (by simp) (fun j u hj => new_cells W [strV y] 9 j u hj) (by intro u hu; rw [List.mem_singleton.1 hu]; rfl) (by omega) (by unfold maxLen; omega) (by omega) (by simp; omega) (W.heap.size + 1) (by simp) (fun g' cap w' h2 h3 h4 _ => h g' cap w' h2 h3 h4)
theorem srow_grown {W w' : World} {o : Obj} {a : Option Addr} {cap g : Nat} {A : List Nm} {n c : Nat} (h : SRow W a cap A) (hg : (W.alloc o).grownBy w' (Value.slice (some ⟨g, 0, none⟩) n c).ownBlock) (hne : A = [] ∨ ∀ ad, a = some ad → ad.block ≠ g) : SRow w' a cap A := by
  obtain ⟨h1, h2⟩ := h
  refine ⟨h1, ?_⟩
  rcases h2 with h2 | ⟨b, off, rfl, hlt, hc⟩
  · exact Or.inl h2
  · rcases hne with hne | hne
    · exact Or.inl hne
    · refine Or.inr ⟨b, off, rfl, ?_, fun j x hx => ?_⟩
      · exact Nat.lt_of_lt_of_le hlt (by have := hg.size; simp at this; omega)
      · have hb : b ≠ g := hne _ rfl
        rw [World.cell?_of_block (w := W) ((hg.block b (by simp; omega) (by simp [Value.ownBlock]; exact fun e => hb e)).trans (Below.heap_alloc W o b hlt))]
        exact hc j x hx

theorem addNew_drop {al : List Nm} {j : Nat} {x : Nm} (out : List Nm) (h : al[j]? = some x) : addNew out (al.drop j) = addNew (if out.contains x then out else out ++ [x]) (al.drop (j + 1)) := by
  obtain ⟨hj, rfl⟩ := List.getElem?_eq_some_iff.1 h
  rw [List.drop_eq_getElem_cons hj, addNew]

/-- the state within one round -/
structure Inn (L : List ClassR) (U : List Nm) (n : Nm) (i : Nat) (al : List Nm) (j : Nat) (out : List Nm) : Prop where
  sub : ∀ x ∈ out, x ∈ U
  nd : out.Nodup
  fin : WSch L U n (addNew out (al.drop j)) (i + 1)
  asU : ∀ a ∈ al, a ∈ U
theorem Inn.step {L : List ClassR} {U : List Nm} {n : Nm} {i j : Nat} {al out : List Nm} {x : Nm} (h : Inn L U n i al j out) (hx : al[j]? = some x) : Inn L U n i al (j + 1) (if out.contains x then out else out ++ [x]) := by
  refine ⟨?_, ?_, by rw [← addNew_drop out hx]; exact h.fin, h.asU⟩
  · intro y hy
    split at hy
    · exact h.sub y hy
    · rcases List.mem_append.1 hy with h1 | h1
      · exact h.sub y h1
      · rw [List.mem_singleton.1 h1]; exact h.asU x (List.mem_of_getElem? hx)
  · split
    · exact h.nd
    · rename_i hc
      rw [List.nodup_append]
      refine ⟨h.nd, by simp, ?_⟩
      intro a ha b hb e
      rw [List.mem_singleton] at hb
      subst hb
      subst e
      exact hc (by simpa using ha)
theorem Inn.len {L : List ClassR} {U : List Nm} {n : Nm} {i j : Nat} {al out : List Nm} (h : Inn L U n i al j out) : out.length ≤ U.length := nodup_len h.nd h.sub

set_option maxRecDepth 100000 in
set_option maxHeartbeats 4000000 in
theorem every_calls (L : List CP) (U : List Nm) (b : Nat) (n : Nm) (w : World) (hW : WorldAt w b L) (hC : Closed (CL L) U) (hnU : n ∈ U) (hU : U.length ≤ 50) (hUl : ∀ x ∈ U, x.length ≤ 1048576) (hL : ∀ cp ∈ L, cp.1.faces.length ≤ 100000000) :
    Calls Tryd.prog 17 #[.map (some b), .string ⟨⟨n⟩⟩] w (LineRes (every (CL L) n) w) := by
  have HW := Lib.hid hW
  have HC := Lib.hid hC
  have HUL := Lib.hid hUl
  have HLL := Lib.hid hL
  have HNU := Lib.hid hnU
  clear hC hUl hL hnU
  have ho0 : (w.alloc (.cells #[strV n] 9)).ownsRow w.heap.size 9 1 (.slice (some ⟨w.heap.size, 0, none⟩) 1 1) 1 [strV n] := by
    have := World.ownsRow_lit (base := w.heap.size) (e := 9) (size := 1) w #[strV n] 1 (Nat.le_refl _) (by unfold maxLen; omega) rfl
    exact this
  have HO0 := Lib.hid ho0
  clear ho0 hW
  go_enter Tryd.func17, Tryd.ntmps17
  go_wp2_with fail
  go_loopw [5, 6] (fun v i wr => ∃ (out : List Nm) (k : Nat) (A : Option Addr) (C : Nat), Hid (WSch (CL L) U n out k) ∧ k ≤ out.length ∧ i = .int .i64 k ∧ v = .slice A out.length C ∧ wr.ownsRow w.heap.size 9 1 (.slice A out.length C) out.length (out.map strV) ∧ Below w.heap.size w wr) (fun _ i _ => 60 - (RowKit.intOf i).toNat)
  case atStart => exact ⟨[n], 0, some ⟨w.heap.size, 0, none⟩, 1, Lib.hid (WSch.start HNU.out), by simp, rfl, rfl, HO0.out, (Below.refl _ _).alloc (Nat.le_refl _) _⟩
  case round =>
    obtain ⟨out, k, A, C, HS, hk, rfl, rfl, ho, hb⟩ := hrel
    have HO := Lib.hid ho
    have HB := Lib.hid hb
    have hsz := hb.size
    have hlen := HS.out.len
    by_cases hlk : k < out.length
    · obtain ⟨x, hx⟩ : ∃ x, out[k]? = some x := ⟨_, List.getElem?_eq_getElem hlk⟩
      obtain ⟨a', cap', hv', hsr⟩ := srow_of_own ho
      simp only [Value.slice.injEq] at hv'
      obtain ⟨rfl, _, rfl⟩ := hv'
      obtain ⟨b1, off, rfl, hlt, d0⟩ := strs_cell hsr hx
      obtain ⟨g1, cg, hg1, hgB, _⟩ := ho.form (by omega)
      simp only [Value.slice.injEq, Option.some.injEq, Addr.mk.injEq] at hg1
      obtain ⟨⟨rfl, rfl, _⟩, _, rfl⟩ := hg1
      have HOB := Lib.hid hgB
      rw [Nat.zero_add] at d0
      have hxU := HS.out.sub x (List.mem_of_getElem? hx)
      have hml : (1048576 : Nat) ≤ maxLen := by unfold maxLen; omega
      have HAB := Lib.hid (above_calls L b x wr (HW.out.below hb) (Nat.le_trans (HUL.out x hxU) hml) HLL.out)
      have HN := Lib.hid (HS.out.step hU HC.out hx)
      have hasU := HC.out x hxU
      have HAU := Lib.hid hasU
      have hal : (above (CL L) x).length ≤ 200000000 := by
        unfold above
        cases hf : look (CL L) x with
        | none => simp
        | some c =>
          obtain ⟨_, hm⟩ := find_name hf
          obtain ⟨cp, hcp, rfl⟩ := List.mem_map.1 hm
          have := HLL.out cp hcp
          simp only [Option.elim, aboveC]
          split
          · omega
          · simp; omega
      generalize above (CL L) x = al at HAB HN HAU hal
      clear ho hb hsr hx hasU
      go_wp2_with fail
      refine HAB.out.mono ?_
      rintro e w2 ⟨⟨aa, ac, rfl, hr2, hap⟩, hb2⟩
      have HAP := Lib.hid (show al = [] ∨ ∀ ad, aa = some ad → ad.block ≠ b1 from by
        rcases hap with h | ⟨cp, hcp, h1, h2⟩ | h
        · exact Or.inl h
        · by_cases h0 : al = []
          · exact Or.inl h0
          · right
            intro ad had
            have hfa := (HW.out.2 cp hcp).1
            rw [← h2, ← h1] at hfa
            obtain ⟨_, h3 | ⟨b', off', h4, h5, _⟩⟩ := hfa
            · exact absurd h3 h0
            · rw [h4] at had
              cases had
              have := HOB.out
              show b' ≠ b1
              omega
        · right
          intro ad had
          have := h ad had
          omega)
      have HR2 := Lib.hid hr2
      have HB2 := Lib.hid (bl_trans HB.out hb2)
      have HO2 := Lib.hid (own_below HO.out hb2)
      have HI0 := Lib.hid (show Inn (CL L) U n k al 0 out from ⟨HS.out.sub, HS.out.nd, HN.out, HAU.out⟩)
      clear hr2 hb2
      go_wp2_with fail
      go_loopw [24, 5] (fun j v wq => ∃ (m : Nat) (out2 : List Nm) (A2 : Option Addr) (C2 : Nat), Hid (Inn (CL L) U n k al m out2) ∧ m ≤ al.length ∧ j = .int .i64 m ∧ v = .slice A2 out2.length C2 ∧ wq.ownsRow w.heap.size 9 1 (.slice A2 out2.length C2) out2.length (out2.map strV) ∧ Below w.heap.size w wq ∧ SRow wq aa ac al ∧ Hid (∃ g2, A2 = some ⟨g2, 0, none⟩ ∧ (al = [] ∨ ∀ ad, aa = some ad → ad.block ≠ g2))) (fun j _ _ => al.length - (RowKit.intOf j).toNat)
      case atStart => exact ⟨0, out, _, _, HI0, by omega, rfl, rfl, HO2.out, HB2.out, HR2.out, Lib.hid ⟨_, rfl, HAP.out⟩⟩
      case round =>
        obtain ⟨m, out2, A2, C2, HI, hm, rfl, rfl, ho, hb, hr, HG2⟩ := hrel
        obtain ⟨g2, rfl, hap2⟩ := HG2.out
        have HAP2 := Lib.hid hap2
        clear hap2 HG2
        have HO3 := Lib.hid ho
        have HB3 := Lib.hid hb
        have HR3 := Lib.hid hr
        have hszq := hb.size
        have hlen2 := HI.out.len
        by_cases hmk : m < al.length
        · obtain ⟨y, hy⟩ : ∃ y, al[m]? = some y := ⟨_, List.getElem?_eq_getElem hmk⟩
          obtain ⟨b3, off3, rfl, hlt3, e0⟩ := strs_cell hr hy
          obtain ⟨a4, cap4, hv4, hsr4⟩ := srow_of_own ho
          simp only [Value.slice.injEq] at hv4
          obtain ⟨rfl, _, rfl⟩ := hv4
          have HCT := Lib.hid (contains_str out2 _ out2.length _ y _ hsr4 rfl (by omega))
          have HI2 := Lib.hid (HI.out.step hy)
          clear ho hb hr hy hsr4
          cases hc : out2.contains y with
          | true =>
            rw [hc] at HCT HI2
            simp only [if_true] at HI2
            clear hc
            go_wp2_with fail
            refine HCT.out.mono ?_
            rintro e w3 ⟨rfl, rfl⟩
            go_wp2_with fail
            go_roundw
            case rel => exact ⟨m + 1, out2, _, C2, HI2, by omega, by go_num, rfl, HO3.out, HB3.out, HR3.out, Lib.hid ⟨g2, rfl, HAP2.out⟩⟩
            case measure => simp [RowKit.intOf]; omega
          | false =>
            rw [hc] at HCT HI2
            simp only [Bool.false_eq_true, if_false] at HI2
            clear hc
            go_wp2_with fail
            refine HCT.out.mono ?_
            rintro e w3 ⟨rfl, rfl⟩
            go_wp2_with (at_builtin; refine wpList_append_str rfl _ _ rfl w.heap.size _ out2.length (out2.map strV) rfl ?c0 y _ rfl ?cg ?c2 ?c4 ?_)
            case c0 => exact HO3.out
            case cg => rfl
            case c2 => omega
            case c4 => exact hszq
            intro g4 C4 w4 ho4 hg4 hat
            have hb4 := grown_below hszq HO3.out hg4
            have HB4 := Lib.hid (HB3.out.trans hb4)
            have ho5 : w4.ownsRow w.heap.size 9 1 (.slice (some ⟨g4, 0, none⟩) (out2.length + 1) C4) (out2 ++ [y]).length ((out2 ++ [y]).map strV) := by
              rw [List.length_append, List.length_singleton, List.map_append]; exact ho4
            have HO5 := Lib.hid ho5
            have HR4 := Lib.hid (srow_grown HR3.out hg4 HAP2.out)
            have HAP4 := Lib.hid (show al = [] ∨ ∀ ad, some (⟨b3, off3, none⟩ : Addr) = some ad → ad.block ≠ g4 from by
              rcases HAP2.out with h | h
              · exact Or.inl h
              · right
                intro ad had
                cases had
                rcases hat with e | e
                · simp [Value.ownBlock] at e
                  rw [← e]; exact h _ rfl
                · show b3 ≠ g4
                  omega)
            clear ho4 hg4 hb4 ho5 hat
            go_wp2_with fail
            go_roundw
            case rel => exact ⟨m + 1, out2 ++ [y], _, C4, HI2, by omega, by go_num, by simp, by simpa using HO5.out, HB4.out, HR4.out, Lib.hid ⟨g4, rfl, HAP4.out⟩⟩
            case measure => simp [RowKit.intOf]; omega
        · obtain rfl : m = al.length := by omega
          have hf := HI.out.fin
          rw [List.drop_length] at hf
          have HF := Lib.hid (show WSch (CL L) U n out2 (k + 1) from hf)
          have hl2 := hf.le
          clear hf ho hb hr
          go_wp2_with fail
          go_roundw
          case rel => exact ⟨out2, k + 1, _, C2, HF, hl2, by go_num, rfl, HO3.out, HB3.out⟩
          case measure => simp [RowKit.intOf]; omega
    · obtain rfl : k = out.length := by omega
      have HE := Lib.hid HS.out.done
      obtain ⟨g, cap, cur, hv, hgB, _⟩ : ∃ g cap cur, (Value.slice A out.length C) = .slice (some ⟨g, 0, none⟩) out.length cap ∧ w.heap.size ≤ g ∧ wr.heap[g]? = some (.cells cur 9 (0, 0)) := by
        rcases ho.2 with ⟨h1, h2⟩ | ⟨g, cap, cur, h1, h2, h3, _⟩
        · have := HS.out.st
          rw [List.eq_nil_of_length_eq_zero h2] at this
          cases this
        · exact ⟨g, cap, cur, h1, h2, h3⟩
      simp only [Value.slice.injEq] at hv
      obtain ⟨rfl, _, rfl⟩ := hv
      have HST := Lib.hid (sort_own out w.heap.size g C w wr hb hgB ho (by omega))
      clear ho hb
      go_wp2_with fail
      refine HST.out.mono ?_
      rintro e w2 ⟨rfl, hb2, ho2⟩
      have HB2 := Lib.hid hb2
      have HO2 := Lib.hid ho2
      clear hb2 ho2
      go_wp2_with fail
      go_ret
      have hee : every (CL L) n = out.mergeSort (fun x y => decide (x ≤ y)) := by unfold every; rw [HE.out]
      exact ⟨⟨_, rfl, by rw [hee, List.length_mergeSort]; exact HO2.out⟩, HB2.out⟩
end Go.Proofs.YtokomofjcnefaaaDoor
