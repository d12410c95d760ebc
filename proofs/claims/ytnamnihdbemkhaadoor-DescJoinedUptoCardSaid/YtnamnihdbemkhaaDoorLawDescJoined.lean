/-
  DescJoined: the arguments of two method types can be combined exactly if there are not too many; the walk of the law, up to the given bulk.
-/
import Derived.Test.YtnamnihdbemkhaaDoorMake
import Derived.Test.YtnamnihdbemkhaaDoorAppRow
import Derived.Test.YtnamnihdbemkhaaDoorFrame
import Derived.BigQuiet
import Derived.Deep.QuietTactic
namespace Go.Proofs.YtnamnihdbemkhaaDoor
set_option linter.unusedVariables false
set_option linter.unusedSimpArgs false
open Go.RowKit Go.Shelf Go.Lib

set_option maxRecDepth 100000 in
set_option maxHeartbeats 1000000 in
/-- Texts at two readings of one list -/
theorem texts_same (A : List (List UInt8)) (a a' : Option Addr) (c c' : Nat) (w : World) (h : SRow w a c A) (h' : SRow w a' c' A) (hl : A.length ≤ 1000000) :
    Calls Tryd.prog 28 #[.slice a A.length c, .slice a' A.length c'] w fun e w' => e = .returned (.bool true) ∧ Below w.heap.size w w' := by
  have HR := Lib.hid h
  have HR' := Lib.hid h'
  clear h h'
  go_enter Tryd.func28, Tryd.ntmps28
  go_wp2_with fail
  go_loopw [5] (fun i wr => ∃ k : Nat, k ≤ A.length ∧ i = .int .i64 k ∧ Below w.heap.size w wr) (fun i _ => A.length - (RowKit.intOf i).toNat)
  case atStart => exact ⟨0, by omega, rfl, Below.refl _ _⟩
  case round =>
    obtain ⟨k, hk, rfl, hwr⟩ := hrel
    by_cases hlk : k < A.length
    · obtain ⟨t, ht⟩ : ∃ t, A[k]? = some t := ⟨_, List.getElem?_eq_getElem hlk⟩
      rcases HR.out.2 with h0 | ⟨b, off, rfl, hb, hc⟩
      · rw [h0] at hlk; simp at hlk
      rcases HR'.out.2 with h0 | ⟨b', off', rfl, hb', hc'⟩
      · rw [h0] at hlk; simp at hlk
      have c1 : wr.cell? ⟨b, off + k, none⟩ = some (strV t) := by rw [hwr.cell (p := ⟨b, off + k, none⟩) hb]; exact hc k t ht
      have c2 : wr.cell? ⟨b', off' + k, none⟩ = some (strV t) := by rw [hwr.cell (p := ⟨b', off' + k, none⟩) hb']; exact hc' k t ht
      have HW := Lib.hid hwr
      have i0 : (0 : Int) ≤ (k : Int) := by omega
      have i1 : (k : Int) < (A.length : Int) := by omega
      clear hc hc' hb hb' ht hwr HR HR'
      go_wp2_with fail
      go_quiet (fail)
      go_wp2_with fail
      go_roundw
      case rel => exact ⟨k + 1, by omega, by go_num, HW.out.trans ⟨rfl, rfl, rfl, Nat.le_refl _, fun _ _ => rfl⟩⟩
      case measure => simp [RowKit.intOf]; omega
    · obtain rfl : k = A.length := by omega
      have HW := Lib.hid hwr
      clear hwr
      go_wp2_with fail
      go_ret
      exact ⟨rfl, HW.out⟩

theorem one_str (A : List (List UInt8)) : ∀ u ∈ A.map strV, u.oneCell' = true := by
  intro u hu
  obtain ⟨t, _, rfl⟩ := List.mem_map.1 hu
  rfl

theorem own_moved {w w' : World} {B : Nat} {e : TypeId} {v : Value} {n : Nat} {xs : List Value} (h : w.ownsRow B e 1 v n xs) (hb : Below w.heap.size w w') : w'.ownsRow B e 1 v n xs :=
  h.kept (row := none) ⟨hb.os, hb.tape, hb.output, hb.size, fun k hk _ => hb.block k hk⟩ (by cases hv : Value.ownBlock v <;> simp)

set_option maxRecDepth 100000 in
set_option maxHeartbeats 2000000 in
theorem descJoined_go (a b : List UInt8) (ha : a.length ≤ 1048576) (hb : b.length ≤ 1048576) (w : World) :
    Calls Tryd.prog 9 #[.string ⟨⟨a⟩⟩, .string ⟨⟨b⟩⟩] w fun e w' => e = .returned (.bool true) ∧ Below w.heap.size w w' := by
  obtain ⟨i0, hi, hz0, hz1, hz2⟩ := info_parts info_str
  go_enter Tryd.func9, Tryd.ntmps9
  go_wp2_with fail
  refine (named_true _).mono ?_
  rintro e w1 ⟨rfl, hb1⟩
  go_wp2_with fail
  refine (method_calls a (by omega) _).mono ?_
  rintro e w2 ⟨hb2, hm1⟩
  have HB2 := Lib.hid (bl_trans hb1 hb2)
  clear hb1 hb2
  rcases hm1 with ⟨rfl, _⟩ | ⟨vx, A, g0, rfl, hA, hx⟩
  · go_wp2_with fail
    refine (method_calls b (by omega) _).mono ?_
    rintro e w3 ⟨hb3, hm2⟩
    have HB3 := Lib.hid (bl_trans HB2.out hb3)
    clear hb3
    rcases hm2 with ⟨rfl, _⟩ | ⟨vy, A', g, rfl, hA', hy⟩
    · go_wp2_with fail
      go_ret
      exact ⟨rfl, HB3.out⟩
    · clear hA' hy
      go_wp2_with fail
      go_ret
      exact ⟨rfl, HB3.out⟩
  · have HX := Lib.hid hx
    have HA := Lib.hid hA
    clear hx hA
    go_wp2_with fail
    refine (method_calls b (by omega) _).mono ?_
    rintro e w3 ⟨hb3, hm2⟩
    have HB3 := Lib.hid (bl_trans HB2.out hb3)
    rcases hm2 with ⟨rfl, _⟩ | ⟨vy, A', g, rfl, hA', hy⟩
    · clear hb3
      go_wp2_with fail
      go_ret
      exact ⟨rfl, HB3.out⟩
    · have hx3 := own_moved HX.out hb3
      have HX3 := Lib.hid hx3
      have HY := Lib.hid hy
      have HA' := Lib.hid hA'
      have hl1 := hA'.2.2.1
      have hl2 := HA.out.2.2.1
      have s1 := SrcRow.of_own hx3 (one_str A)
      have s2 := SrcRow.of_own hy (one_str A')
      have hg1 := hA'.2.2.2
      have hty : ∀ t ∈ A ++ A', TypeOk t := by
        intro t ht
        rcases List.mem_append.1 ht with h | h
        · exact HA.out.2.1 t h
        · exact hA'.2.1 t h
      have HG := Lib.hid hg1
      have HTY := Lib.hid hty
      have hlt1 : ∀ k, vx.ownBlock = some k → k < w3.heap.size := fun k hk => (hx3.lt k hk).2
      have hlt2 : ∀ k, vy.ownBlock = some k → k < w3.heap.size := fun k hk => (hy.lt k hk).2
      have HL1 := Lib.hid hlt1
      have HL2 := Lib.hid hlt2
      have S1 := Lib.hid s1
      have S2 := Lib.hid s2
      clear hb3 hx3 hy hA' s1 s2 hg1 hty HX hlt1 hlt2
      go_wp2_with (at_builtin; refine wpList_append_row rfl (.tmp 41) (.tmp 42) 50 rfl w3.heap.size 9 i0 (.string ByteArray.empty) 1 16 Tryd.underlying50 hi hz0 hz1 hz2 rfl (by decide) _ 0 [] rfl ?c0 _ A.length (A.map strV) rfl ?c1 ?c2 ?c3 ?c4 ?_)
      case c0 => exact World.ownsRow_made w3 #[] 0 (Nat.le_refl _) (by unfold maxLen; omega) rfl
      case c1 => exact S1.out.moved (fun k hk => Below.heap_alloc _ _ _ (HL1.out k hk))
      case c2 => unfold maxLen; omega
      case c3 => omega
      case c4 => simp
      intro v1 w4 hown1 hg1
      have hsz4 : w3.heap.size ≤ w4.heap.size := Nat.le_trans (by simp) hg1.size
      have s2 : SrcRow w4 1 vy A'.length (A'.map strV) := (S2.out.moved (w' := w3.alloc (.cells #[] 9)) (fun k hk => Below.heap_alloc _ _ _ (HL2.out k hk))).moved (fun k hk => hg1.block k (by have := HL2.out k hk; simp; omega) (by have := HL2.out k hk; simp [Value.ownBlock]; omega))
      have S2' := Lib.hid s2
      have hb4 : Below w3.heap.size w3 w4 := ((Below.refl _ _).alloc (Nat.le_refl _) _).grown hg1 (by simp) (by intro k hk; simp [Value.ownBlock] at hk; omega)
      have HB4 := Lib.hid hb4
      clear s2 hb4 hg1 S1 S2 HL1 HL2
      go_wp2_with (at_builtin; refine wpList_append_row rfl (.tmp 43) (.tmp 44) 50 rfl w3.heap.size 9 i0 (.string ByteArray.empty) 1 16 Tryd.underlying50 hi hz0 hz1 hz2 rfl (by decide) _ A.length (A.map strV) rfl hown1 _ A'.length (A'.map strV) rfl ?d1 ?d2 ?d3 ?d4 ?_)
      case d1 => exact S2'.out
      case d2 => unfold maxLen; omega
      case d3 => omega
      case d4 => exact hsz4
      intro v2 w5 hown2 hg2
      have hb5 : Below w3.heap.size w3 w5 := HB4.out.grown hg2 hsz4 (fun k hk => (hown1.lt k hk).1)
      have HB5 := Lib.hid (bl_trans HB3.out hb5)
      rw [← List.map_append, ← List.length_append] at hown2
      obtain ⟨av, cv, hv2, hrow⟩ := srow_of_own hown2
      have HROW := Lib.hid hrow
      have hlen : (A ++ A').length ≤ 10 := by rw [List.length_append]; omega
      clear hown1 hown2 hg2 hb5 hrow HB4 S2' hsz4 HX3 HY
      generalize A ++ A' = AA at hv2 HROW hlen HTY
      subst hv2
      by_cases h5 : 5 < AA.length
      · go_wp2_with fail
        refine (make_full _ _ _ _ _ h5).mono ?_
        rintro e w6 ⟨rfl, rfl⟩
        go_wp2_with fail
        go_ret
        exact ⟨rfl, HB5.out⟩
      · have hm : MethodOk (40 :: (AA.flatten ++ 41 :: g)) AA g := ⟨rfl, HTY.out, by omega, HG.out⟩
        have hfl := flat_len AA HTY.out
        have hgl : g.length ≤ 25 := by
          rcases HG.out with rfl | hg
          · simp
          · exact (type_len hg).2
        have hsl : (40 :: (AA.flatten ++ 41 :: g)).length ≤ 8388608 := by simp only [List.length_cons, List.length_append]; omega
        have HM := Lib.hid hm
        have HK := Lib.hid (fun w (h : SRow w av cv AA) => make_ok AA av cv g w h (by omega) HTY.out HG.out)
        generalize hs : 40 :: (AA.flatten ++ 41 :: g) = s at HM HK hsl
        clear hs hm hfl
        go_wp2_with fail
        refine (HK.out _ HROW.out).mono ?_
        rintro e w6 ⟨rfl, hb6⟩
        have HB6 := Lib.hid (bl_trans HB5.out hb6)
        have HR6 := Lib.hid (HROW.out.below hb6)
        clear hb6 HROW HB5
        go_wp2_with fail
        refine (method_calls s hsl _).mono ?_
        rintro e w7 ⟨hb7, ⟨rfl, hno⟩ | ⟨vl, AL, gl, rfl, hAL, hown⟩⟩
        · exact absurd HM.out (hno AA g)
        · obtain ⟨rfl, rfl⟩ := method_uniq hAL HM.out
          obtain ⟨al, cl, rfl, hrl⟩ := srow_of_own hown
          have HB7 := Lib.hid (bl_trans HB6.out hb7)
          have HR7 := Lib.hid (HR6.out.below hb7)
          have HRL := Lib.hid hrl
          clear hb7 hAL hown hrl HB6 HR6
          go_wp2_with fail
          refine (texts_same AL _ _ _ _ _ HRL.out HR7.out (by omega)).mono ?_
          rintro e w8 ⟨rfl, hb8⟩
          go_wp2_with fail
          go_ret
          exact ⟨rfl, bl_trans HB7.out hb8⟩

set_option maxRecDepth 100000 in
theorem descJoined.walk (a : ByteArray) (ha : a.size ≤ maxLen) (har : a.data.toList.length ≤ reachBytes) (b : ByteArray) (hb : b.size ≤ maxLen) (hbr : b.data.toList.length ≤ reachBytes) (w : World) {l : Prop} {s : Prop} (_ : l) (_ : s) {K : Type} (hbulk : Rows.uptoBulkAll [(DataW.lit (.string a.data.toList) : DataW K), DataW.lit (.string b.data.toList)] ≤ 1048576) :
    Calls Tryd.prog 9 #[.string a, .string b] w fun e w' => e = .returned (.bool true) ∧ Below w.heap.size w w' := by
  obtain ⟨⟨a⟩⟩ := a
  obtain ⟨⟨b⟩⟩ := b
  simp only [Rows.uptoBulkAll, Rows.uptoBulk] at hbulk
  exact descJoined_go a b (by omega) (by omega) w
end Go.Proofs.YtnamnihdbemkhaaDoor
