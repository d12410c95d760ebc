/-
  The walks of utf.unit at every text, and of utf.Decode.
-/
import Derived.Test.YtnamnihdbemkhaaDoorUtf2
import Derived.Deep.RegionLaw
import Derived.Deep.AppendLies
namespace Go.Proofs.YtnamnihdbemkhaaDoor
set_option linter.unusedVariables false
set_option linter.unusedSimpArgs false
open Go.RowKit Go.Shelf Go.Lib

set_option maxRecDepth 100000 in
set_option maxHeartbeats 4000000 in
theorem unit_short2 (bs : List Int) (b off cap : Nat) (w : World) (b0 : Int) (hb0 : bs.getD 0 0 = b0) (h0 : 192 ≤ b0) (h1 : b0 < 224) (hl : 0 < bs.length) (hl2 : bs.length < 2) (hcap : bs.length ≤ cap) (hlt : b < w.heap.size)
    (hc : ∀ i, i < bs.length → w.cell? ⟨b, off + i, none⟩ = some (.int .u8 (bs.getD i 0))) :
    Calls Tryd.prog 37 #[.slice (some ⟨b, off, none⟩) bs.length cap] w fun e w' => UnitRes bs e ∧ Below w.heap.size w w' := by
  have hc0 := hc 0 (by omega)
  rw [hb0, Nat.add_zero] at hc0
  have d1 : ((b0 / 32) == 6) = true := by rw [beq_iff_eq]; omega
  have HC := Lib.hid hc
  have H0 := Lib.hid hb0
  clear hc hb0
  go_enter Tryd.func37, Tryd.ntmps37
  go_wp2_with fail
  go_ret2
  exact ⟨⟨_, _, rfl, Or.inl rfl⟩, Below.refl _ _⟩
set_option maxRecDepth 100000 in
set_option maxHeartbeats 4000000 in
theorem unit_short3 (bs : List Int) (b off cap : Nat) (w : World) (b0 : Int) (hb0 : bs.getD 0 0 = b0) (h0 : 224 ≤ b0) (h1 : b0 < 240) (hl : 0 < bs.length) (hl2 : bs.length < 3) (hcap : bs.length ≤ cap) (hlt : b < w.heap.size)
    (hc : ∀ i, i < bs.length → w.cell? ⟨b, off + i, none⟩ = some (.int .u8 (bs.getD i 0))) :
    Calls Tryd.prog 37 #[.slice (some ⟨b, off, none⟩) bs.length cap] w fun e w' => UnitRes bs e ∧ Below w.heap.size w w' := by
  have hc0 := hc 0 (by omega)
  rw [hb0, Nat.add_zero] at hc0
  have d1 : ((b0 / 32) == 6) = false := by rw [beq_eq_false_iff_ne]; omega
  have d2 : ((b0 / 16) == 14) = true := by rw [beq_iff_eq]; omega
  have HC := Lib.hid hc
  have H0 := Lib.hid hb0
  clear hc hb0
  go_enter Tryd.func37, Tryd.ntmps37
  go_wp2_with fail
  go_ret2
  exact ⟨⟨_, _, rfl, Or.inl rfl⟩, Below.refl _ _⟩

theorem unit_any (bs : List Int) (b off cap : Nat) (w : World) (hl : 0 < bs.length) (hm : bs.length ≤ 1152921504606846976) (hby : ∀ x ∈ bs, 0 ≤ x ∧ x < 256) (hcap : bs.length ≤ cap) (hlt : b < w.heap.size)
    (hc : ∀ i, i < bs.length → w.cell? ⟨b, off + i, none⟩ = some (.int .u8 (bs.getD i 0))) :
    Calls Tryd.prog 37 #[.slice (some ⟨b, off, none⟩) bs.length cap] w fun e w' => UnitRes bs e ∧ Below w.heap.size w w' := by
  have hb := hby (bs.getD 0 0) (by rw [List.getD, List.getElem?_eq_getElem hl]; exact List.getElem_mem _)
  by_cases a1 : bs.getD 0 0 < 192 ∨ 240 ≤ bs.getD 0 0
  · exact unit_one bs b off cap w _ rfl hb.1 a1 hb.2 (by omega) hm hby hcap hlt hc
  · by_cases a2 : bs.getD 0 0 < 224
    · by_cases a3 : 2 ≤ bs.length
      · exact unit_two bs b off cap w _ rfl (by omega) a2 a3 hm hby hcap hlt hc
      · exact unit_short2 bs b off cap w _ rfl (by omega) a2 hl (by omega) hcap hlt hc
    · by_cases a3 : 3 ≤ bs.length
      · exact unit_three bs b off cap w _ rfl (by omega) (by omega) a3 hm hby hcap hlt hc
      · exact unit_short3 bs b off cap w _ rfl (by omega) (by omega) hl (by omega) hcap hlt hc

def sliceLen : Value → Nat | .slice _ l _ => l | _ => 0
theorem info_u16 : (Tryd.prog.info? 34).map (fun i => (i.zero, i.size, i.bytes)) = some (some (.int .u16 0), 1, 2) := by kernel_rfl

/-- the units so far -/
def DecRel (bs : List Int) (B : Nat) (w : World) (k : Nat) (v : Value) (wr : World) : Prop :=
  Below B w wr ∧ ∃ us : List Int, wr.ownsRow B 34 1 v us.length (us.map (Value.int .u16)) ∧ (∀ u ∈ us, 0 ≤ u ∧ u < 65536) ∧ enc us = bs.take k ∧ us.length ≤ k

/-- what Decode gives -/
def DecRes (bs : List Int) (w : World) (e : Ending) (w' : World) : Prop :=
  Below w.heap.size w w' ∧ ((e = .returned (.tuple #[.slice none 0 0, errV 1]) ∧ bs ≠ []) ∨
    ∃ v, e = .returned (.tuple #[v, .nilIface]) ∧ ∃ us : List Int, w'.ownsRow w.heap.size 34 1 v us.length (us.map (Value.int .u16)) ∧ (∀ u ∈ us, 0 ≤ u ∧ u < 65536) ∧ enc us = bs)

theorem decode_step {bs : List Int} {B : Nat} {w wr w1 w2 : World} {k n : Nat} {v v' : Value} {o : Obj} {us : List Int} {u : Int} (hB : B ≤ wr.heap.size) (hr : Below B w wr) (hus : ∀ u ∈ us, 0 ≤ u ∧ u < 65536) (hu : 0 ≤ u ∧ u < 65536) (he : enc us = bs.take k) (hl : us.length ≤ k) (hn : 1 ≤ n)
    (he1 : enc1 u = (bs.drop k).take n) (hb1 : Below wr.heap.size wr w1) (hrow : ∀ j, v.ownBlock = some j → B ≤ j)
    (hown : w2.ownsRow B 34 1 v' (us.length + 1) (us.map (Value.int .u16) ++ [.int .u16 u])) (hg : (w1.alloc o).drew.grownBy w2 v.ownBlock) : DecRel bs B w (k + n) v' w2 := by
  refine ⟨((((hr.trans (hb1.mono hB)).alloc (by have := hb1.size; omega) o).drew).grown hg (by simp; have := hb1.size; omega) hrow), us ++ [u], ?_, ?_, ?_, by simp; omega⟩
  · simpa using hown
  · intro x hx
    rcases List.mem_append.1 hx with h | h
    · exact hus x h
    · simp at h; rw [h]; exact hu
  · rw [enc_append, he, List.take_add]
    congr 1
    simpa [enc] using he1

set_option maxRecDepth 100000 in
set_option maxHeartbeats 4000000 in
theorem decode_some (bs : List Int) (b off cap : Nat) (w : World) (hm : bs.length ≤ 1152921504606) (hby : ∀ x ∈ bs, 0 ≤ x ∧ x < 256) (hcap : bs.length ≤ cap) (hlt : b < w.heap.size)
    (hc : ∀ i, i < bs.length → w.cell? ⟨b, off + i, none⟩ = some (.int .u8 (bs.getD i 0))) :
    Calls Tryd.prog 17 #[.slice (some ⟨b, off, none⟩) bs.length cap] w fun e w' => DecRes bs w e w' := by
  obtain ⟨i0, hi, hz0, hz1, hz2⟩ := info_parts info_u16
  have HC := Lib.hid hc
  have HBY := Lib.hid hby
  clear hc hby
  obtain ⟨B, hB⟩ : ∃ B, B = w.heap.size := ⟨_, rfl⟩
  rw [← hB] at hlt
  have HB := Lib.hid hB
  clear hB
  go_enter Tryd.func17, Tryd.ntmps17
  go_wp2_with fail
  go_loopw [0, 4] (fun s v wr => ∃ k off' cap' : Nat, k ≤ bs.length ∧ s = .slice (some ⟨b, off', none⟩) (bs.length - k) cap' ∧ bs.length - k ≤ cap' ∧ (k < bs.length → off' = off + k) ∧ DecRel bs B w k v wr) (fun s _ _ => sliceLen s)
  case atStart => exact ⟨0, off, cap, by omega, rfl, by omega, fun _ => rfl, Below.refl _ _, [], by simpa using World.ownsRow_nil w B _ 1, by simp, by simp [enc], by simp⟩
  case round =>
    obtain ⟨k, off', cap', hk, rfl, hcap', hoff, hrel⟩ := hrel
    have HR := Lib.hid hrel
    clear hrel
    by_cases hlt' : k < bs.length
    · obtain rfl := hoff hlt'
      have hlp : 0 < bs.length - k := by omega
      have hun := unit_any (bs.drop k) b (off + k) cap' wr (by simp; omega) (by simp; omega) (fun x hx => HBY.out x (List.mem_of_mem_drop hx)) (by simp; omega) (by have := HR.out.1.size; have := HB.out; omega) (fun i hi => by
        rw [HR.out.1.cell (p := ⟨b, off + k + i, none⟩) hlt]
        have h := HC.out (k + i) (by simp at hi; omega)
        rw [← Nat.add_assoc] at h
        rw [h]
        congr 2
        simp [List.getD, List.getElem?_drop])
      rw [List.length_drop] at hun
      have HU := Lib.hid hun
      clear hun hoff
      go_wp2_with fail
      refine HU.out.mono ?_
      rintro e w1 ⟨⟨u, n, rfl, hn⟩, hb1⟩
      clear HU
      rcases hn with rfl | ⟨n1, n2, n3, u1, u2, he⟩
      · go_wp2_with fail
        go_ret2
        have hne : bs ≠ [] := by intro e; rw [e] at hlt'; simp at hlt'
        exact ⟨by have := HB.out; subst this; exact HR.out.1.trans (hb1.mono HR.out.1.size), Or.inl ⟨rfl, hne⟩⟩
      · obtain ⟨m, rfl⟩ : ∃ m : Nat, n = m := ⟨n.toNat, by omega⟩
        rw [List.length_drop] at n3
        rw [Int.toNat_natCast] at he
        have HE := Lib.hid he
        clear he
        obtain ⟨hbr, us, hown, husr, heu, hul⟩ := HR.out
        have HUS := Lib.hid husr
        have HEU := Lib.hid heu
        have HBR := Lib.hid hbr
        have hown1 : w1.ownsRow B 34 1 u4 us.length (us.map (Value.int .u16)) := hown.kept (row := none) ⟨hb1.os, hb1.tape, hb1.output, hb1.size, fun k hk _ => hb1.block k hk⟩ (by cases hv : Value.ownBlock u4 <;> simp)
        have HB1 := Lib.hid hb1
        have hs1 : B ≤ w1.heap.size := by have := hb1.size; have := hbr.size; have := HB.out; omega
        clear husr heu hbr hb1 hown
        have hz : ((m : Int) == 0) = false := by rw [beq_eq_false_iff_ne]; omega
        go_wp2_with fail
        by_cases hcm : cap' = m
        · obtain rfl := hcm
          go_region_law (refine step_append_lies _ (by rfl) _ _ _ (by rfl) B 34 i0 (.int .u16 0) 1 2 Tryd.underlying30 hi hz0 hz1 hz2 rfl (by omega) u4 us.length (us.map (Value.int .u16)) (by rfl) ((hown1.alloc _).drew) ⟨w1.heap.size, 0, none⟩ 1 1 [.int .u16 u] (by rfl) (by rfl) (World.news_of_block (cs := #[.int .u16 u]) (t := 34) (fr := (0, 0)) (heap_alloc_new w1 _)) (by simp [Value.oneCell']) (by omega) (by unfold maxLen; omega) (by omega) (by simp; omega) (w1.heap.size + 1) (by simp) ?_; intro gg cap2 w2 hown2 hgrow hat hltt)
          have hnew := decode_step (by have := HBR.out.size; have := HB.out; omega) HBR.out HUS.out ⟨u1, u2⟩ HEU.out hul (by omega) HE.out HB1.out (fun j hj => (hown1.lt j hj).1) hown2 hgrow
          have HN := Lib.hid hnew
          clear hnew hown1 hown2 hgrow hat hltt HE HEU HUS HBR HB1 HR
          go_roundw
          case rel =>
            repeat apply Exists.intro
            exact ⟨⟨k + cap', off + k, 0, by omega, by rw [show bs.length - (k + cap') = 0 by omega], by omega, fun _ => by omega, HN.out⟩, rfl⟩
          case measure =>
            show 0 < bs.length - k
            omega
        · have hlm : m < cap' := by omega
          go_region_law (refine step_append_lies _ (by rfl) _ _ _ (by rfl) B 34 i0 (.int .u16 0) 1 2 Tryd.underlying30 hi hz0 hz1 hz2 rfl (by omega) u4 us.length (us.map (Value.int .u16)) (by rfl) ((hown1.alloc _).drew) ⟨w1.heap.size, 0, none⟩ 1 1 [.int .u16 u] (by rfl) (by rfl) (World.news_of_block (cs := #[.int .u16 u]) (t := 34) (fr := (0, 0)) (heap_alloc_new w1 _)) (by simp [Value.oneCell']) (by omega) (by unfold maxLen; omega) (by omega) (by simp; omega) (w1.heap.size + 1) (by simp) ?_; intro gg cap2 w2 hown2 hgrow hat hltt)
          have hnew := decode_step (by have := HBR.out.size; have := HB.out; omega) HBR.out HUS.out ⟨u1, u2⟩ HEU.out hul (by omega) HE.out HB1.out (fun j hj => (hown1.lt j hj).1) hown2 hgrow
          have HN := Lib.hid hnew
          clear hnew hown1 hown2 hgrow hat hltt HE HEU HUS HBR HB1 HR
          go_roundw
          case rel =>
            repeat apply Exists.intro
            exact ⟨⟨k + m, off + k + m, cap' - m, by omega, by rw [Nat.sub_add_eq], by omega, fun _ => by omega, HN.out⟩, rfl⟩
          case measure =>
            show bs.length - k - m < bs.length - k
            omega
    · obtain rfl : k = bs.length := by omega
      go_wp2_with fail
      go_ret2
      obtain ⟨hbr, us, hown, husr, heu, hul⟩ := HR.out
      have hB := HB.out
      subst hB
      exact ⟨hbr, Or.inr ⟨_, rfl, us, hown, husr, by rw [heu, List.take_length]⟩⟩

set_option maxRecDepth 100000 in
theorem decode_nil (w : World) : Calls Tryd.prog 17 #[.slice none 0 0] w fun e w' => DecRes [] w e w' := by
  go_enter Tryd.func17, Tryd.ntmps17
  go_wp2_with fail
  refine wp_loop_rounds 1 ?_
  rw [rounds_succ]
  go_wp2_with fail
  go_ret2
  exact ⟨Below.refl _ _, Or.inr ⟨_, rfl, [], by simpa using World.ownsRow_nil w w.heap.size _ 1, by simp, by simp [enc]⟩⟩
end Go.Proofs.YtnamnihdbemkhaaDoor
