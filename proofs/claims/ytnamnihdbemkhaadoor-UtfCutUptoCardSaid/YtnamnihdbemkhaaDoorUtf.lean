/-
  The walks of package utf: Encode, unit, Decode.
-/
import Derived.Test.YtnamnihdbemkhaaDoorName
import Derived.Test.YtnamnihdbemkhaaDoorPUtf
import Derived.Laws.BytesArg
import Derived.Deep.LoopGhost
import Derived.Lib.SlicesS
import Derived.Deep.RegionWith
namespace Go.Proofs.YtnamnihdbemkhaaDoor
set_option linter.unusedVariables false
set_option linter.unusedSimpArgs false
open Go.RowKit Go.Shelf Go.Lib

/-- a slice value reads as these numbers -/
def IRow (k : IntKind) (w : World) (a : Option Addr) (cap : Nat) (zs : List Int) : Prop :=
  zs.length ≤ cap ∧ (zs = [] ∨ ∃ b off, a = some ⟨b, off, none⟩ ∧ b < w.heap.size ∧ ∀ i, i < zs.length → w.cell? ⟨b, off + i, none⟩ = some (.int k (zs.getD i 0)))

theorem IRow.below {k : IntKind} {w w' : World} {a : Option Addr} {cap : Nat} {zs : List Int} (h : IRow k w a cap zs) (hb : Below w.heap.size w w') : IRow k w' a cap zs := by
  obtain ⟨h1, h2 | ⟨b, off, rfl, hlt, hc⟩⟩ := h
  · exact ⟨h1, Or.inl h2⟩
  · exact ⟨h1, Or.inr ⟨b, off, rfl, Nat.lt_of_lt_of_le hlt hb.size, fun i hi => by rw [hb.cell (p := ⟨b, off + i, none⟩) hlt]; exact hc i hi⟩⟩

theorem info_u8 : (Tryd.prog.info? 5).map (fun i => (i.zero, i.size, i.bytes)) = some (some (.int .u8 0), 1, 1) := by kernel_rfl

/-- Encode's loop: what is collected after k units -/
def EncRel (zs : List Int) (B : Nat) (w : World) (k : Nat) (v : Value) (wr : World) : Prop :=
  wr.ownsRow B 5 1 v (enc (zs.take k)).length ((enc (zs.take k)).map (Value.int .u8)) ∧ Below B w wr

theorem take_snoc' (zs : List Int) (k : Nat) (hk : k < zs.length) : zs.take (k + 1) = zs.take k ++ [zs.getD k 0] := by
  rw [List.take_add_one, List.getElem?_eq_getElem hk, List.getD, List.getElem?_eq_getElem hk]; rfl

theorem encode_step {zs : List Int} {B : Nat} {w wr w1 : World} {k : Nat} {v v' : Value} {o : Obj} {news : List Int} (hk : k < zs.length) (hB : B ≤ wr.heap.size) (hr : EncRel zs B w k v wr) (he : enc1 (zs.getD k 0) = news)
    (hown : w1.ownsRow B 5 1 v' ((enc (zs.take k)).length + news.length) ((enc (zs.take k)).map (Value.int .u8) ++ news.map (Value.int .u8))) (hg : (wr.alloc o).grownBy w1 v.ownBlock) : EncRel zs B w (k + 1) v' w1 := by
  have e : enc (zs.take (k + 1)) = enc (zs.take k) ++ news := by
    rw [take_snoc' zs k hk, enc_append, enc_cons, he]; simp [enc]
  refine ⟨?_, (hr.2.alloc hB o).grown hg (by simp; omega) (fun j hj => (hr.1.lt j hj).1)⟩
  rw [e, List.length_append, List.map_append]
  exact hown

set_option maxRecDepth 100000 in
set_option maxHeartbeats 1000000 in
theorem encode_calls (zs : List Int) (b off cap : Nat) (w : World) (hl : zs.length ≤ 1152921504606) (hlt : b < w.heap.size) (hu : ∀ i, i < zs.length → 0 ≤ zs.getD i 0 ∧ zs.getD i 0 < 65536)
    (hc : ∀ i, i < zs.length → w.cell? ⟨b, off + i, none⟩ = some (.int .u16 (zs.getD i 0))) :
    Calls Tryd.prog 16 #[.slice (some ⟨b, off, none⟩) zs.length cap] w fun e w' => ∃ v, e = .returned v ∧ EncRel zs w.heap.size w zs.length v w' := by
  obtain ⟨i0, hi, hz0, hz1, hz2⟩ := info_parts info_u8
  have HU := Lib.hid hu
  have HC := Lib.hid hc
  clear hu hc
  obtain ⟨B, hB⟩ : ∃ B, B = w.heap.size := ⟨_, rfl⟩
  rw [← hB] at hlt ⊢
  have HB := Lib.hid hB
  clear hB
  go_enter Tryd.func16, Tryd.ntmps16
  go_wp2_with fail
  go_loopw [3, 8] (fun v i wr => ∃ k : Nat, k ≤ zs.length ∧ i = .int .i64 k ∧ EncRel zs B w k v wr) (fun _ i _ => zs.length - (RowKit.intOf i).toNat)
  case atStart => exact ⟨0, Nat.zero_le _, rfl, ⟨by simpa [enc] using World.ownsRow_nil w B _ 1, Below.refl _ _⟩⟩
  case round =>
    obtain ⟨k, hk, rfl, hrel⟩ := hrel
    by_cases hlt' : k < zs.length
    · have hu := HU.out k hlt'
      obtain ⟨hu0, hu1⟩ := hu
      have hcell : wr.cell? ⟨b, off + k, none⟩ = some (.int .u16 (zs.getD k 0)) := by
        rw [hrel.2.cell (p := ⟨b, off + k, none⟩) hlt]; exact HC.out k hlt'
      have HR := Lib.hid hrel
      clear hrel
      generalize hu : zs.getD k 0 = u at hu0 hu1 hcell
      have HE := Lib.hid hu
      clear hu
      have hgo : ∀ (news : List Int) (o : Obj) (v' : Value) (w1 : World), enc1 u = news → w1.ownsRow B 5 1 v' ((enc (zs.take k)).length + news.length) ((enc (zs.take k)).map (Value.int .u8) ++ news.map (Value.int .u8)) → (wr.alloc o).grownBy w1 u3.ownBlock → EncRel zs B w (k + 1) v' w1 :=
        fun news o v' w1 he ho hg => encode_step hlt' (by rw [HB.out]; exact HR.out.2.size) HR.out (by rw [HE.out]; exact he) ho hg
      have hown := HR.out.1
      have hel := (enc_len (zs.take k)).2
      have hn : (enc (zs.take k)).length ≤ 3 * k := by rw [List.length_take] at hel; omega
      have hsz : B ≤ wr.heap.size := by rw [HB.out]; exact HR.out.2.size
      clear hel
      have HG := Lib.hid hgo
      clear hgo
      rcases (by omega : u = 0 ∨ (1 ≤ u ∧ u < 128) ∨ (128 ≤ u ∧ u < 2048) ∨ 2048 ≤ u) with c | ⟨c, c'⟩ | ⟨c, c'⟩ | c
      case inl =>
          subst c
          have he : enc1 0 = [192, 128] := by decide
          have HE1 := Lib.hid he
          have hm := or_and63_0
          clear he
          go_wp2_with (at_builtin; refine wpList_append_own _ rfl _ _ 27 rfl B 5 i0 (.int .u8 0) 1 1 Tryd.underlying27 hi hz0 hz1 hz2 rfl (by decide) _ _ _ rfl (hown.alloc _) ⟨wr.heap.size, 0, none⟩ 2 2 [.int .u8 192, .int .u8 128] rfl rfl ?c1 ?c2 ?c3 ?c4 ?c5 ?_)
          case c1 => exact fun j v hj => new_cells wr [.int .u8 192, .int .u8 128] 5 j v hj
          case c2 => intro x hx; simp only [List.mem_cons, List.mem_nil_iff, or_false] at hx; rcases hx with rfl | rfl <;> rfl
          case c3 => unfold maxLen; omega
          case c4 => omega
          case c5 => simp; omega
          intro v' w1 ho hg _
          have HF := HG.out [192, 128] _ v' w1 HE1.out ho hg
          clear hown ho hg HG HE1
          go_wp2_with fail
          go_round
          case rel => exact ⟨k + 1, by omega, by go_num, HF⟩
          case measure => simp [RowKit.intOf]; omega
      case inr.inl =>
          have he : enc1 u = [u] := by unfold enc1; rw [if_pos (by omega)]
          have HE1 := Lib.hid he
          clear he
          go_wp2_with (at_builtin; refine wpList_append_own _ rfl _ _ 27 rfl B 5 i0 (.int .u8 0) 1 1 Tryd.underlying27 hi hz0 hz1 hz2 rfl (by decide) _ _ _ rfl (hown.alloc _) ⟨wr.heap.size, 0, none⟩ 1 1 [.int .u8 u] rfl rfl ?c1 ?c2 ?c3 ?c4 ?c5 ?_)
          case c1 => exact fun j v hj => new_cells wr [.int .u8 u] 5 j v hj
          case c2 => intro x hx; simp only [List.mem_cons, List.mem_nil_iff, or_false] at hx; rcases hx with rfl <;> rfl
          case c3 => unfold maxLen; omega
          case c4 => omega
          case c5 => simp; omega
          intro v' w1 ho hg _
          have HF := HG.out [u] _ v' w1 HE1.out ho hg
          clear hown ho hg HG HE1
          go_wp2_with fail
          go_round
          case rel => exact ⟨k + 1, by omega, by go_num, HF⟩
          case measure => simp [RowKit.intOf]; omega
      case inr.inr.inl =>
          have he : enc1 u = [192 + u / 64, 128 + u % 64] := by unfold enc1; rw [if_neg (by omega), if_pos c']
          have HE1 := Lib.hid he
          have hm := or_and63 u hu0 hu1
          clear he
          go_wp2_with (at_builtin; refine wpList_append_own _ rfl _ _ 27 rfl B 5 i0 (.int .u8 0) 1 1 Tryd.underlying27 hi hz0 hz1 hz2 rfl (by decide) _ _ _ rfl (hown.alloc _) ⟨wr.heap.size, 0, none⟩ 2 2 [.int .u8 (192 + u / 64), .int .u8 (128 + u % 64)] rfl rfl ?c1 ?c2 ?c3 ?c4 ?c5 ?_)
          case c1 => exact fun j v hj => new_cells wr [.int .u8 (192 + u / 64), .int .u8 (128 + u % 64)] 5 j v hj
          case c2 => intro x hx; simp only [List.mem_cons, List.mem_nil_iff, or_false] at hx; rcases hx with rfl | rfl <;> rfl
          case c3 => unfold maxLen; omega
          case c4 => omega
          case c5 => simp; omega
          intro v' w1 ho hg _
          have HF := HG.out [192 + u / 64, 128 + u % 64] _ v' w1 HE1.out ho hg
          clear hown ho hg HG HE1
          go_wp2_with fail
          go_round
          case rel => exact ⟨k + 1, by omega, by go_num, HF⟩
          case measure => simp [RowKit.intOf]; omega
      case inr.inr.inr =>
          have he : enc1 u = [224 + u / 4096, 128 + u / 64 % 64, 128 + u % 64] := by unfold enc1; rw [if_neg (by omega), if_neg (by omega)]
          have HE1 := Lib.hid he
          have hm := or_and63 u hu0 hu1
          have hm2 := or_and63 (u / 64) (by omega) (by omega)
          clear he
          go_wp2_with (at_builtin; refine wpList_append_own _ rfl _ _ 27 rfl B 5 i0 (.int .u8 0) 1 1 Tryd.underlying27 hi hz0 hz1 hz2 rfl (by decide) _ _ _ rfl (hown.alloc _) ⟨wr.heap.size, 0, none⟩ 3 3 [.int .u8 (224 + u / 4096), .int .u8 (128 + u / 64 % 64), .int .u8 (128 + u % 64)] rfl rfl ?c1 ?c2 ?c3 ?c4 ?c5 ?_)
          case c1 => exact fun j v hj => new_cells wr [.int .u8 (224 + u / 4096), .int .u8 (128 + u / 64 % 64), .int .u8 (128 + u % 64)] 5 j v hj
          case c2 => intro x hx; simp only [List.mem_cons, List.mem_nil_iff, or_false] at hx; rcases hx with rfl | rfl | rfl <;> rfl
          case c3 => unfold maxLen; omega
          case c4 => omega
          case c5 => simp; omega
          intro v' w1 ho hg _
          have HF := HG.out [224 + u / 4096, 128 + u / 64 % 64, 128 + u % 64] _ v' w1 HE1.out ho hg
          clear hown ho hg HG HE1
          go_wp2_with fail
          go_round
          case rel => exact ⟨k + 1, by omega, by go_num, HF⟩
          case measure => simp [RowKit.intOf]; omega
    · obtain rfl : k = zs.length := by omega
      have HR := Lib.hid hrel
      clear hrel
      go_wp2_with fail
      go_ret
      exact ⟨_, rfl, HR.out⟩

theorem conv_row (W : World) (b off n cap : Nat) (xs : List Int) (hlen : xs.length = n) (hcell : ∀ i, i < n → W.cell? ⟨b, off + i, none⟩ = some (.int .u8 (xs.getD i 0))) :
    (convert 27 9 (.slice (some ⟨b, off, none⟩) n cap)).run Tryd.prog W = .ok (.string (strOfNums xs)) W :=
  run_convert_bytes_arg (P := Tryd.prog) W 27 5 Tryd.underlying27 Tryd.underlying5 b off n cap xs hlen hcell 9 Tryd.underlying9

theorem conv_own (W : World) (B : Nat) (v : Value) (n : Nat) (xs : List Int) (h : W.ownsRow B 5 1 v n (xs.map (Value.int .u8))) :
    (convert 27 9 v).run Tryd.prog W = .ok (.string (strOfNums xs)) W := by
  have hn : n = xs.length := by have := h.1; simp at this; omega
  rcases h.2 with ⟨rfl, h0⟩ | ⟨g, cap, cur, rfl, _, hg, _, _, _, _⟩
  · have : xs = [] := by cases xs with
      | nil => rfl
      | cons x r => simp at hn; omega
    subst this
    exact run_convert_bytes_nil (P := Tryd.prog) W 27 5 Tryd.underlying27 Tryd.underlying5 _ _ 9 Tryd.underlying9
  · refine conv_row W g 0 n cap xs hn.symm (fun i hi => ?_)
    have := h.cells (g := g) rfl i (.int .u8 (xs.getD i 0)) (by
      rw [List.getElem?_map, List.getElem?_eq_getElem (by omega)]
      simp [List.getD, List.getElem?_eq_getElem (show i < xs.length by omega)])
    have e : (⟨g, 0, none⟩ : Addr).add i = ⟨g, i, none⟩ := by unfold Addr.add; split <;> simp_all
    rw [e] at this
    rw [Nat.zero_add]; exact this

theorem strOfNums_inj {a b : List Int} (ha : ∀ x ∈ a, 0 ≤ x ∧ x < 256) (hb : ∀ x ∈ b, 0 ≤ x ∧ x < 256) (h : strOfNums a = strOfNums b) : a = b := by
  have e : a.map (fun n => UInt8.ofNat n.toNat) = b.map (fun n => UInt8.ofNat n.toNat) := by
    rw [← strOfNums_data, ← strOfNums_data, h]
  clear h
  induction a generalizing b with
  | nil =>
    cases b with
    | nil => rfl
    | cons y s => simp at e
  | cons x r ih =>
    cases b with
    | nil => simp at e
    | cons y s =>
      simp only [List.map_cons, List.cons.injEq] at e
      have h1 := ha x (by simp)
      have h2 := hb y (by simp)
      have h3 := congrArg UInt8.toNat e.1
      simp only [UInt8.toNat_ofNat'] at h3
      rw [ih (fun z hz => ha z (by simp [hz])) (fun z hz => hb z (by simp [hz])) e.2]
      congr 1
      omega

/-- what unit gives -/
def UnitRes (bs : List Int) (e : Ending) : Prop :=
  ∃ u n : Int, e = .returned (.tuple #[.int .u16 u, .int .i64 n]) ∧ (n = 0 ∨ (1 ≤ n ∧ n ≤ 3 ∧ n ≤ bs.length ∧ 0 ≤ u ∧ u < 65536 ∧ enc1 u = bs.take n.toNat))

theorem bits_u16 (op : BinOp) (x y : Int) : 0 ≤ bits op .u16 x y ∧ bits op .u16 x y ≤ 65535 := by
  have h := wf_bits op .u16 x y
  simpa [Lit.wf, IntKind.min, IntKind.max, IntKind.signed, IntKind.bits] using h

theorem getD_take (bs : List Int) (n i : Nat) (h : i < n) : (bs.take n).getD i 0 = bs.getD i 0 := by
  simp [List.getD, List.getElem?_take, h]

/-- the two texts that unit compares -/
theorem cmp_any (u : Int) (bs : List Int) (n : Nat) (hb : ∀ x ∈ bs, 0 ≤ x ∧ x < 256) (h0 : 0 ≤ u) (h1 : u < 65536) :
    (((strOfNums (enc [u])).toList == (strOfNums (bs.take n)).toList) = true ∧ enc1 u = bs.take n) ∨ ((strOfNums (enc [u])).toList == (strOfNums (bs.take n)).toList) = false := by
  have e : enc [u] = enc1 u := by simp [enc]
  rw [e]
  by_cases h : enc1 u = bs.take n
  · left
    exact ⟨(bytes_beq_iff _ _).2 (by rw [h]), h⟩
  · right
    rw [bytes_beq_false_iff]
    intro h2
    exact h (strOfNums_inj (enc1_byte u h0 h1) (fun x hx => hb x (List.mem_of_mem_take hx)) h2)

/-- what Encode of one unit leaves -/
def OneRel (u : Int) (w : World) (v : Value) (w1 : World) : Prop :=
  Below w.heap.size w w1 ∧ (convert 27 9 v).run Tryd.prog w1 = .ok (.string (strOfNums (enc [u]))) w1

theorem encode_one (u : Int) (w : World) (h0 : 0 ≤ u) (h1 : u < 65536) :
    Calls Tryd.prog 16 #[.slice (some ⟨w.heap.size, 0, none⟩) 1 1] (w.alloc (.cells #[.int .u16 u] 34)).drew fun e w' => ∃ v, e = .returned v ∧ OneRel u w v w' := by
  refine (encode_calls [u] w.heap.size 0 1 (w.alloc (.cells #[.int .u16 u] 34)).drew (by simp) (by simp) (fun i hi => ?_) (fun i hi => ?_)).mono ?_
  · obtain rfl : i = 0 := by simp at hi; omega
    exact ⟨h0, h1⟩
  · obtain rfl : i = 0 := by simp at hi; omega
    rw [World.cell?_drew]
    exact World.cell?_alloc_new _ _ _ _
  · rintro e w' ⟨v, rfl, hr, hb⟩
    refine ⟨v, rfl, bl_trans (bl_alloc (Below.refl _ _) _).drew hb, conv_own w' _ v _ _ hr⟩

theorem slot_u16 (op : BinOp) (x y : Int) : ∃ u : Int, 0 ≤ u ∧ u < 65536 ∧ Value.int .u16 (bits op .u16 x y) = .int .u16 u :=
  ⟨_, (bits_u16 op x y).1, by have := (bits_u16 op x y).2; omega, rfl⟩

set_option maxRecDepth 100000 in
set_option maxHeartbeats 4000000 in
theorem unit_one (bs : List Int) (b off cap : Nat) (w : World) (b0 : Int) (hb0 : bs.getD 0 0 = b0) (h0 : 0 ≤ b0) (h1 : b0 < 192 ∨ 240 ≤ b0) (h2 : b0 < 256) (hl : 1 ≤ bs.length) (hm : bs.length ≤ 1152921504606846976) (hby : ∀ x ∈ bs, 0 ≤ x ∧ x < 256) (hcap : bs.length ≤ cap) (hlt : b < w.heap.size)
    (hc : ∀ i, i < bs.length → w.cell? ⟨b, off + i, none⟩ = some (.int .u8 (bs.getD i 0))) :
    Calls Tryd.prog 37 #[.slice (some ⟨b, off, none⟩) bs.length cap] w fun e w' => UnitRes bs e ∧ Below w.heap.size w w' := by
  have hc0 := hc 0 (by omega)
  rw [hb0, Nat.add_zero] at hc0
  have d1 : ((b0 / 32) == 6) = false := by rw [beq_eq_false_iff_ne]; omega
  have d2 : ((b0 / 16) == 14) = false := by rw [beq_eq_false_iff_ne]; omega
  clear h1
  have HC := Lib.hid hc
  have HB := Lib.hid hby
  have H0 := Lib.hid hb0
  clear hc hby hb0
  go_enter Tryd.func37, Tryd.ntmps37
  go_wp2_with fail
  all_goals
    refine wp_loop_rounds 1 ?_
    rw [rounds_succ]
    go_wp2_with fail
  all_goals
    have hv0 : ∀ (W : World), Below w.heap.size w W → ∀ c, (convert 27 9 (.slice (some ⟨b, off, none⟩) 1 c)).run Tryd.prog W = .ok (.string (strOfNums (bs.take 1))) W := by
      intro W hW c
      refine conv_row W b off 1 c (bs.take 1) (by simp; omega) (fun i hi => ?_)
      rw [hW.cell (p := ⟨b, off + i, none⟩) hlt, getD_take _ _ _ hi]
      exact HC.out i (by omega)
    have hq1 := hv0 w.drew (Below.refl _ _).drew
    have hq2 := hv0 (w.alloc (.cells #[.int .u16 b0] 34)).drew ((Below.refl _ _).alloc (Nat.le_refl _) _).drew
    have HV := Lib.hid hv0
    clear hv0
    have hcmp := cmp_any b0 bs 1 HB.out h0 (by omega)
    have hen := encode_one b0 w h0 (by omega)
    have HEN := Lib.hid hen
    clear hen
    rcases hcmp with ⟨hq, he⟩ | hq
    · have HE := Lib.hid he
      clear he
      go_region_with (go_at_call 16; refine HEN.out.mono ?_; rintro e w1 ⟨v, rfl, hrel⟩; have hq3 := HV.out w1 hrel.1; have hq4 := hrel.2; have HRL := Lib.hid hrel.1; clear hrel)
      all_goals
        go_wp2_with fail
        go_ret2
        exact ⟨⟨_, _, rfl, Or.inr ⟨by omega, by omega, by omega, by omega, by omega, HE.out⟩⟩, HRL.out⟩
    · go_region_with (go_at_call 16; refine HEN.out.mono ?_; rintro e w1 ⟨v, rfl, hrel⟩; have hq3 := HV.out w1 hrel.1; have hq4 := hrel.2; have HRL := Lib.hid hrel.1; clear hrel)
      all_goals
        go_wp2_with fail
        go_ret2
        exact ⟨⟨_, _, rfl, Or.inl rfl⟩, HRL.out⟩
end Go.Proofs.YtnamnihdbemkhaaDoor
