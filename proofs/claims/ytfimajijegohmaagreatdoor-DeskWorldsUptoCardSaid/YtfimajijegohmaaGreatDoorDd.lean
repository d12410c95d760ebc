/-
  Desk: a line with a command; the commands' answers.
  Desk: Run, at commands.
-/
import Derived.Test.YtfimajijegohmaaGreatDoorDc
import Derived.Test.YtfimajijegohmaaGreatDoorCode
namespace Go.Proofs.YtfimajijegohmaaGreatDoor
set_option linter.unusedVariables false
set_option linter.unusedSimpArgs false
open Go.RowKit Go.Shelf Go.Lib

/-- a command of two words -/
inductive Cmd
  | cls (x y : Nm)
  | is (x y : Nm)
  | join (x y : Nm)
namespace Cmd
def a1 : Cmd → Nm
  | .cls x _ | .is x _ | .join x _ => x
def a2 : Cmd → Nm
  | .cls _ y | .is _ y | .join _ y => y
def head : Cmd → Nm
  | .cls _ _ => [99, 108, 97, 115, 115]
  | .is _ _ => [105, 115]
  | .join _ _ => [106, 111, 105, 110]
def text (c : Cmd) : Nm := c.head ++ 32 :: (c.a1 ++ 32 :: c.a2)
noncomputable def ans (l : List ClassR) : Cmd → Nm
  | .cls x y => if readErr (l ++ [cl2 x y]) = 0 then [111, 107] else errT (readErr (l ++ [cl2 x y]))
  | .is x y => if isErr2 l x y = 0 then yesNo ((every (wl l) x).contains y) else errT (isErr2 l x y)
  | .join x y => if read2Err l x y = 0 then joinR l x y else errT (read2Err l x y)
noncomputable def next (l : List ClassR) : Cmd → List ClassR
  | .cls x y => if readErr (l ++ [cl2 x y]) = 0 then l ++ [cl2 x y] else l
  | .is _ _ | .join _ _ => l
def Fit (c : Cmd) : Prop := (∀ b ∈ c.a1, b ≠ 32) ∧ (∀ b ∈ c.a2, b ≠ 32) ∧ c.a1.length ≤ 1048576 ∧ c.a2.length ≤ 1048576
end Cmd

theorem head_ok (c : Cmd) : (∀ b ∈ c.head, b ≠ 32) ∧ (∀ b ∈ c.head, b ≠ 10) ∧ c.head.length ≤ 5 := by cases c <;> simp [Cmd.head]
theorem lit_gb {w w' : World} {D : Nat} (hb : Below w.heap.size w w') : w.grownBy w' (some D) := gb_below (gb_refl w D) hb
set_option maxRecDepth 100000 in
set_option maxHeartbeats 4000000 in
theorem line_cmd (l : List ClassR) (ps : List CAddr) (D : Nat) (c : Cmd) (w : World) (hD : DeskIs w D l ps) (hF : FormsAt w) (hM : MaxAt w) (hB : ClsOk l) (hc : c.Fit) (hll : l.length ≤ 1000) :
    Calls Tryz.prog 62 #[.pointer (some ⟨D, 0, none⟩), .string ⟨⟨c.text⟩⟩] w fun e w' => e = .returned (.string ⟨⟨c.ans l⟩⟩) ∧ w.grownBy w' (some D) ∧ ∃ ps', DeskIs w' D (c.next l) ps' := by
  have hDl : D < w.heap.size := hD.2.choose_spec.choose_spec.1.lt
  obtain ⟨hx, hy, hxl, hyl⟩ := hc
  have hS : ∀ (l' : List ClassR) (W : World) (r : Nat) (v u : Value), Blk W r 9 #[v] → (∃ ps', DeskIs W D l' ps') → ∃ ps', DeskIs (W.setCell ⟨r, 0, none⟩ u) D l' ps' := fun l' W r v u hr ⟨ps', h⟩ => ⟨ps', h.set hr (by decide) (by decide) u⟩
  have hS0 : ∀ (l' : List ClassR) (W W' : World), Below W.heap.size W W' → (∃ ps', DeskIs W D l' ps') → ∃ ps', DeskIs W' D l' ps' := fun l' W W' hb ⟨ps', h⟩ => ⟨ps', h.below hb⟩
  cases c with
  | cls x y =>
    by_cases hz : readErr (l ++ [cl2 x y]) = 0
    · have h1 : (Cmd.cls x y).ans l = [111, 107] := if_pos hz
      have h2 : (Cmd.cls x y).next l = l ++ [cl2 x y] := if_pos hz
      rw [h1, h2]
      refine line_ok _ x y [111, 107] 200 D w (fun W => ∃ ps', DeskIs W D (l ++ [cl2 x y]) ps') forms_class (head_ok (.cls x y)).1 hx hy (head_ok (.cls x y)).2.2 hxl hyl hM hDl (fun _ _ => by kernel_rfl) (hS _) (fun g W hb hG => ?_)
      refine (lit_class l ps D g x y W (hD.below hb) hG (hF.below hb) hB hxl hyl hll).mono ?_
      rintro e w' ⟨hg, ⟨_, rfl, h⟩ | ⟨hne, _⟩⟩
      · exact ⟨rfl, hg, _, h⟩
      · exact absurd hz hne
    · have h1 : (Cmd.cls x y).ans l = errT (readErr (l ++ [cl2 x y])) := if_neg hz
      have h2 : (Cmd.cls x y).next l = l := if_neg hz
      rw [h1, h2]
      refine line_err _ x y _ 200 D w (fun W => ∃ ps', DeskIs W D l ps') forms_class (head_ok (.cls x y)).1 hx hy (head_ok (.cls x y)).2.2 hxl hyl hM hDl (fun _ _ => by kernel_rfl) (hS0 _) (hS _) (fun g W hb hG => ?_)
      refine (lit_class l ps D g x y W (hD.below hb) hG (hF.below hb) hB hxl hyl hll).mono ?_
      rintro e w' ⟨hg, ⟨h0, _⟩ | ⟨_, rfl, h⟩⟩
      · exact absurd h0 hz
      · exact ⟨rfl, hg, _, h⟩
  | is x y =>
    by_cases hz : isErr2 l x y = 0
    · have h1 : (Cmd.is x y).ans l = yesNo ((every (wl l) x).contains y) := if_pos hz
      rw [h1]
      refine line_ok _ x y _ 201 D w (fun W => ∃ ps', DeskIs W D l ps') forms_is (head_ok (.is x y)).1 hx hy (head_ok (.is x y)).2.2 hxl hyl hM hDl (fun _ _ => by kernel_rfl) (hS _) (fun g W hb hG => ?_)
      refine (lit_is l ps D g x y W (hD.below hb).at hG (hF.below hb) hB hxl hyl).mono ?_
      rintro e w' ⟨⟨_, rfl⟩ | ⟨hne, _⟩, hb'⟩
      · exact ⟨rfl, lit_gb hb', _, (hD.below hb).below hb'⟩
      · exact absurd hz hne
    · have h1 : (Cmd.is x y).ans l = errT (isErr2 l x y) := if_neg hz
      rw [h1]
      refine line_err _ x y _ 201 D w (fun W => ∃ ps', DeskIs W D l ps') forms_is (head_ok (.is x y)).1 hx hy (head_ok (.is x y)).2.2 hxl hyl hM hDl (fun _ _ => by kernel_rfl) (hS0 _) (hS _) (fun g W hb hG => ?_)
      refine (lit_is l ps D g x y W (hD.below hb).at hG (hF.below hb) hB hxl hyl).mono ?_
      rintro e w' ⟨⟨h0, _⟩ | ⟨_, rfl⟩, hb'⟩
      · exact absurd h0 hz
      · exact ⟨rfl, lit_gb hb', _, (hD.below hb).below hb'⟩
  | join x y =>
    by_cases hz : read2Err l x y = 0
    · have h1 : (Cmd.join x y).ans l = joinR l x y := if_pos hz
      rw [h1]
      refine line_ok _ x y _ 203 D w (fun W => ∃ ps', DeskIs W D l ps') forms_join (head_ok (.join x y)).1 hx hy (head_ok (.join x y)).2.2 hxl hyl hM hDl (fun _ _ => by kernel_rfl) (hS _) (fun g W hb hG => ?_)
      refine (lit_join l ps D g x y W (hD.below hb).at hG (hF.below hb) hB (Nat.le_trans hxl (by decide)) (Nat.le_trans hyl (by decide))).mono ?_
      rintro e w' ⟨⟨_, rfl⟩ | ⟨hne, _⟩, hb'⟩
      · exact ⟨rfl, lit_gb hb', _, (hD.below hb).below hb'⟩
      · exact absurd hz hne
    · have h1 : (Cmd.join x y).ans l = errT (read2Err l x y) := if_neg hz
      rw [h1]
      refine line_err _ x y _ 203 D w (fun W => ∃ ps', DeskIs W D l ps') forms_join (head_ok (.join x y)).1 hx hy (head_ok (.join x y)).2.2 hxl hyl hM hDl (fun _ _ => by kernel_rfl) (hS0 _) (hS _) (fun g W hb hG => ?_)
      refine (lit_join l ps D g x y W (hD.below hb).at hG (hF.below hb) hB (Nat.le_trans hxl (by decide)) (Nat.le_trans hyl (by decide))).mono ?_
      rintro e w' ⟨⟨h0, _⟩ | ⟨_, rfl⟩, hb'⟩
      · exact absurd h0 hz
      · exact ⟨rfl, lit_gb hb', _, (hD.below hb).below hb'⟩
end Go.Proofs.YtfimajijegohmaaGreatDoor
namespace Go.Proofs.YtfimajijegohmaaGreatDoor
set_option linter.unusedVariables false
set_option linter.unusedSimpArgs false
open Go.RowKit Go.Shelf Go.Lib

/-- the answers to commands -/
noncomputable def outs : List ClassR → List Cmd → List Nm
  | _, [] => []
  | l, c :: cs => c.ans l :: outs (c.next l) cs
theorem next_len (l : List ClassR) (c : Cmd) : (c.next l).length ≤ l.length + 1 := by
  cases c with
  | cls x y =>
    show (if readErr (l ++ [cl2 x y]) = 0 then l ++ [cl2 x y] else l).length ≤ l.length + 1
    split <;> simp
  | is x y => exact Nat.le_succ _
  | join x y => exact Nat.le_succ _
theorem next_ok {l : List ClassR} (hB : ClsOk l) {c : Cmd} (hc : c.Fit) : ClsOk (c.next l) := by
  cases c with
  | cls x y =>
    show ClsOk (if readErr (l ++ [cl2 x y]) = 0 then l ++ [cl2 x y] else l)
    split
    · exact cl2_ok hB hc.2.2.1 hc.2.2.2
    · exact hB
  | is x y => exact hB
  | join x y => exact hB
theorem DeskIs.grown {W W' : World} {D B n : Nat} {l : List ClassR} {ps : List CAddr} {v : Value} {xs : List Value} (h : DeskIs W D l ps) (ho : W.ownsRow B 9 1 v n xs) (hg : W.grownBy W' v.ownBlock) : DeskIs W' D l ps := by
  obtain ⟨hP, a, cap, h1, h2⟩ := h
  refine ⟨hP, a, cap, blk_grown h1 hg (own_nb ho h1 (by decide)), ?_⟩
  rcases h2.2 with ⟨h3, h4⟩ | ⟨g, cap', cur, hv, _, hgk, _⟩
  · exact h2.kept hg (Or.inl (by rw [h3]; rfl))
  · refine h2.kept hg (Or.inr ?_)
    rw [hv]
    intro e
    exact own_nb ho (show Blk W g 31 cur from hgk) (by decide) e.symm
theorem text_len {c : Cmd} (h : c.Fit) : c.text.length ≤ 2999999 := by
  have h1 := h.2.2.1
  have h2 := h.2.2.2
  have h3 := (head_ok c).2.2
  unfold Cmd.text
  simp only [List.length_append, List.length_cons]
  omega
theorem cmd_one (t : Nm) : ∀ u ∈ [strV t], u.oneCell' = true := by simp [Value.oneCell']

set_option maxRecDepth 100000 in
set_option maxHeartbeats 8000000 in
theorem drun_calls (A : List Cmd) (z : Cmd) (w : World) (hF : FormsAt w) (hM : MaxAt w) (hA : ∀ c ∈ A ++ [z], c.Fit ∧ ∀ b ∈ c.text, b ≠ 10) (hn : A.length ≤ 50) :
    Calls Tryz.prog 26 #[.string ⟨⟨ends 10 (A.map Cmd.text) ++ z.text⟩⟩] w fun e w' => ∃ v, e = .returned v ∧ w'.ownsRow w.heap.size 9 1 v (A.length + 1) ((outs [] (A ++ [z])).map strV) ∧ Below w.heap.size w w' := by
  have hlen : (ends 10 (A.map Cmd.text) ++ z.text).length < 4294967281 := by
    have h1 : ∀ A : List Cmd, (∀ c ∈ A, c.Fit ∧ ∀ b ∈ c.text, b ≠ 10) → (ends 10 (A.map Cmd.text)).length ≤ A.length * 3000000 := by
      intro A
      induction A with
      | nil => intro _; simp [ends]
      | cons c A ih =>
        intro h
        have h2 := ih (fun d hd => h d (by simp [hd]))
        have h3 := text_len (h c (by simp)).1
        have h4 := ends_cons 10 c.text (A.map Cmd.text) []
        simp only [List.append_nil] at h4
        rw [List.map_cons, h4]
        simp only [List.length_append, List.length_cons]
        omega
    have h2 := h1 A (fun c hc => hA c (List.mem_append.2 (Or.inl hc)))
    have h3 := text_len (hA z (by simp)).1
    rw [List.length_append]
    omega
  have HSP := Lib.hid (split_text (A.map Cmd.text) z.text w (fun x hx b hb => by
    obtain ⟨c, hc, rfl⟩ := List.mem_map.1 hx
    exact (hA c (List.mem_append.2 (Or.inl hc))).2 b hb) (hA z (by simp)).2 hM hlen)
  obtain ⟨C, hC⟩ : ∃ C, C = A ++ [z] := ⟨_, rfl⟩
  have hCl : C.length = A.length + 1 := by rw [hC]; simp
  have HCA := Lib.hid hC
  have HA := Lib.hid (show ∀ c ∈ C, c.Fit ∧ ∀ b ∈ c.text, b ≠ 10 by rw [hC]; exact hA)
  have HFM := Lib.hid (And.intro hF hM)
  have hz : (z.text == ([] : Nm)) = false := by cases z <;> rfl
  have hls : (A.map Cmd.text ++ [z.text]) = C.map Cmd.text := by rw [hC]; simp
  rw [hls, List.length_map, ← hCl] at HSP
  clear hF hM hA hlen hls
  rw [← hC, ← hCl]
  obtain ⟨m, hm⟩ : ∃ m, m = A.length := ⟨_, rfl⟩
  have hz0 : (({ data := { toList := z.text } } : ByteArray) == { data := #[] }) = false := by cases z <;> rfl
  have hlast : (C.map Cmd.text)[m]? = some z.text := by rw [hC, hm]; simp
  clear hC
  rw [← hm] at hCl hn
  rw [hCl] at HSP ⊢
  obtain ⟨s, hs⟩ : ∃ s, s = ends 10 (A.map Cmd.text) ++ z.text := ⟨_, rfl⟩
  rw [← hs] at HSP ⊢
  have HCL := Lib.hid hCl
  clear hs hCl hm
  go_enter Tryz.func26, Tryz.ntmps26
  go_upto_region 2 with ((first
    | (go_at_call 60
       refine HSP.out.mono ?_
       rintro e w1 ⟨rfl, hw1⟩
       have HB1 := Lib.hid (show Below w.heap.size w w1 by rw [hw1]; exact bl_alloc (Below.refl _ _) _)
       have HL1 := Lib.hid (show Blk w1 w.heap.size 9 ((C.map Cmd.text).map strV).toArray by rw [hw1]; exact blk_new _ _ _ _ rfl)
       clear hw1)))
  have l0 : w1.cell? ⟨w.heap.size, m, none⟩ = some (strV z.text) := by
    rw [HL1.out.cell m, List.getElem?_toArray, List.getElem?_map, hlast]
    rfl
  have l1 := HL1.out.lt
  clear HSP
  go_upto_region 6 with fail
  obtain ⟨w2, hw2⟩ : ∃ w2, w2 = w1.alloc (.cells #[.slice none 0 0, .slice none 0 0] 135) := ⟨_, rfl⟩
  have hb2 : Below w1.heap.size w1 w2 := by rw [hw2]; exact bl_alloc (Below.refl _ _) _
  have HB2 := Lib.hid (bl_trans HB1.out hb2)
  have HL2 := Lib.hid (HL1.out.below hb2)
  obtain ⟨D, hD⟩ : ∃ D, D = w1.heap.size := ⟨_, rfl⟩
  have HDL := Lib.hid (show w.heap.size < D by rw [hD]; exact HL1.out.lt)
  have HD2 := Lib.hid (show DeskIs w2 D [] [] from ⟨⟨rfl, fun c hc => by cases hc⟩, none, 0, by rw [hw2]; exact blk_new _ _ _ _ hD, ⟨rfl, Or.inl ⟨rfl, rfl⟩⟩⟩)
  have hD2 : D < w2.heap.size := by rw [hw2, hD]; simp
  go_upto_region 7 with fail
  rw [← hw2, ← hD]
  clear hw2 hb2 hD l0 l1 hlast hz0 hz
  go_wp2_with fail
  have hs2 : w.heap.size < w2.heap.size := Nat.lt_trans HDL.out hD2
  go_loopw [5, 31] (fun v i wr => ∃ (k : Nat) (l : List ClassR) (ps : List CAddr) (o : List Nm), k ≤ m + 1 ∧ i = .int .i64 k ∧ Below w.heap.size w wr ∧ Blk wr w.heap.size 9 ((C.map Cmd.text).map strV).toArray ∧ DeskIs wr D l ps ∧ ClsOk l ∧ l.length ≤ k ∧ wr.ownsRow w2.heap.size 9 1 v k (o.map strV) ∧ w2.heap.size ≤ wr.heap.size ∧ Hid (outs [] C = o ++ outs l (C.drop k))) (fun _ i _ => m + 1 - (RowKit.intOf i).toNat)
  case atStart => exact ⟨0, [], [], [], by omega, rfl, HB2.out, HL2.out, HD2.out, (by intro c hc; cases hc), by simp, ⟨rfl, Or.inl ⟨rfl, rfl⟩⟩, Nat.le_refl _, Lib.hid rfl⟩
  case round =>
    obtain ⟨k, l, ps, o, hk, rfl, hb, hL, hD, hB, hll, ho, hsz, hsd⟩ := hrel
    have HBr := Lib.hid hb
    have HLr := Lib.hid hL
    have HDr := Lib.hid hD
    have HCl := Lib.hid hB
    have HO := Lib.hid ho
    have HSD := Lib.hid hsd
    clear hsd hB
    by_cases hlk : k < m + 1
    · have hkC : k < C.length := by rw [HCL.out]; exact hlk
      obtain ⟨c, hc⟩ : ∃ c, C[k]? = some c := ⟨_, List.getElem?_eq_getElem hkC⟩
      have l0 : wr.cell? ⟨w.heap.size, k, none⟩ = some (strV c.text) := by
        rw [hL.cell k, List.getElem?_toArray, List.getElem?_map, List.getElem?_map, hc]
        rfl
      have l1 := hL.lt
      have hcf := (HA.out c (List.mem_iff_getElem?.2 ⟨k, hc⟩)).1
      have HLC := Lib.hid (line_cmd l ps D c wr hD (HFM.out.1.below hb) (HFM.out.2.below hb) HCl.out hcf (by omega))
      have HNL := Lib.hid (next_len l c)
      have HNO := Lib.hid (next_ok HCl.out hcf)
      have HDR := Lib.hid (show C.drop k = c :: C.drop (k + 1) by
        rw [List.drop_eq_getElem_cons hkC]
        congr 1
        rw [List.getElem?_eq_getElem hkC] at hc
        exact Option.some.inj hc)
      clear hb hL hD ho hc hkC hcf
      go_upto_region 11 with fail
      go_wp2_with ((first
        | (go_at_call 62
           refine HLC.out.mono ?_
           rintro e w3 ⟨rfl, hg3, ps3, hd3⟩
           have hb3 := gb_to_below HBr.out hg3 (Nat.le_of_lt HDL.out)
           have HB3 := Lib.hid hb3
           have hs3 := hg3.size
           have HL3 := Lib.hid (gb_blk hg3 HLr.out (Nat.ne_of_lt HDL.out))
           have HO3 := Lib.hid (HO.out.kept hg3 (Or.inr (own_nb HO.out HDr.out.2.choose_spec.choose_spec.1 (by decide))))
           have HD3 := Lib.hid hd3
           clear hg3 hd3 hb3)
        | (at_builtin; refine wpList_append_one rowStr rfl _ _ rfl w2.heap.size _ k (o.map strV) rfl HO3.out [strV (c.ans l)] rfl (cmd_one _) _ rfl (by simp) (by omega) (by omega) (Nat.le_trans hsz hs3) ?_
           intro v4 w4 ho4 hg4)))
      have HB4 := Lib.hid (show Below w.heap.size w w4 from (bl_alloc HB3.out _).grown hg4 (Nat.le_trans HB3.out.size (by simp)) (fun q hq => Nat.le_trans (Nat.le_of_lt hs2) (HO3.out.lt q hq).1))
      have HL4 := Lib.hid (blk_grown (HL3.out.alloc _) hg4 (fun e => by have := (HO3.out.lt _ e).1; omega))
      have HD4 := Lib.hid (DeskIs.grown (HD3.out.below (bl_alloc (Below.refl _ _) _)) (own_below HO3.out (bl_alloc (Below.refl _ _) _)) hg4)
      have HO4 := Lib.hid (show w4.ownsRow w2.heap.size 9 1 v4 (k + 1) ((o ++ [c.ans l]).map strV) by rw [List.map_append]; exact ho4)
      have hs4 : w2.heap.size ≤ w4.heap.size := by have h := hg4.size; have := hsz; simp at h; omega
      have HS4 := Lib.hid (show outs [] C = (o ++ [c.ans l]) ++ outs (c.next l) (C.drop (k + 1)) by
        rw [HSD.out, HDR.out]
        simp [outs])
      clear ho4 hg4
      go_roundw
      case rel => exact ⟨k + 1, c.next l, ps3, o ++ [c.ans l], by omega, by go_num, HB4.out, HL4.out, HD4.out, HNO.out, Nat.le_trans HNL.out (by omega), HO4.out, hs4, HS4⟩
      case measure => simp [RowKit.intOf]; omega
    · obtain rfl : k = m + 1 := by omega
      have HE := Lib.hid (show outs [] C = o by rw [HSD.out, List.drop_of_length_le (Nat.le_of_eq HCL.out)]; simp [outs])
      clear hb hL hD ho
      go_wp2_with fail
      go_ret
      exact ⟨_, rfl, by rw [HE.out]; exact own_down HO.out (Nat.le_of_lt hs2), HBr.out⟩
end Go.Proofs.YtfimajijegohmaaGreatDoor
