/-
  InsApart: the walk of the law.
-/
import Derived.Test.YtpdbhfacglojjaaDoorText
import Derived.Test.YtpdbhfacglojjaaDoorOpenCode
import Derived.Laws.StructEq
namespace Go.Proofs.YtpdbhfacglojjaaDoor
set_option linter.unusedVariables false
set_option linter.unusedSimpArgs false
open Go.RowKit Go.Shelf Go.Lib

theorem pow_of_laid {laid : List (String × DataW Unit)} {W : World} (h : laidMetH Tryd.prog laid W) (hf : laid.filter (fun x => x.1 == "internal/strconv.uint64pow10") = [("internal/strconv.uint64pow10", Lib.tabData .u64 Lib.pow10Tab)]) : PowAt W := by
  have h1 := h.filter (fun x => x.1 == "internal/strconv.uint64pow10")
  rw [hf] at h1
  have h2 : laidMet Tryd.prog [("internal/strconv.uint64pow10", Lib.tabData .u64 Lib.pow10Tab)] W := (laidMetH_iff.1 h1).1
  have hg : Tryd.prog.globalNamed "internal/strconv.uint64pow10" = some 4 := by kernel_rfl
  have hT := Lib.tabIs_of_head hg (t := 225) (e := 176) (n := 20) (by kernel_rfl) Tryd.underlying225 Tryd.underlying176 (by kernel_rfl) (by kernel_rfl) h2
  refine ⟨hT, ?_⟩
  have hc := hT.cell hg 0 (by decide)
  exact World.block_lt_of_cell? W _ hc

/-- the two boxes, and the tables -/
def TwoAt (w W : World) (x y : InsR) : Prop := RowKit.Below w.heap.size w W ∧ BoxAt W w.heap.size x ∧ BoxAt W (w.heap.size + 1) y ∧ FormsAt W ∧ PowAt W
theorem TwoAt.below {w W W' : World} {x y : InsR} (h : TwoAt w W x y) (hb : RowKit.Below W.heap.size W W') : TwoAt w W' x y :=
  ⟨bl_trans h.1 hb, h.2.1.below hb, h.2.2.1.below hb, h.2.2.2.1.below hb, h.2.2.2.2.below hb⟩
theorem TwoAt.start {w : World} {x y : InsR} (hF : FormsAt w) (hp : PowAt w) : TwoAt w ((w.alloc (.cells #[.int .i64 x.op, .int .i64 x.a, .int .i64 x.b, .string ⟨⟨x.ty⟩⟩, .string ⟨⟨x.cl⟩⟩, .string ⟨⟨x.nm⟩⟩] 30)).alloc (.cells #[.int .i64 y.op, .int .i64 y.a, .int .i64 y.b, .string ⟨⟨y.ty⟩⟩, .string ⟨⟨y.cl⟩⟩, .string ⟨⟨y.nm⟩⟩] 30)) x y := by
  have hb1 : RowKit.Below w.heap.size w (w.alloc (.cells #[.int .i64 x.op, .int .i64 x.a, .int .i64 x.b, .string ⟨⟨x.ty⟩⟩, .string ⟨⟨x.cl⟩⟩, .string ⟨⟨x.nm⟩⟩] 30)) := (RowKit.Below.refl _ _).alloc (Nat.le_refl _) _
  have hbx : BoxAt (w.alloc (.cells #[.int .i64 x.op, .int .i64 x.a, .int .i64 x.b, .string ⟨⟨x.ty⟩⟩, .string ⟨⟨x.cl⟩⟩, .string ⟨⟨x.nm⟩⟩] 30)) w.heap.size x := by
    refine ⟨by simp, ?_, ?_, ?_, ?_, ?_, ?_⟩ <;> rw [World.cell?_alloc_new] <;> rfl
  generalize hw1 : w.alloc (.cells #[.int .i64 x.op, .int .i64 x.a, .int .i64 x.b, .string ⟨⟨x.ty⟩⟩, .string ⟨⟨x.cl⟩⟩, .string ⟨⟨x.nm⟩⟩] 30) = w1 at hb1 hbx ⊢
  have hs : w1.heap.size = w.heap.size + 1 := by rw [← hw1]; simp
  have hb2 : RowKit.Below w1.heap.size w1 (w1.alloc (.cells #[.int .i64 y.op, .int .i64 y.a, .int .i64 y.b, .string ⟨⟨y.ty⟩⟩, .string ⟨⟨y.cl⟩⟩, .string ⟨⟨y.nm⟩⟩] 30)) := (RowKit.Below.refl _ _).alloc (Nat.le_refl _) _
  have hby : BoxAt (w1.alloc (.cells #[.int .i64 y.op, .int .i64 y.a, .int .i64 y.b, .string ⟨⟨y.ty⟩⟩, .string ⟨⟨y.cl⟩⟩, .string ⟨⟨y.nm⟩⟩] 30)) w1.heap.size y := by
    refine ⟨by simp, ?_, ?_, ?_, ?_, ?_, ?_⟩ <;> rw [World.cell?_alloc_new] <;> rfl
  rw [hs] at hby
  exact ⟨bl_trans hb1 hb2, hbx.below hb2, hby, (hF.below hb1).below hb2, (hp.below hb1).below hb2⟩

theorem ins_ext {x y : InsR} (h1 : x.op = y.op) (h2 : x.a = y.a) (h3 : x.b = y.b) (h4 : x.ty = y.ty) (h5 : x.cl = y.cl) (h6 : x.nm = y.nm) : x = y := by
  obtain ⟨o, a, b, ty, cl, nm⟩ := x
  obtain ⟨o', a', b', ty', cl', nm'⟩ := y
  simp only at h1 h2 h3 h4 h5 h6
  rw [h1, h2, h3, h4, h5, h6]

def TextIs (x : InsR) (s : List UInt8) (v : Value) : Prop := ∀ w, FormsAt w → PowAt w → Calls Tryd.prog 24 #[insV x] w fun e w' => e = .returned (.tuple #[.string ⟨⟨s⟩⟩, v]) ∧ RowKit.Below w.heap.size w w'

set_option maxRecDepth 100000 in
set_option maxHeartbeats 4000000 in
theorem ia_walk (x y : InsR) (w : World) (hF : FormsAt w) (hp : PowAt w) {sx sy : List UInt8} {vx vy : Value} (hx : TextIs x sx vx) (hy : TextIs y sy vy)
    (h : (∃ n m, vx = errV n ∧ (vy = errV m ∨ vy = .nilIface)) ∨ (vx = .nilIface ∧ ∃ n, vy = errV n) ∨ (vx = .nilIface ∧ vy = .nilIface ∧ (sx = sy → x = y) ∧ (x = y → sx = sy))) :
    Calls Tryd.prog 7 #[insV x, insV y] w fun e w' => e = .returned (.bool true) ∧ RowKit.Below w.heap.size w w' := by
  have HS := Lib.hid (TwoAt.start (x := x) (y := y) hF hp)
  have HX := Lib.hid hx
  have HY := Lib.hid hy
  have HH := Lib.hid h
  clear hF hp hx hy h
  unfold TextIs insV at HX HY
  unfold insV
  go_enter Tryd.func7, Tryd.ntmps7
  go_wp2_with fail
  refine (named_true _).mono ?_
  rintro e w1 ⟨rfl, hb1⟩
  have HS1 := Lib.hid (HS.out.below hb1)
  obtain ⟨_, ⟨hl1, c0, c1, c2, c3, c4, c5⟩, _, _, _⟩ := HS1.out
  clear hb1 HS
  go_wp2_with fail
  refine (HX.out _ HS1.out.2.2.2.1 HS1.out.2.2.2.2).mono ?_
  rintro e w2 ⟨rfl, hb2⟩
  have HS2 := Lib.hid (HS1.out.below hb2)
  obtain ⟨_, _, ⟨hl2, d0, d1, d2, d3, d4, d5⟩, _, _⟩ := HS2.out
  clear hb2 c0 c1 c2 c3 c4 c5 HS1 hl1
  go_wp2_with fail
  refine (HY.out _ HS2.out.2.2.2.1 HS2.out.2.2.2.2).mono ?_
  rintro e w3 ⟨rfl, hb3⟩
  have HS3 := Lib.hid (HS2.out.below hb3)
  obtain ⟨_, ⟨hl1, c0, c1, c2, c3, c4, c5⟩, ⟨hl3, f0, f1, f2, f3, f4, f5⟩, _, _⟩ := HS3.out
  clear hb3 HS2 d0 d1 d2 d3 d4 d5 hl2
  rcases HH.out with ⟨n, m, rfl, rfl | rfl⟩ | ⟨rfl, n, rfl⟩ | ⟨rfl, rfl, h1, h2⟩
  · clear HH HX HY
    go_wp2_with fail
    go_ret
    exact ⟨rfl, HS3.out.1⟩
  · clear HH HX HY
    go_wp2_with fail
    go_ret
    exact ⟨rfl, HS3.out.1⟩
  · clear HH HX HY
    go_wp2_with fail
    go_ret
    exact ⟨rfl, HS3.out.1⟩
  · clear HH HX HY
    by_cases hxy : x = y
    · have h3 := h2 hxy
      subst hxy
      subst h3
      clear h1 h2
      go_wp2_with fail
      go_ret
      exact ⟨rfl, HS3.out.1⟩
    · have e1 : (sx == sy) = false := by rw [beq_eq_false_iff_ne]; exact fun q => hxy (h1 q)
      have HN := Lib.hid hxy
      clear h1 h2 hxy
      go_wp2_with fail
      · exact absurd (ins_ext (x := x) (y := y) ‹_› ‹_› ‹_› ‹_› ‹_› ‹_›) HN.out
      all_goals go_ret
      all_goals exact ⟨rfl, HS3.out.1⟩

theorem text_is (x : InsR) (hx : IntOk x.a ∧ IntOk x.b) (hl : x.ty.length ≤ 8388608) : (insErr x ≠ 0 ∧ TextIs x [] (errV (insErr x))) ∨ (insErr x = 0 ∧ TextIs x (textL x) .nilIface) := by
  by_cases h : insErr x = 0
  · exact Or.inr ⟨h, fun w hF hp => text_ok x hl hx w hF hp h⟩
  · exact Or.inl ⟨h, fun w hF _ => text_bad x hl w hF h⟩

theorem insApart_go (x y : InsR) (w : World) (hF : FormsAt w) (hp : PowAt w) (hx : IntOk x.a ∧ IntOk x.b) (hy : IntOk y.a ∧ IntOk y.b) (hlx : x.ty.length ≤ 8388608) (hly : y.ty.length ≤ 8388608) :
    Calls Tryd.prog 7 #[insV x, insV y] w fun e w' => e = .returned (.bool true) ∧ RowKit.Below w.heap.size w w' := by
  rcases text_is x hx hlx with ⟨ex, tx⟩ | ⟨ex, tx⟩
  · rcases text_is y hy hly with ⟨ey, ty⟩ | ⟨ey, ty⟩
    · exact ia_walk x y w hF hp tx ty (Or.inl ⟨_, _, rfl, Or.inl rfl⟩)
    · exact ia_walk x y w hF hp tx ty (Or.inl ⟨_, 0, rfl, Or.inr rfl⟩)
  · rcases text_is y hy hly with ⟨ey, ty⟩ | ⟨ey, ty⟩
    · exact ia_walk x y w hF hp tx ty (Or.inr (Or.inl ⟨rfl, _, rfl⟩))
    · exact ia_walk x y w hF hp tx ty (Or.inr (Or.inr ⟨rfl, rfl, text_inj (insErr_ok ex) (insErr_ok ey), fun e => by rw [e]⟩))

set_option maxRecDepth 100000 in
theorem insApart.walk {H : Type} {enc : TypeId × Value → H} {W : World} {base : Nat} {v0 : Value} {d0 : DataW H} {p0 : List MemPlace} (hv0 : Value.okWide Tryd.prog W .any base 30 v0) (h0 : DataW.Trod enc Tryd.prog W 0 (fun _ => true) true 30 v0 d0 p0)
    {v1 : Value} {d1 : DataW H} {p1 : List MemPlace} (hv1 : Value.okWide Tryd.prog W .any base 30 v1) (h1 : DataW.Trod enc Tryd.prog W 0 (fun _ => true) true 30 v1 d1 p1)
    (W' : World) (hW : W' = W) (hL : laidMetH Tryd.prog Rows.insApartUptoRow.laid W) {S : Prop} (_ : S) (hbulk : Rows.uptoBulkAll [d0, d1] ≤ 1048576) :
    Calls Tryd.prog 7 #[v0, v1] W' fun e w' => e = .returned (.bool true) ∧ RowKit.Below W'.heap.size W' w' := by
  subst hW
  obtain ⟨x, rfl, _, bx, _, _, xa, xb⟩ := open_insV hv0 h0
  obtain ⟨y, rfl, _, by1, _, _, ya, yb⟩ := open_insV hv1 h1
  simp only [Rows.uptoBulkAll] at hbulk
  exact insApart_go x y W' (forms_of_laid hL (by kernel_rfl)) (pow_of_laid hL (by kernel_rfl)) ⟨xa, xb⟩ ⟨ya, yb⟩ (by omega) (by omega)
end Go.Proofs.YtpdbhfacglojjaaDoor
