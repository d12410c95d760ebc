/-
  MtypeDrops: two arguments can be dropped in either order; the walk of the law, up to the given bulk.
-/
import Derived.Test.YtnamnihdbemkhaaDoorMtype
import Derived.Test.YtnamnihdbemkhaaDoorFrame
namespace Go.Proofs.YtnamnihdbemkhaaDoor
set_option linter.unusedVariables false
set_option linter.unusedSimpArgs false
open Go.RowKit Go.Shelf Go.Lib

theorem erase_comm {α : Type} : ∀ (l : List α) (a b : Nat), a < b → (l.eraseIdx b).eraseIdx a = (l.eraseIdx a).eraseIdx (b - 1)
  | [], a, b, _ => by simp
  | x :: l, 0, b + 1, _ => by simp
  | x :: l, a + 1, b + 1, h => by
    have h1 := erase_comm l a b (by omega)
    obtain ⟨c, rfl⟩ : ∃ c, b = c + 1 := ⟨b - 1, by omega⟩
    simp only [List.eraseIdx_cons_succ, Nat.add_sub_cancel] at h1 ⊢
    rw [h1]

/-- the two ways give one text -/
theorem drops_same {m s1 s2 s3 s4 : List UInt8} {a b b' : Int} (hab : a < b) (hb : b' = b - 1)
    (h1 : ∃ A g k, MethodOk m A g ∧ b = (k : Nat) ∧ k < A.length ∧ s1 = 40 :: ((A.eraseIdx k).flatten ++ 41 :: g))
    (h2 : ∃ A g k, MethodOk s1 A g ∧ a = (k : Nat) ∧ k < A.length ∧ s2 = 40 :: ((A.eraseIdx k).flatten ++ 41 :: g))
    (h3 : ∃ A g k, MethodOk m A g ∧ a = (k : Nat) ∧ k < A.length ∧ s3 = 40 :: ((A.eraseIdx k).flatten ++ 41 :: g))
    (h4 : ∃ A g k, MethodOk s3 A g ∧ b' = (k : Nat) ∧ k < A.length ∧ s4 = 40 :: ((A.eraseIdx k).flatten ++ 41 :: g)) : s2 = s4 := by
  obtain ⟨A, g, k, hA, rfl, hk, rfl⟩ := h1
  obtain ⟨A3, g3, j, hA3, rfl, hj, rfl⟩ := h3
  obtain ⟨rfl, rfl⟩ := method_uniq hA hA3
  obtain ⟨A2, g2, j2, hA2, e2, hj2, rfl⟩ := h2
  obtain ⟨A4, g4, k4, hA4, e4, hk4, rfl⟩ := h4
  obtain rfl : j = j2 := by omega
  have n1 : MethodOk (40 :: ((A.eraseIdx k).flatten ++ 41 :: g)) (A.eraseIdx k) g := ⟨rfl, fun t ht => hA.2.1 t (List.mem_of_mem_eraseIdx ht), Nat.le_trans (List.length_eraseIdx_le _ _) hA.2.2.1, hA.2.2.2⟩
  have n3 : MethodOk (40 :: ((A.eraseIdx j).flatten ++ 41 :: g)) (A.eraseIdx j) g := ⟨rfl, fun t ht => hA.2.1 t (List.mem_of_mem_eraseIdx ht), Nat.le_trans (List.length_eraseIdx_le _ _) hA.2.2.1, hA.2.2.2⟩
  obtain ⟨rfl, rfl⟩ := method_uniq n1 hA2
  obtain ⟨rfl, e⟩ := method_uniq n3 hA4
  rw [← e]
  have hkj : k4 = k - 1 := by omega
  rw [erase_comm A j k (by omega), hkj]

set_option maxRecDepth 100000 in
set_option maxHeartbeats 1000000 in
theorem mtypeDrops_go (m : List UInt8) (hm : m.length ≤ 1048576) (a b : Int) (hb0 : -9223372036854775808 ≤ b) (hb1 : b ≤ 9223372036854775807) (w : World) :
    Calls Tryd.prog 10 #[.string ⟨⟨m⟩⟩, .int .i64 a, .int .i64 b] w fun e w' => e = .returned (.bool true) ∧ Below w.heap.size w w' := by
  have hwb : a < b → -9223372036854775808 ≤ a → wrap64 (b - 1) = b - 1 := fun _ _ => by unfold wrap64; omega
  have HWB := Lib.hid hwb
  have HB0 := Lib.hid hb0
  have HB1 := Lib.hid hb1
  clear hwb hb0 hb1
  go_enter Tryd.func10, Tryd.ntmps10
  go_wp2_with fail
  refine (named_true _).mono ?_
  rintro e w1 ⟨rfl, hb1⟩
  go_wp2_with fail
  refine (drop_calls m (by omega) _ _).mono ?_
  rintro e w2 ⟨hb2, s1, e1, rfl, hs1, h1⟩
  have H1 := Lib.hid h1
  clear h1
  go_wp2_with fail
  refine (drop_calls s1 (by omega) _ _).mono ?_
  rintro e w3 ⟨hb3, s2, e2, rfl, hs2, h2⟩
  have H2 := Lib.hid h2
  clear h2
  go_wp2_with fail
  refine (drop_calls m (by omega) _ _).mono ?_
  rintro e w4 ⟨hb4, s3, e3, rfl, hs3, h3⟩
  have H3 := Lib.hid h3
  clear h3
  go_wp2_with fail
  refine (drop_calls s3 (by omega) _ _).mono ?_
  rintro e w5 ⟨hb5, s4, e4, rfl, hs4, h4⟩
  have H4 := Lib.hid h4
  have HB := Lib.hid (bl_trans (bl_trans (bl_trans (bl_trans hb1 hb2) hb3) hb4) hb5)
  clear h4 hb1 hb2 hb3 hb4 hb5
  rcases H1.out with ⟨k, rfl⟩ | ⟨rfl, p1⟩
  · go_wp2_with fail
    go_ret
    exact ⟨rfl, HB.out⟩
  rcases H2.out with ⟨k, rfl⟩ | ⟨rfl, p2⟩
  · clear p1
    go_wp2_with fail
    go_ret
    exact ⟨rfl, HB.out⟩
  rcases H3.out with ⟨k, rfl⟩ | ⟨rfl, p3⟩
  · clear p1 p2
    go_wp2_with fail
    go_ret
    exact ⟨rfl, HB.out⟩
  rcases H4.out with ⟨k, rfl⟩ | ⟨rfl, p4⟩
  · clear p1 p2 p3
    go_wp2_with fail
    go_ret
    exact ⟨rfl, HB.out⟩
  by_cases hab : a < b
  · have ha0 : 0 ≤ a := by obtain ⟨_, _, k, _, h, _⟩ := p3; omega
    rw [HWB.out hab (by omega)] at p4
    have hs := drops_same hab rfl p1 p2 p3 p4
    clear p1 p2 p3 p4 H1 H2 H3 H4
    subst hs
    go_wp2_with fail
    go_ret
    exact ⟨ret_bool (by simp), HB.out⟩
  · clear p1 p2 p3 p4 H1 H2 H3 H4
    go_wp2_with fail
    go_ret
    exact ⟨rfl, HB.out⟩

set_option maxRecDepth 100000 in
theorem mtypeDrops.walk (m : ByteArray) (hm : m.size ≤ maxLen) (hmr : m.data.toList.length ≤ reachBytes) (a : Int) (ha : (Lit.int .i64 a).wf = true) (b : Int) (hb : (Lit.int .i64 b).wf = true) (w : World) {l : Prop} {s : Prop} (_ : l) (_ : s) {K : Type} (hbulk : Rows.uptoBulkAll [(DataW.lit (.string m.data.toList) : DataW K), DataW.lit (.int .i64 a), DataW.lit (.int .i64 b)] ≤ 1048576) :
    Calls Tryd.prog 10 #[.string m, .int .i64 a, .int .i64 b] w fun e w' => e = .returned (.bool true) ∧ Below w.heap.size w w' := by
  obtain ⟨⟨m⟩⟩ := m
  simp only [Rows.uptoBulkAll, Rows.uptoBulk] at hbulk
  have h : -9223372036854775808 ≤ b ∧ b ≤ 9223372036854775807 := by simpa [Lit.wf, IntKind.min, IntKind.max, IntKind.signed, IntKind.bits] using hb
  exact mtypeDrops_go m (by omega) a b h.1 h.2 w
end Go.Proofs.YtnamnihdbemkhaaDoor
