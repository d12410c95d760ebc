import Derived.Test.YtbnkckjdgpiggaaGreatDoorHx
import Derived.Test.YtbnkckjdgpiggaaGreatDoorIa
namespace Go.Proofs.YtbnkckjdgpiggaaGreatDoor
set_option maxRecDepth 100000
set_option maxHeartbeats 16000000
set_option linter.unusedVariables false
set_option linter.unusedSimpArgs false
open Go.RowKit Go.Shelf Go.Lib
theorem zx0 (i : Int) (t : List UInt8) (A : List (List UInt8)) (hA : ∀ x ∈ A, zi x) (h : (zrn i t A).1 = 0) : ∀ x ∈ (zrn i t A).2, zi x := by
 unfold zrn at h |-
 split at h
 . exact absurd h (by decide)
 split at h
 . exact absurd h (by decide)
 rename_i h1 h2
 rw [if_neg h1, if_neg h2]
 intro x hx
 rcases List.mem_append.1 hx with hx | hx
 . exact hA x (List.mem_of_mem_take hx)
 rcases List.mem_cons.1 hx with rfl | hx
 . exact Classical.not_not.1 h2
 . exact hA x (List.mem_of_mem_drop hx)
theorem zn3 (i : Int) (t : List UInt8) (A : List (List UInt8)) (hA : ∀ x ∈ A, zi x) (h : (zb3 i t A).1 = 0) : ∀ x ∈ (zb3 i t A).2, zi x := by
 unfold zb3 at h |-
 split at h
 . exact absurd h (by decide)
 split at h
 . exact absurd h (by decide)
 rename_i h1 h2
 rw [if_neg h1, if_neg h2]
 intro x hx
 rcases List.mem_or_eq_of_mem_set hx with hx | rfl
 . exact hA x hx
 . exact Classical.not_not.1 h2
theorem zum (i : Int) (A : List (List UInt8)) (hA : ∀ x ∈ A, zi x) (h : (zhu i A).1 = 0) : ∀ x ∈ (zhu i A).2, zi x := by
 unfold zhu at h |-
 split at h
 . exact absurd h (by decide)
 rename_i h1
 rw [if_neg h1]
 exact fun x hx => hA x (List.mem_of_mem_eraseIdx hx)
theorem zv1 (i : Int) (t : List UInt8) (ht : t.length <= 8388608) (c d : Nat) (w : World) (hc : c < w.heap.size) (hd : d < w.heap.size) (h0 : w.cell? ⟨c, 0, none⟩ = some (.int .i64 i)) (h1 : w.cell? ⟨d, 0, none⟩ = some (.string ⟨⟨t⟩⟩))
   (A : List (List UInt8)) (v : Value) (W : World) (hl : A.length <= 5) (hb : Below w.heap.size w W) (hown : W.ownsRow w.heap.size 9 1 v A.length (A.map zz)) :
   Calls Tryz.prog 101 #[v, .pointer (some ⟨c, 0, none⟩), .pointer (some ⟨d, 0, none⟩)] W (z39 w (zrn i t A)) := by
 obtain ⟨a, cap, rfl, _⟩ := zy hown
 have c0 : W.cell? ⟨c, 0, none⟩ = some (.int .i64 i) := by rw [hb.cell (p := ⟨c, 0, none⟩) hc]; exact h0
 have c1 : W.cell? ⟨d, 0, none⟩ = some (.string ⟨⟨t⟩⟩) := by rw [hb.cell (p := ⟨d, 0, none⟩) hd]; exact h1
 have hcl := Nat.lt_of_lt_of_le hc hb.size
 have hdl := Nat.lt_of_lt_of_le hd hb.size
 have HB := Hq hb
 have HO := Hq hown
 clear hb hown h0 h1
 by_cases hi : i < 0 \/ (A.length : Int) < i
 . have HR := Hq (show zrn i t A = (2, []) by unfold zrn; rw [if_pos hi])
   rcases hi with hi | hi
   . go_enter Tryz.func101, Tryz.ntmps101
     go_wp2_with fail
     go_ret2
     exact ⟨HB.out, Or.inl ⟨by rw [HR.out]; decide, by rw [HR.out]; exact ⟨_, rfl⟩⟩⟩
   . by_cases h0 : i < 0
     . exfalso; omega
     go_enter Tryz.func101, Tryz.ntmps101
     go_wp2_with fail
     go_ret2
     exact ⟨HB.out, Or.inl ⟨by rw [HR.out]; decide, by rw [HR.out]; exact ⟨_, rfl⟩⟩⟩
 . obtain ⟨k, rfl⟩ : ∃ k : Nat, i = k := ⟨i.toNat, by omega⟩
   have hk : k <= A.length := by omega
   have hk1 : ¬ (k : Int) < 0 := by omega
   have hk2 : ¬ (A.length : Int) < (k : Int) := by omega
   have HI := Hq hi
   clear hi
   by_cases hT : zi t
   . have HCK := Hq (fun w => zc1 t hT w)
     have HR := Hq (show zrn k t A = (0, z4w A k t) by unfold zrn; rw [if_neg HI.out, if_neg (not_not_intro hT)]; rfl)
     clear hT
     go_enter Tryz.func101, Tryz.ntmps101
     go_wp2_with fail
     refine (HCK.out _).mono ?_
     rintro e w1 ⟨rfl, hb1⟩
     have HO1 := Hq (zad HO.out hb1)
     have d0 : w1.cell? ⟨c, 0, none⟩ = some (.int .i64 k) := by rw [hb1.cell (p := ⟨c, 0, none⟩) hcl]; exact c0
     have d1 : w1.cell? ⟨d, 0, none⟩ = some (.string ⟨⟨t⟩⟩) := by rw [hb1.cell (p := ⟨d, 0, none⟩) hdl]; exact c1
     have hcl1 := Nat.lt_of_lt_of_le hcl hb1.size
     have hdl1 := Nat.lt_of_lt_of_le hdl hb1.size
     have HB1 := Hq (zc HB.out hb1)
     have HIN := Hq (zvo A (.slice a A.length cap) k t w1.heap.size (w1.alloc (.cells #[zz t] 9)) w.heap.size hk (by omega) (HO1.out.alloc _) (zg _ _ _ _ rfl) (fun e => by have := (HO1.out.lt _ e).2; omega) (by have := HB1.out.size; simp; omega))
     clear hb1 c0 c1
     go_wp2_with fail
     refine HIN.out.mono ?_
     rintro e w2 ⟨a2, cap2, rfl, hr2, hb2⟩
     go_wp2_with fail
     go_ret2
     refine ⟨(ze HB1.out _).trans hb2, Or.inr ⟨by rw [HR.out], a2, cap2, ?_, by rw [HR.out]; exact hr2⟩⟩
     rw [HR.out]
     simp only [zhm]
     rfl
   . have HCK := Hq (fun w => zdi t hT (by omega) w)
     have HR := Hq (show zrn k t A = (1, []) by unfold zrn; rw [if_neg HI.out, if_pos hT])
     clear hT
     go_enter Tryz.func101, Tryz.ntmps101
     go_wp2_with fail
     refine (HCK.out _).mono ?_
     rintro e w1 ⟨rfl, hb1⟩
     go_wp2_with fail
     go_ret2
     exact ⟨zc HB.out hb1, Or.inl ⟨by rw [HR.out]; decide, by rw [HR.out]; exact ⟨_, rfl⟩⟩⟩
theorem zw6 (m : List UInt8) (hm : m.length <= 8388608) (i : Int) (t : List UInt8) (ht : t.length <= 8388608) (w : World) :
   Calls Tryz.prog 55 #[.string ⟨⟨m⟩⟩, .int .i64 i, .string ⟨⟨t⟩⟩] w (zg0 w (zne m i t)) := by
 obtain ⟨w1, hw1⟩ : ∃ w1, w1 = (w.alloc (.cells #[.int .i64 i] 3)).alloc (.cells #[.string ⟨⟨t⟩⟩] 9) := ⟨_, rfl⟩
 have hb1 : Below w.heap.size w w1 := by rw [hw1]; exact ze (ze (Below.refl _ _) _) _
 have hs1 : w1.heap.size = w.heap.size + 1 + 1 := by rw [hw1]; simp
 have c0 : w1.cell? ⟨w.heap.size, 0, none⟩ = some (.int .i64 i) := by rw [hw1]; simp
 have c1 : w1.cell? ⟨w.heap.size + 1, 0, none⟩ = some (.string ⟨⟨t⟩⟩) := by rw [hw1]; simp
 have hch := z7j m hm #[.pointer (some ⟨w.heap.size, 0, none⟩), .pointer (some ⟨w.heap.size + 1, 0, none⟩)] w1 (zrn i t) (zx0 i t) (fun A v W hA hl hb ho => zv1 i t ht w.heap.size (w.heap.size + 1) w1 (by omega) (by omega) c0 c1 A v W hl hb ho)
 have HC := Hq hch
 have HB1 := Hq hb1
 have hmf : ∀ (fn : Fn) (first cap : Array Value) (w : World), (Instr.makeFunc fn first cap).run Tryz.prog w = .ok (.func fn first cap) w := fun _ _ _ _ => rfl
 clear hch hb1 hs1 c0 c1
 go_enter Tryz.func55, Tryz.ntmps55
 go_wp2_with fail
 rw [<- hw1]
 refine HC.out.mono ?_
 rintro e w2 ⟨rfl, hb2⟩
 have HB2 := Hq (zc HB1.out hb2)
 clear hb2
 go_wp2_with fail
 go_ret2
 exact ⟨rfl, HB2.out⟩
theorem zo2 (i : Int) (t : List UInt8) (ht : t.length <= 8388608) (c d : Nat) (w : World) (hc : c < w.heap.size) (hd : d < w.heap.size) (h0 : w.cell? ⟨c, 0, none⟩ = some (.int .i64 i)) (h1 : w.cell? ⟨d, 0, none⟩ = some (.string ⟨⟨t⟩⟩))
   (A : List (List UInt8)) (v : Value) (W : World) (hl : A.length <= 5) (hb : Below w.heap.size w W) (hown : W.ownsRow w.heap.size 9 1 v A.length (A.map zz)) :
   Calls Tryz.prog 106 #[v, .pointer (some ⟨c, 0, none⟩), .pointer (some ⟨d, 0, none⟩)] W (z39 w (zb3 i t A)) := by
 have c0 : W.cell? ⟨c, 0, none⟩ = some (.int .i64 i) := by rw [hb.cell (p := ⟨c, 0, none⟩) hc]; exact h0
 have c1 : W.cell? ⟨d, 0, none⟩ = some (.string ⟨⟨t⟩⟩) := by rw [hb.cell (p := ⟨d, 0, none⟩) hd]; exact h1
 have hcl := Nat.lt_of_lt_of_le hc hb.size
 have hdl := Nat.lt_of_lt_of_le hd hb.size
 have HB := Hq hb
 clear h0 h1
 by_cases hi : i < 0 \/ (A.length : Int) <= i
 . obtain ⟨a, cap, rfl, _⟩ := zy hown
   clear hb hown
   have HR := Hq (show zb3 i t A = (2, []) by unfold zb3; rw [if_pos hi])
   rcases hi with hi | hi
   . go_enter Tryz.func106, Tryz.ntmps106
     go_wp2_with fail
     go_ret2
     exact ⟨HB.out, Or.inl ⟨by rw [HR.out]; decide, by rw [HR.out]; exact ⟨_, rfl⟩⟩⟩
   . by_cases h0 : i < 0
     . exfalso; omega
     go_enter Tryz.func106, Tryz.ntmps106
     go_wp2_with fail
     go_ret2
     exact ⟨HB.out, Or.inl ⟨by rw [HR.out]; decide, by rw [HR.out]; exact ⟨_, rfl⟩⟩⟩
 . obtain ⟨k, rfl⟩ : ∃ k : Nat, i = k := ⟨i.toNat, by omega⟩
   have hk : k < A.length := by omega
   have hk1 : ¬ (k : Int) < 0 := by omega
   have hk2 : ¬ (A.length : Int) <= (k : Int) := by omega
   have hk3 : (k : Int) < (A.length : Int) := by omega
   have HI := Hq hi
   clear hi
   obtain ⟨g, cap, rfl⟩ : ∃ g cap, v = .slice (some ⟨g, 0, none⟩) A.length cap := by
     rcases hown.2 with ⟨rfl, h0⟩ | ⟨g, cap, cur, h, _⟩
     . omega
     . exact ⟨g, cap, h⟩
   obtain ⟨hgB, hgl⟩ := hown.lt g rfl
   have hcg := hown.cellAt k (by omega)
   have hcg' : W.cell? ⟨g, k, none⟩ = some (zz A[k]) := by rw [hcg, List.getElem?_map, List.getElem?_eq_getElem hk]; rfl
   have hfg := hown.frozenAt k
   have hst := (hown.stored k (zz t)).1
   have hset : (A.map zz).set k (zz t) = (A.set k t).map zz := by rw [List.map_set]
   rw [hset] at hst
   have hst2 : (W.setCell ⟨g, k, none⟩ (zz t)).ownsRow w.heap.size 9 1 (.slice (some ⟨g, 0, none⟩) A.length cap) (A.set k t).length ((A.set k t).map zz) := by rw [List.length_set]; exact hst
   have HST := Hq hst2
   have HBS := Hq (hb.setCell (p := ⟨g, k, none⟩) hgB (zz t))
   have hne1 : c ≠ g := by omega
   have hne2 : d ≠ g := by omega
   clear hown hb hcg hst hst2 hset
   by_cases hT : zi t
   . have HCK := Hq (fun w => zc1 t hT w)
     have HR := Hq (show zb3 k t A = (0, A.set k t) by unfold zb3; rw [if_neg HI.out, if_neg (not_not_intro hT)]; rfl)
     clear hT
     go_enter Tryz.func106, Tryz.ntmps106
     go_wp2_with fail
     refine (HCK.out _).mono ?_
     rintro e w1 ⟨rfl, hb1⟩
     obtain ⟨a1, cap1, h1, hr1⟩ := zl (zad HST.out hb1)
     have HB1 := Hq (zc HBS.out hb1)
     clear hb1
     go_wp2_with fail
     go_ret2
     refine ⟨HB1.out, Or.inr ⟨by rw [HR.out], a1, cap1, ?_, by rw [HR.out]; exact hr1⟩⟩
     rw [HR.out]
     show _ = Ending.returned (.tuple #[.slice a1 (A.set k t).length cap1, .nilIface])
     rw [List.length_set]
     rfl
   . have HCK := Hq (fun w => zdi t hT (by omega) w)
     have HR := Hq (show zb3 k t A = (1, []) by unfold zb3; rw [if_neg HI.out, if_pos hT])
     clear hT
     go_enter Tryz.func106, Tryz.ntmps106
     go_wp2_with fail
     refine (HCK.out _).mono ?_
     rintro e w1 ⟨rfl, hb1⟩
     go_wp2_with fail
     go_ret2
     exact ⟨zc HBS.out hb1, Or.inl ⟨by rw [HR.out]; decide, by rw [HR.out]; exact ⟨_, rfl⟩⟩⟩
theorem zqt (m : List UInt8) (hm : m.length <= 8388608) (i : Int) (t : List UInt8) (ht : t.length <= 8388608) (w : World) :
   Calls Tryz.prog 59 #[.string ⟨⟨m⟩⟩, .int .i64 i, .string ⟨⟨t⟩⟩] w (zg0 w (zex m i t)) := by
 obtain ⟨w1, hw1⟩ : ∃ w1, w1 = (w.alloc (.cells #[.int .i64 i] 3)).alloc (.cells #[.string ⟨⟨t⟩⟩] 9) := ⟨_, rfl⟩
 have hb1 : Below w.heap.size w w1 := by rw [hw1]; exact ze (ze (Below.refl _ _) _) _
 have hs1 : w1.heap.size = w.heap.size + 1 + 1 := by rw [hw1]; simp
 have c0 : w1.cell? ⟨w.heap.size, 0, none⟩ = some (.int .i64 i) := by rw [hw1]; simp
 have c1 : w1.cell? ⟨w.heap.size + 1, 0, none⟩ = some (.string ⟨⟨t⟩⟩) := by rw [hw1]; simp
 have hch := zyz m hm #[.pointer (some ⟨w.heap.size, 0, none⟩), .pointer (some ⟨w.heap.size + 1, 0, none⟩)] w1 (zb3 i t) (zn3 i t) (fun A v W hA hl hb ho => zo2 i t ht w.heap.size (w.heap.size + 1) w1 (by omega) (by omega) c0 c1 A v W hl hb ho)
 have HC := Hq hch
 have HB1 := Hq hb1
 have hmf : ∀ (fn : Fn) (first cap : Array Value) (w : World), (Instr.makeFunc fn first cap).run Tryz.prog w = .ok (.func fn first cap) w := fun _ _ _ _ => rfl
 clear hch hb1 hs1 c0 c1
 go_enter Tryz.func59, Tryz.ntmps59
 go_wp2_with fail
 rw [<- hw1]
 refine HC.out.mono ?_
 rintro e w2 ⟨rfl, hb2⟩
 have HB2 := Hq (zc HB1.out hb2)
 clear hb2
 go_wp2_with fail
 go_ret2
 exact ⟨rfl, HB2.out⟩
theorem ztc (i : Int) (c : Nat) (w : World) (hc : c < w.heap.size) (h0 : w.cell? ⟨c, 0, none⟩ = some (.int .i64 i))
   (A : List (List UInt8)) (v : Value) (W : World) (hl : A.length <= 5) (hb : Below w.heap.size w W) (hown : W.ownsRow w.heap.size 9 1 v A.length (A.map zz)) :
   Calls Tryz.prog 104 #[v, .pointer (some ⟨c, 0, none⟩)] W (z39 w (zhu i A)) := by
 have c0 : W.cell? ⟨c, 0, none⟩ = some (.int .i64 i) := by rw [hb.cell (p := ⟨c, 0, none⟩) hc]; exact h0
 by_cases hi : i < 0 \/ (A.length : Int) <= i
 . obtain ⟨a, cap, rfl, _⟩ := zy hown
   have hR : zhu i A = (2, []) := by unfold zhu; rw [if_pos hi]
   refine (z2z A.length cap a i W c c0 hi).mono ?_
   rintro e w' ⟨rfl, rfl⟩
   exact ⟨hb, Or.inl ⟨by rw [hR]; decide, by rw [hR]; exact ⟨_, rfl⟩⟩⟩
 . obtain ⟨k, rfl⟩ : ∃ k : Nat, i = k := ⟨i.toNat, by omega⟩
   have hk : k < A.length := by omega
   have hR : zhu k A = (0, A.eraseIdx k) := by unfold zhu; rw [if_neg hi]; rfl
   refine (zza A v k W w.heap.size c hk hl c0 hown).mono ?_
   rintro e w' ⟨a, cap, rfl, hb2, hr⟩
   refine ⟨hb.trans hb2, Or.inr ⟨by rw [hR], a, cap, ?_, by rw [hR]; exact hr⟩⟩
   rw [hR]
   simp only [List.length_eraseIdx]
   rw [if_pos hk]
theorem zvv (m : List UInt8) (hm : m.length <= 8388608) (i : Int) (w : World) :
   Calls Tryz.prog 58 #[.string ⟨⟨m⟩⟩, .int .i64 i] w (zg0 w (zl4 m i)) := by
 obtain ⟨w1, hw1⟩ : ∃ w1, w1 = w.alloc (.cells #[.int .i64 i] 3) := ⟨_, rfl⟩
 have hb1 : Below w.heap.size w w1 := by rw [hw1]; exact ze (Below.refl _ _) _
 have hs1 : w1.heap.size = w.heap.size + 1 := by rw [hw1]; simp
 have c0 : w1.cell? ⟨w.heap.size, 0, none⟩ = some (.int .i64 i) := by rw [hw1]; simp
 have hch := z4x m hm #[.pointer (some ⟨w.heap.size, 0, none⟩)] w1 (zhu i) (zum i) (fun A v W hA hl hb ho => ztc i w.heap.size w1 (by omega) c0 A v W hl hb ho)
 have HC := Hq hch
 have HB1 := Hq hb1
 have hmf : ∀ (fn : Fn) (first cap : Array Value) (w : World), (Instr.makeFunc fn first cap).run Tryz.prog w = .ok (.func fn first cap) w := fun _ _ _ _ => rfl
 clear hch hb1 hs1 c0
 go_enter Tryz.func58, Tryz.ntmps58
 go_wp2_with fail
 rw [<- hw1]
 refine HC.out.mono ?_
 rintro e w2 ⟨rfl, hb2⟩
 have HB2 := Hq (zc HB1.out hb2)
 clear hb2
 go_wp2_with fail
 go_ret2
 exact ⟨rfl, HB2.out⟩
theorem zul (pos : List Int) (all : List UInt8) (A : List (List UInt8)) (hA : ∀ x ∈ A, zi x) (h : (zgr pos all A).1 = 0) : ∀ x ∈ (zgr pos all A).2, zi x := by
 unfold zgr at h |-
 cases hm : zni all with
 | none => rw [hm] at h; exact absurd (show (1 : Int) = 0 from h) (by decide)
 | some p =>
   obtain ⟨B, g⟩ := p
   rw [hm] at h
   simp only at h |-
   split at h
   . exact absurd (show (8 : Int) = 0 from h) (by decide)
   . rename_i h1
     rw [if_neg h1]
     exact (zgm hm).2.1
def zgw (B : List (List UInt8)) (pos : List Int) (A : List (List UInt8)) (j : Nat) : Prop := zgu B pos A = zgu B (pos.drop j) (A.drop j)
theorem zmt (B : List (List UInt8)) (pos : List Int) (A : List (List UInt8)) : zgw B pos A 0 := rfl
theorem zzy {B : List (List UInt8)} {pos : List Int} {A : List (List UInt8)} {j : Nat} {k : Int} {t : List UInt8} (h : zgw B pos A j) (hk : pos[j]? = some k) (ht : A[j]? = some t) :
   zgu B pos A = if k < 0 \/ (B.length : Int) <= k then 2 else if B[k.toNat]? ≠ some t then 7 else zgu B (pos.drop (j + 1)) (A.drop (j + 1)) := by
 unfold zgw at h
 have h1 : pos.drop j = k :: pos.drop (j + 1) := by
   obtain ⟨hj, e⟩ := List.getElem?_eq_some_iff.1 hk
   rw [List.drop_eq_getElem_cons hj, e]
 have h2 : A.drop j = t :: A.drop (j + 1) := by
   obtain ⟨hj, e⟩ := List.getElem?_eq_some_iff.1 ht
   rw [List.drop_eq_getElem_cons hj, e]
 rw [h, h1, h2]
 rfl
theorem zus {B : List (List UInt8)} {pos : List Int} {A : List (List UInt8)} {j : Nat} (h : zgw B pos A j) (hj : pos.length <= j) : zgu B pos A = 0 := by
 unfold zgw at h
 rw [h, List.drop_eq_nil_iff.2 hj]
 rfl
theorem zom {w : World} {a : Option Addr} {cap : Nat} {L : List Int} (h : zab w a cap (L.map (fun k => .int .i64 k))) {j : Nat} {k : Int} (hk : L[j]? = some k) : ∃ b off, a = some ⟨b, off, none⟩ /\ b < w.heap.size /\ w.cell? ⟨b, off + j, none⟩ = some (.int .i64 k) := by
 obtain ⟨_, h2 | ⟨b, off, rfl, hlt, hc⟩⟩ := h
 . have : L = [] := by simpa using h2
   subst this; simp at hk
 . exact ⟨b, off, rfl, hlt, hc j _ (by rw [List.getElem?_map, hk]; rfl)⟩
theorem zsu (pos : List Int) (pa : Option Addr) (pc : Nat) (all : List UInt8) (ha : all.length <= 8388608) (hp : pos.length <= 8388608) (c d : Nat) (w : World) (hc : c < w.heap.size) (hd : d < w.heap.size) (h0 : w.cell? ⟨c, 0, none⟩ = some (.string ⟨⟨all⟩⟩)) (h1 : w.cell? ⟨d, 0, none⟩ = some (.slice pa pos.length pc)) (hv : zab w pa pc (pos.map (fun k => .int .i64 k)))
   (A : List (List UInt8)) (v : Value) (W : World) (hl : A.length <= 5) (hb : Below w.heap.size w W) (hown : W.ownsRow w.heap.size 9 1 v A.length (A.map zz)) :
   Calls Tryz.prog 103 #[v, .pointer (some ⟨c, 0, none⟩), .pointer (some ⟨d, 0, none⟩)] W (z39 w (zgr pos all A)) := by
 obtain ⟨a, cap, rfl, hsr⟩ := zl hown
 have c0 : W.cell? ⟨c, 0, none⟩ = some (.string ⟨⟨all⟩⟩) := by rw [hb.cell (p := ⟨c, 0, none⟩) hc]; exact h0
 have c1 : W.cell? ⟨d, 0, none⟩ = some (.slice pa pos.length pc) := by rw [hb.cell (p := ⟨d, 0, none⟩) hd]; exact h1
 have hdl := Nat.lt_of_lt_of_le hd hb.size
 have HB := Hq hb
 have HV := Hq (hv.below hb)
 have HA := Hq hsr
 clear hb hown h0 h1 hv hsr
 go_enter Tryz.func103, Tryz.ntmps103
 go_wp2_with fail
 refine (zat all ha _).mono ?_
 rintro e w1 ⟨hb1, ⟨rfl, hno⟩ | ⟨v, B, gv, rfl, hB, hown⟩⟩
 . have HR := Hq (show zgr pos all A = (1, []) by unfold zgr; rw [zen hno])
   clear hno
   go_wp2_with fail
   go_ret2
   exact ⟨zc HB.out hb1, Or.inl ⟨by rw [HR.out]; decide, by rw [HR.out]; exact ⟨_, rfl⟩⟩⟩
 . have HR := Hq (show zgr pos all A = if pos.length ≠ A.length then (8, []) else (zgu B pos A, B) by unfold zgr; rw [zce hB])
   obtain ⟨a2, cap2, rfl, hsr2⟩ := zl hown
   have HA2 := Hq hsr2
   have d1 : w1.cell? ⟨d, 0, none⟩ = some (.slice pa pos.length pc) := by rw [hb1.cell (p := ⟨d, 0, none⟩) hdl]; exact c1
   have hdl1 := Nat.lt_of_lt_of_le hdl hb1.size
   have HB1 := Hq (zc HB.out hb1)
   have HV1 := Hq (HV.out.below hb1)
   have HA1 := Hq (HA.out.below hb1)
   have hlB := hB.2.2.1
   clear hB hown hsr2 hb1 c0 c1
   by_cases hle : pos.length = A.length
   . have HR2 := Hq (show zgr pos all A = (zgu B pos A, B) by rw [HR.out, if_neg (by omega)])
     have HLE := Hq hle
     have hle1 : ((pos.length : Int) != (A.length : Int)) = false := by simp; omega
     have hle2 : (pos.length != A.length) = false := by simp; omega
     clear hle
     go_wp2_with fail
     go_loopw [28] (fun i wr => ∃ j : Nat, j <= pos.length /\ i = .int .i64 j /\ Below w1.heap.size w1 wr /\ Hid (zgw B pos A j)) (fun i _ => pos.length - (RowKit.intOf i).toNat)
     case atStart => exact ⟨0, by omega, rfl, Below.refl _ _, Hq (zmt B pos A)⟩
     case round =>
       obtain ⟨j, hj, rfl, hbr, HP⟩ := hrel
       have HBR := Hq (zc HB1.out hbr)
       have HBR1 := Hq hbr
       have HVR := Hq (HV1.out.below hbr)
       have HAR := Hq (HA1.out.below hbr)
       have HAR2 := Hq (HA2.out.below hbr)
       clear hbr
       by_cases hlj : j < pos.length
       . obtain ⟨k, hk⟩ : ∃ k, pos[j]? = some k := ⟨_, List.getElem?_eq_getElem hlj⟩
         obtain ⟨t, ht⟩ : ∃ t, A[j]? = some t := ⟨_, List.getElem?_eq_getElem (by have := HLE.out; omega)⟩
         obtain ⟨pb, po, rfl, hpl, ck⟩ := zom HVR.out hk
         have HPA := Hq (zzy HP.out hk ht)
         have hjA : j < A.length := by have := HLE.out; omega
         by_cases hr : k < 0 \/ (B.length : Int) <= k
         . have HE := Hq (show zgu B pos A = 2 by rw [HPA.out, if_pos hr])
           clear HPA hk ht
           rcases hr with hr | hr
           . go_wp2_with fail
             go_ret2
             exact ⟨HBR.out, Or.inl ⟨by rw [HR2.out, HE.out]; show (2 : Int) ≠ 0; decide, by rw [HR2.out, HE.out]; exact ⟨_, rfl⟩⟩⟩
           . by_cases hk0 : k < 0
             . exfalso; omega
             go_wp2_with fail
             go_ret2
             exact ⟨HBR.out, Or.inl ⟨by rw [HR2.out, HE.out]; show (2 : Int) ≠ 0; decide, by rw [HR2.out, HE.out]; exact ⟨_, rfl⟩⟩⟩
         . obtain ⟨n, rfl⟩ : ∃ n : Nat, k = n := ⟨k.toNat, by omega⟩
           have hn : n < B.length := by omega
           obtain ⟨u, hu⟩ : ∃ u, B[n]? = some u := ⟨_, List.getElem?_eq_getElem hn⟩
           have hn0 : ¬ (n : Int) < 0 := by omega
           have hn1 : ¬ (B.length : Int) <= (n : Int) := by omega
           have hn2 : (n : Int) < (B.length : Int) := by omega
           obtain ⟨_, h2 | ⟨ab, ao, rfl, hal, hac⟩⟩ := HAR.out
           . subst h2; simp at hjA
           obtain ⟨_, h2 | ⟨bb, bo, rfl, hbl, hbc⟩⟩ := HAR2.out
           . subst h2; simp at hn
           have ct := hac j t ht
           have cu := hbc n u hu
           simp only [zz] at ct cu
           have HPB := Hq (show zgu B pos A = if u ≠ t then 7 else zgu B (pos.drop (j + 1)) (A.drop (j + 1)) by
             rw [HPA.out, if_neg hr, show ((n : Int)).toNat = n from rfl, hu]
             simp only [ne_eq, Option.some.injEq])
           clear HPA hr hac hbc
           by_cases hut : u = t
           . subst hut
             have HPN := Hq (show zgw B pos A (j + 1) by unfold zgw; rw [HPB.out, if_neg (by simp)])
             have hq : (u != u) = false := by simp
             clear hk ht hu
             go_wp2_with fail
             go_quiet (fail)
             go_wp2_with fail
             go_roundw
             case rel => exact ⟨j + 1, by omega, by go_num, zbv HBR1.out _, HPN⟩
             case measure => simp [RowKit.intOf]; omega
           . have HE := Hq (show zgu B pos A = 7 by rw [HPB.out, if_pos hut])
             have hq : (u != t) = true := by simp [hut]
             have hq2 : (u == t) = false := by rw [beq_eq_false_iff_ne]; exact hut
             clear hk ht hu hut
             go_wp2_with fail
             go_quiet (fail)
             go_wp2_with fail
             go_ret2
             exact ⟨zbv HBR.out _, Or.inl ⟨by rw [HR2.out, HE.out]; show (7 : Int) ≠ 0; decide, by rw [HR2.out, HE.out]; exact ⟨_, rfl⟩⟩⟩
       . have HE := Hq (zus HP.out (by omega))
         go_wp2_with fail
         go_ret2
         refine ⟨HBR.out, Or.inr ⟨by rw [HR2.out]; exact HE.out, a2, cap2, by rw [HR2.out]; rfl, by rw [HR2.out]; exact HAR2.out⟩⟩
   . have HR2 := Hq (show zgr pos all A = (8, []) by rw [HR.out, if_pos hle])
     have hle1 : ((pos.length : Int) != (A.length : Int)) = true := by simp; omega
     have hle2 : (pos.length != A.length) = true := by simp; omega
     have hle3 : (pos.length == A.length) = false := by rw [beq_eq_false_iff_ne]; exact hle
     have hle4 : ((pos.length : Int) == (A.length : Int)) = false := by rw [beq_eq_false_iff_ne]; omega
     clear hle
     go_wp2_with fail
     go_ret2
     exact ⟨HB1.out, Or.inl ⟨by rw [HR2.out]; show (8 : Int) ≠ 0; decide, by rw [HR2.out]; exact ⟨_, rfl⟩⟩⟩
theorem zw7 (m : List UInt8) (hm : m.length <= 8388608) (pos : List Int) (pa : Option Addr) (pc : Nat) (all : List UInt8) (ha : all.length <= 8388608) (hp : pos.length <= 8388608) (w : World) (hv : zab w pa pc (pos.map (fun k => .int .i64 k))) :
   Calls Tryz.prog 56 #[.string ⟨⟨m⟩⟩, .slice pa pos.length pc, .string ⟨⟨all⟩⟩] w (zg0 w (zm2 m pos all)) := by
 obtain ⟨w1, hw1⟩ : ∃ w1, w1 = (w.alloc (.cells #[.slice pa pos.length pc] 22)).alloc (.cells #[.string ⟨⟨all⟩⟩] 9) := ⟨_, rfl⟩
 have hb1 : Below w.heap.size w w1 := by rw [hw1]; exact ze (ze (Below.refl _ _) _) _
 have hs1 : w1.heap.size = w.heap.size + 1 + 1 := by rw [hw1]; simp
 have c0 : w1.cell? ⟨w.heap.size, 0, none⟩ = some (.slice pa pos.length pc) := by rw [hw1]; simp
 have c1 : w1.cell? ⟨w.heap.size + 1, 0, none⟩ = some (.string ⟨⟨all⟩⟩) := by rw [hw1]; simp
 have hch := z6q m hm #[.pointer (some ⟨w.heap.size + 1, 0, none⟩), .pointer (some ⟨w.heap.size, 0, none⟩)] w1 (zgr pos all) (zul pos all) (fun A v W hA hl hb ho => zsu pos pa pc all ha hp (w.heap.size + 1) w.heap.size w1 (by omega) (by omega) c1 c0 (hv.below hb1) A v W hl hb ho)
 have HC := Hq hch
 have HB1 := Hq hb1
 have hmf : ∀ (fn : Fn) (first cap : Array Value) (w : World), (Instr.makeFunc fn first cap).run Tryz.prog w = .ok (.func fn first cap) w := fun _ _ _ _ => rfl
 clear hch hb1 hs1 c0 c1 hv
 go_enter Tryz.func56, Tryz.ntmps56
 go_wp2_with fail
 rw [<- hw1]
 refine HC.out.mono ?_
 rintro e w2 ⟨rfl, hb2⟩
 have HB2 := Hq (zc HB1.out hb2)
 clear hb2
 go_wp2_with fail
 go_ret2
 exact ⟨rfl, HB2.out⟩
def zry (r : Int × List (List UInt8)) (w : World) (e : Ending) (w' : World) : Prop :=
 Below w.heap.size w w' /\ ((r.1 ≠ 0 /\ e = .returned (.tuple #[.slice none 0 0, zby r.1])) \/ (r.1 = 0 /\ ∃ a cap, e = .returned (.tuple #[.slice a r.2.length cap, .nilIface]) /\ zdl w' a cap r.2))
theorem zrl (m s : List UInt8) (hm : m.length <= 8388608) (hs : s.length <= 8388608) (i : Int) (many : Nat) (w : World) :
   Calls Tryz.prog 57 #[.string ⟨⟨m⟩⟩, .string ⟨⟨s⟩⟩, .int .i64 i, .int .i64 (many : Int)] w (zry (zag m s i many) w) := by
 go_enter Tryz.func57, Tryz.ntmps57
 go_wp2_with fail
 refine (zat m hm _).mono ?_
 rintro e w1 ⟨hb1, ⟨rfl, hno⟩ | ⟨v, A, gv, rfl, hA, hown⟩⟩
 . have HR := Hq (show zag m s i many = (1, []) by unfold zag; rw [zen hno])
   clear hno
   go_wp2_with fail
   go_ret2
   exact ⟨hb1, Or.inl ⟨by rw [HR.out]; show (1 : Int) ≠ 0; decide, by rw [HR.out]; rfl⟩⟩
 . have HM := Hq (zce hA)
   obtain ⟨a, cap, rfl, hsr⟩ := zl hown
   have HA := Hq hsr
   have HB1 := Hq hb1
   have hl := hA.2.2.1
   clear hA hown hsr hb1
   by_cases hi : i < 0 \/ (A.length : Int) <= i
   . have HR := Hq (show zag m s i many = (2, []) by unfold zag; rw [HM.out]; simp only; rw [if_pos hi])
     rcases hi with hi | hi
     . go_wp2_with fail
       go_ret2
       exact ⟨HB1.out, Or.inl ⟨by rw [HR.out]; show (2 : Int) ≠ 0; decide, by rw [HR.out]; rfl⟩⟩
     . by_cases h0 : i < 0
       . exfalso; omega
       go_wp2_with fail
       go_ret2
       exact ⟨HB1.out, Or.inl ⟨by rw [HR.out]; show (2 : Int) ≠ 0; decide, by rw [HR.out]; rfl⟩⟩
   . obtain ⟨k, rfl⟩ : ∃ k : Nat, i = k := ⟨i.toNat, by omega⟩
     have hk : k < A.length := by omega
     have hk1 : ¬ (k : Int) < 0 := by omega
     have hk2 : ¬ (A.length : Int) <= (k : Int) := by omega
     have hk3 : (k : Int) < (A.length : Int) := by omega
     have HI := Hq hi
     clear hi
     go_wp2_with fail
     refine (zat s hs _).mono ?_
     rintro e w2 ⟨hb2, ⟨rfl, hno⟩ | ⟨v, T, g, rfl, hT, hown⟩⟩
     . have HR := Hq (show zag m s k many = (1, []) by unfold zag; rw [HM.out]; simp only; rw [if_neg HI.out, zen hno])
       clear hno
       go_wp2_with fail
       go_ret2
       exact ⟨zc HB1.out hb2, Or.inl ⟨by rw [HR.out]; show (1 : Int) ≠ 0; decide, by rw [HR.out]; rfl⟩⟩
     . have HR := Hq (show zag m s k many = if T.length ≠ many then (8, []) else if A[k]? ≠ some g then (7, []) else (0, T) by unfold zag; rw [HM.out]; simp only; rw [if_neg HI.out, zce hT]; rfl)
       obtain ⟨a2, cap2, rfl, hsr2⟩ := zl hown
       have HT := Hq hsr2
       have HB2 := Hq (zc HB1.out hb2)
       have HA2 := Hq (HA.out.below hb2)
       clear hT hown hsr2 hb2
       by_cases hn : T.length = many
       . have HN := Hq hn
         have hn1 : ((T.length : Int) != (many : Int)) = false := by simp; omega
         have hn2 : (T.length != many) = false := by simp; omega
         clear hn
         obtain ⟨t, ht⟩ : ∃ t, A[k]? = some t := ⟨_, List.getElem?_eq_getElem hk⟩
         obtain ⟨_, h2 | ⟨ab, ao, rfl, hal, hac⟩⟩ := HA2.out
         . subst h2; simp at hk
         have ct := hac k t ht
         simp only [zz] at ct
         by_cases hgt : g = t
         . subst hgt
           have HR2 := Hq (show zag m s k many = (0, T) by rw [HR.out, if_neg (by simpa using HN.out), ht, if_neg (by simp)])
           have hq : (g != g) = false := by simp
           clear ht hac
           go_wp2_with fail
           go_ret2
           exact ⟨HB2.out, Or.inr ⟨by rw [HR2.out], a2, cap2, by rw [HR2.out]; rfl, by rw [HR2.out]; exact HT.out⟩⟩
         . have HR2 := Hq (show zag m s k many = (7, []) by rw [HR.out, if_neg (by simpa using HN.out), ht, if_pos (by simpa using fun e => hgt e.symm)])
           have hq : (g != t) = true := by simp [hgt]
           have hq2 : (g == t) = false := by rw [beq_eq_false_iff_ne]; exact hgt
           clear ht hac hgt
           go_wp2_with fail
           go_ret2
           exact ⟨HB2.out, Or.inl ⟨by rw [HR2.out]; show (7 : Int) ≠ 0; decide, by rw [HR2.out]; rfl⟩⟩
       . have HR2 := Hq (show zag m s k many = (8, []) by rw [HR.out, if_pos hn])
         have hn1 : ((T.length : Int) != (many : Int)) = true := by simp; omega
         have hn2 : (T.length != many) = true := by simp; omega
         have hn3 : (T.length == many) = false := by rw [beq_eq_false_iff_ne]; exact hn
         have hn4 : ((T.length : Int) == (many : Int)) = false := by rw [beq_eq_false_iff_ne]; omega
         clear hn
         go_wp2_with fail
         go_ret2
         exact ⟨HB2.out, Or.inl ⟨by rw [HR2.out]; show (8 : Int) ≠ 0; decide, by rw [HR2.out]; rfl⟩⟩
def z5i (z : Int) : Option Value := if 1 <= z /\ z <= 7 then some (.int .i64 (zb1 z : Nat)) else none
theorem zep {w0 w w' : World} {b : Nat} (h : Below w0.heap.size w0 w) (hg : w.grownBy w' (some b)) (hb : w0.heap.size <= b) : Below w0.heap.size w0 w' :=
 h.grown hg h.size (fun k hk => by cases hk; exact hb)
theorem zxa (w : World) : Calls Tryz.prog 53 #[] w fun e w' => ∃ m, e = .returned (.map (some m)) /\ zc7 w' m 7 z5i /\ Below w.heap.size w w' := by
 have h0 := zc7.made w
 obtain ⟨w1, r1, h1, g1⟩ := h0.store (P := Tryz.prog) Tryz.underlying3 Tryz.underlying118 (z := 1) (by decide) (by simp [zow]) (.int .i64 0)
 obtain ⟨w2, r2, h2, g2⟩ := h1.store (P := Tryz.prog) Tryz.underlying3 Tryz.underlying118 (z := 2) (by decide) (by simp [zow]) (.int .i64 0)
 obtain ⟨w3, r3, h3, g3⟩ := h2.store (P := Tryz.prog) Tryz.underlying3 Tryz.underlying118 (z := 3) (by decide) (by simp [zow]) (.int .i64 0)
 obtain ⟨w4, r4, h4, g4⟩ := h3.store (P := Tryz.prog) Tryz.underlying3 Tryz.underlying118 (z := 4) (by decide) (by simp [zow]) (.int .i64 1)
 obtain ⟨w5, r5, h5, g5⟩ := h4.store (P := Tryz.prog) Tryz.underlying3 Tryz.underlying118 (z := 5) (by decide) (by simp [zow]) (.int .i64 2)
 obtain ⟨w6, r6, h6, g6⟩ := h5.store (P := Tryz.prog) Tryz.underlying3 Tryz.underlying118 (z := 6) (by decide) (by simp [zow]) (.int .i64 1)
 obtain ⟨w7, r7, h7, g7⟩ := h6.store (P := Tryz.prog) Tryz.underlying3 Tryz.underlying118 (z := 7) (by decide) (by simp [zow]) (.int .i64 2)
 have b0 : Below w.heap.size w (w.alloc (.map #[] 0)) := ze (Below.refl _ _) _
 have b1 := zep b0 g1 (Nat.le_refl _)
 have b2 := zep b1 g2 (Nat.le_refl _)
 have b3 := zep b2 g3 (Nat.le_refl _)
 have b4 := zep b3 g4 (Nat.le_refl _)
 have b5 := zep b4 g5 (Nat.le_refl _)
 have b6 := zep b5 g6 (Nat.le_refl _)
 have b7 := zep b6 g7 (Nat.le_refl _)
 have hf : zc7 w7 w.heap.size 7 z5i := h7.cong (by omega) (fun z => by
   unfold z5i zb1
   by_cases e1 : z = 1
   . subst e1; rfl
   by_cases e2 : z = 2
   . subst e2; rfl
   by_cases e3 : z = 3
   . subst e3; rfl
   by_cases e4 : z = 4
   . subst e4; rfl
   by_cases e5 : z = 5
   . subst e5; rfl
   by_cases e6 : z = 6
   . subst e6; rfl
   by_cases e7 : z = 7
   . subst e7; rfl
   rw [if_neg (by omega)]
   simp [zow, e1, e2, e3, e4, e5, e6, e7])
 have HF := Hq hf
 have HB := Hq b7
 have m1 := run_makeMap (P := Tryz.prog) 118
 clear h0 h1 h2 h3 h4 h5 h6 h7 g1 g2 g3 g4 g5 g6 g7 b0 b1 b2 b3 b4 b5 b6 b7 hf
 go_enter Tryz.func53, Tryz.ntmps53
 go_wp2_with fail
 go_ret
 exact ⟨_, rfl, HF.out, HB.out⟩
theorem ziq (t : List UInt8) (w : World) : Calls Tryz.prog 98 #[.string ⟨⟨t⟩⟩] w fun e w' => e = .returned (.bool (zdb t)) /\ w = w' := by
 by_cases h1 : t = [73]
 . subst h1
   go_enter Tryz.func98, Tryz.ntmps98
   go_wp2_with fail
   go_ret
   exact ⟨rfl, rfl⟩
 . have q1 : (t == [73]) = false := by rw [beq_eq_false_iff_ne]; exact h1
   unfold zdb
   rw [q1]
   clear h1
   go_enter Tryz.func98, Tryz.ntmps98
   go_wp2_with fail
   go_ret
   exact ⟨by simp, rfl⟩
theorem zef {t : List UInt8} (h : t = [73] \/ t = [74]) : zi t := by
 refine ⟨[], t, rfl, by simp, by simp, ?_⟩
 rcases h with rfl | rfl
 . exact Or.inl rfl
 . exact Or.inr (Or.inl rfl)
theorem zvd (a : Int) (w : World) : Calls Tryz.prog 16 #[.int .i64 a] w fun e w' => e = .returned (.int .i64 (wrap32 a)) /\ w = w' := by
 go_enter Tryz.func16, Tryz.ntmps16
 go_wp2_with fail
 go_ret
 exact ⟨by simp [wrap32]; unfold wrap64; omega, rfl⟩
theorem z3i (k : Int) (t : List UInt8) (a : Int) (pa : Option Addr) (n pc : Nat) (sa : Option Addr) (m sc : Nat) (w : World) (h : zdb t = false) :
   Calls Tryz.prog 54 #[.agg #[.int .i64 k, .string ⟨⟨t⟩⟩, .int .i64 a, .slice pa n pc, .slice sa m sc]] w (zg0 w (zak k t a)) := by
 have HN := Hq (fun w => ziq t w)
 have HR := Hq (show zak k t a = (1, []) by unfold zak; rw [h]; rfl)
 rw [h] at HN
 have HB := Hq (fun o => ze (Below.refl w.heap.size w) o)
 clear h
 go_enter Tryz.func54, Tryz.ntmps54
 go_wp2_with fail
 refine (HN.out _).mono ?_
 rintro e w1 ⟨rfl, rfl⟩
 go_wp2_with fail
 go_ret2
 exact ⟨by rw [HR.out]; rfl, HB.out _⟩
theorem zts (W : World) (t u : List UInt8) (g : Nat) (hg : g = W.heap.size) : zdl (W.alloc (.cells #[.string ⟨⟨t⟩⟩, .string ⟨⟨u⟩⟩] 9)) (some ⟨g, 0, none⟩) 2 [t] := by
 subst hg
 refine ⟨by simp, Or.inr ⟨_, 0, rfl, by simp, fun j x hx => ?_⟩⟩
 have hj : j < 1 := by simpa using (List.getElem?_eq_some_iff.1 hx).1
 obtain rfl : j = 0 := by omega
 rw [World.cell?_alloc_new]
 simp at hx
 subst hx
 rfl
theorem zuv (W : World) (t u : List UInt8) (g : Nat) (hg : g = W.heap.size) : zdl (W.alloc (.cells #[.string ⟨⟨t⟩⟩, .string ⟨⟨u⟩⟩] 9)) (some ⟨g, 0, none⟩) 2 [t, u] := by
 subst hg
 refine ⟨by simp, Or.inr ⟨_, 0, rfl, by simp, fun j x hx => ?_⟩⟩
 have hj : j < 2 := by simpa using (List.getElem?_eq_some_iff.1 hx).1
 rw [World.cell?_alloc_new, Nat.zero_add]
 rcases (show j = 0 \/ j = 1 by omega) with rfl | rfl
 . simp at hx; subst hx; rfl
 . simp at hx; subst hx; rfl
theorem zjh {t : List UInt8} (ht : t = [73] \/ t = [74]) (w : World) : Calls Tryz.prog 98 #[.string ⟨⟨t⟩⟩] w fun e w' => e = .returned (.bool true) /\ w = w' := by
 have h := ziq t w
 rw [show zdb t = true by rcases ht with rfl | rfl <;> rfl] at h
 exact h
theorem zg2 (L : List (List UInt8)) (a : Option Addr) (n cap : Nat) (t : List UInt8) (w : World) (hn : n = L.length) (h : zdl w a cap L) (hl : L.length <= 5) (hA : ∀ x ∈ L, zi x) (ht : t = [73] \/ t = [74]) :
   Calls Tryz.prog 99 #[.slice a n cap, .string ⟨⟨t⟩⟩] w fun e w' => e = .returned (.tuple #[.string ⟨⟨zaz L t⟩⟩, .nilIface]) /\ Below w.heap.size w w' := by
 subst hn
 exact zlt L a cap t w h hl hA (Or.inr (zef ht))
theorem zph (w : World) (o p : Obj) (n : Nat) : Below w.heap.size w (((w.alloc o).drewN n).alloc p) := (zbv (ze (Below.refl _ _) o) n).alloc (by show w.heap.size <= (w.alloc o).heap.size; simp) p
theorem z3k (t : List UInt8) (ht : t = [73] \/ t = [74]) (a : Int) (pa : Option Addr) (n pc : Nat) (sa : Option Addr) (m sc : Nat) (w : World) :
   Calls Tryz.prog 54 #[.agg #[.int .i64 1, .string ⟨⟨t⟩⟩, .int .i64 a, .slice pa n pc, .slice sa m sc]] w (zg0 w (zak 1 t a)) := by
 have HN := Hq (fun w => zjh ht w)
 have HB := Hq (fun o => ze (Below.refl w.heap.size w) o)
 have HB2 := Hq (zph w)
 have HW := Hq (fun w => zvd a w)
 have HK := Hq (fun w => zg2 [] none 0 0 t w rfl ⟨by simp, Or.inl rfl⟩ (by simp) (by simp) ht)
 rcases ht with rfl | rfl
 . by_cases ha : a = wrap32 a
   . have HR := Hq (show zak 1 [73] a = (0, zaz [] [73]) by unfold zak; rw [if_neg (by simp [zdb]), if_neg (by simp [<- ha])]; rfl)
     have q1 : (a != wrap32 a) = false := by simp [<- ha]
     clear ha
     generalize wrap32 a = aw at *
     go_enter Tryz.func54, Tryz.ntmps54
     go_wp2_with fail
     refine (HN.out _).mono ?_
     rintro e w1 ⟨rfl, rfl⟩
     go_wp2_with fail
     go_quiet (exact (HW.out _).mono (fun e w1 h => by obtain ⟨rfl, rfl⟩ := h; exact ⟨rfl, _, rfl⟩))
     go_wp2_with fail
     refine (HK.out _).mono ?_
     rintro e w2 ⟨rfl, hb2⟩
     go_wp2_with fail
     go_ret2
     exact ⟨by rw [HR.out]; rfl, (HB2.out _ _ _).trans (hb2.mono (HB2.out _ _ _).size)⟩
   . have HR := Hq (show zak 1 [73] a = (2, []) by unfold zak; rw [if_neg (by simp [zdb]), if_pos (by simp [ha])])
     have q1 : (a != wrap32 a) = true := by simp [ha]
     clear ha
     generalize wrap32 a = aw at *
     go_enter Tryz.func54, Tryz.ntmps54
     go_wp2_with fail
     refine (HN.out _).mono ?_
     rintro e w1 ⟨rfl, rfl⟩
     go_wp2_with fail
     go_quiet (exact (HW.out _).mono (fun e w1 h => by obtain ⟨rfl, rfl⟩ := h; exact ⟨rfl, _, rfl⟩))
     go_wp2_with fail
     go_ret2
     exact ⟨by rw [HR.out]; rfl, zbv (HB.out _) _⟩
 . have HR := Hq (show zak 1 [74] a = (0, zaz [] [74]) by unfold zak; rw [if_neg (by simp [zdb]), if_neg (by simp)]; rfl)
   go_enter Tryz.func54, Tryz.ntmps54
   go_wp2_with fail
   refine (HN.out _).mono ?_
   rintro e w1 ⟨rfl, rfl⟩
   go_wp2_with fail
   go_quiet (fail)
   go_wp2_with fail
   refine (HK.out _).mono ?_
   rintro e w2 ⟨rfl, hb2⟩
   go_wp2_with fail
   go_ret2
   exact ⟨by rw [HR.out]; rfl, (HB2.out _ _ _).trans (hb2.mono (HB2.out _ _ _).size)⟩
theorem z2h (t : List UInt8) (ht : t = [73] \/ t = [74]) (a : Int) (pa : Option Addr) (n pc : Nat) (sa : Option Addr) (m sc : Nat) (w : World) :
   Calls Tryz.prog 54 #[.agg #[.int .i64 2, .string ⟨⟨t⟩⟩, .int .i64 a, .slice pa n pc, .slice sa m sc]] w (zg0 w (zak 2 t a)) := by
 have HN := Hq (fun w => zjh ht w)
 have HB2 := Hq (zph w)
 have HK := Hq (fun (W : World) (g : Nat) (hg : g = W.heap.size) => zg2 [t] (some ⟨g, 0, none⟩) 1 2 t _ rfl (zts W t t g hg) (by simp) (by simpa using zef ht) ht)
 have HR := Hq (show zak 2 t a = (0, zaz [t] t) by
   unfold zak
   rw [if_neg (by rcases ht with rfl | rfl <;> simp [zdb]), if_neg (by simp)]
   rfl)
 clear ht
 go_enter Tryz.func54, Tryz.ntmps54
 go_wp2_with fail
 refine (HN.out _).mono ?_
 rintro e w1 ⟨rfl, rfl⟩
 go_wp2_with fail
 go_quiet (fail)
 go_wp2_with fail
 refine (HK.out _ _ (by simp)).mono ?_
 rintro e w2 ⟨rfl, hb2⟩
 go_wp2_with fail
 go_ret2
 exact ⟨by rw [HR.out]; rfl, (HB2.out _ _ _).trans (hb2.mono (HB2.out _ _ _).size)⟩
theorem zwu (t : List UInt8) (ht : t = [73] \/ t = [74]) (a : Int) (pa : Option Addr) (n pc : Nat) (sa : Option Addr) (m sc : Nat) (w : World) :
   Calls Tryz.prog 54 #[.agg #[.int .i64 3, .string ⟨⟨t⟩⟩, .int .i64 a, .slice pa n pc, .slice sa m sc]] w (zg0 w (zak 3 t a)) := by
 have HN := Hq (fun w => zjh ht w)
 have HB := Hq (fun o => ze (Below.refl w.heap.size w) o)
 have HB2 := Hq (zph w)
 have hnt : zdb t = true := by rcases ht with rfl | rfl <;> rfl
 by_cases hr : a < 1 \/ 12 < a
 . have HR := Hq (show zak 3 t a = (1, []) by unfold zak; rw [if_pos (by rw [hnt]; simp; exact hr)])
   clear ht hnt
   rcases hr with hr | hr
   . have q : decide (a < 1) = true := by simp [hr]
     go_enter Tryz.func54, Tryz.ntmps54
     go_wp2_with fail
     refine (HN.out _).mono ?_
     rintro e w1 ⟨rfl, rfl⟩
     go_wp2_with fail
     go_ret2
     exact ⟨by rw [HR.out]; rfl, HB.out _⟩
   . have q : ¬ a < 1 := by omega
     go_enter Tryz.func54, Tryz.ntmps54
     go_wp2_with fail
     refine (HN.out _).mono ?_
     rintro e w1 ⟨rfl, rfl⟩
     go_wp2_with fail
     go_ret2
     exact ⟨by rw [HR.out]; rfl, HB.out _⟩
 . have HRR := Hq (show zak 3 t a = (0, zaz (zcf 3 t a) t) by unfold zak; rw [if_neg (by rw [hnt]; simp; omega), if_neg (by simp)])
   have q1 : ¬ a < 1 := by omega
   have q2 : ¬ 12 < a := by omega
   have q3 : (decide (a < 1)) = false := by simp; omega
   have q4 : (decide (12 < a)) = false := by simp; omega
   clear hr hnt
   by_cases h12 : a = 12
   . subst h12
     have HR := Hq (show zak 3 t 12 = (0, zaz [t] t) from HRR.out)
     have HK := Hq (fun (W : World) (g : Nat) (hg : g = W.heap.size) => zg2 [t] (some ⟨g, 0, none⟩) 1 2 t _ rfl (zts W t t g hg) (by simp) (by simpa using zef ht) ht)
     clear ht HRR
     go_enter Tryz.func54, Tryz.ntmps54
     go_wp2_with fail
     refine (HN.out _).mono ?_
     rintro e w1 ⟨rfl, rfl⟩
     go_wp2_with fail
     go_quiet (fail)
     go_wp2_with fail
     refine (HK.out _ _ (by simp)).mono ?_
     rintro e w2 ⟨rfl, hb2⟩
     go_wp2_with fail
     go_ret2
     exact ⟨by rw [HR.out]; rfl, (HB2.out _ _ _).trans (hb2.mono (HB2.out _ _ _).size)⟩
   . have q5 : (a == 12) = false := by rw [beq_eq_false_iff_ne]; exact h12
     by_cases h9 : 9 <= a /\ a <= 11
     . have HR := Hq (show zak 3 t a = (0, zaz [t, [73]] t) by rw [HRR.out]; unfold zcf; rw [if_neg (by decide), if_neg (by omega), if_pos h9])
       have HK := Hq (fun (W : World) (g : Nat) (hg : g = W.heap.size) => zg2 [t, [73]] (some ⟨g, 0, none⟩) 2 2 t _ rfl (zuv W t [73] g hg) (by simp) (by simp; exact ⟨zef ht, zef (Or.inl rfl)⟩) ht)
       have q6 : decide (9 <= a) = true := by simp; omega
       have q7 : decide (a <= 11) = true := by simp; omega
       obtain ⟨q8, q9⟩ := h9
       clear ht HRR
       go_enter Tryz.func54, Tryz.ntmps54
       go_wp2_with fail
       refine (HN.out _).mono ?_
       rintro e w1 ⟨rfl, rfl⟩
       go_wp2_with fail
       go_quiet (fail)
       go_wp2_with fail
       refine (HK.out _ _ (by simp)).mono ?_
       rintro e w2 ⟨rfl, hb2⟩
       go_wp2_with fail
       go_ret2
       exact ⟨by rw [HR.out]; rfl, (HB2.out _ _ _).trans (hb2.mono (HB2.out _ _ _).size)⟩
     . have HR := Hq (show zak 3 t a = (0, zaz [t, t] t) by rw [HRR.out]; unfold zcf; rw [if_neg (by decide), if_neg (by omega), if_neg h9])
       have HK := Hq (fun (W : World) (g : Nat) (hg : g = W.heap.size) => zg2 [t, t] (some ⟨g, 0, none⟩) 2 2 t _ rfl (zuv W t t g hg) (by simp) (by simp; exact zef ht) ht)
       have hc : a < 9 \/ 11 < a := by omega
       clear ht HRR h9
       rcases hc with hc | hc
       . have q6 : decide (9 <= a) = false := by simp; omega
         have q8 : ¬ 9 <= a := by omega
         go_enter Tryz.func54, Tryz.ntmps54
         go_wp2_with fail
         refine (HN.out _).mono ?_
         rintro e w1 ⟨rfl, rfl⟩
         go_wp2_with fail
         go_quiet (fail)
         go_wp2_with fail
         refine (HK.out _ _ (by simp)).mono ?_
         rintro e w2 ⟨rfl, hb2⟩
         go_wp2_with fail
         go_ret2
         exact ⟨by rw [HR.out]; rfl, (HB2.out _ _ _).trans (hb2.mono (HB2.out _ _ _).size)⟩
       . exfalso; omega
end Go.Proofs.YtbnkckjdgpiggaaGreatDoor
