import Derived.Test.YtbnkckjdgpiggaaGreatDoorRx
import Derived.Test.YtbnkckjdgpiggaaGreatDoorRy
import Derived.Test.YtbnkckjdgpiggaaGreatDoorRe
import Derived.Test.YtbnkckjdgpiggaaGreatDoorMka
namespace Go.Proofs.YtbnkckjdgpiggaaGreatDoor
set_option linter.unusedVariables false
set_option linter.unusedSimpArgs false
open Go.RowKit Go.Shelf Go.Lib Go.Sort
def zp1 : Nm := [77, 97, 105, 110]
def tmN : Nm := [109, 97, 105, 110]
def tcM (c : List zal) (g : Nm) : zo := ⟨tmN, 40 :: 41 :: g, true, false, false, 8, c, []⟩
def tcC (c : List zal) (g : Nm) : zd := ⟨zp1, zbq, [], false, [], [tcM c g]⟩
abbrev ze1 : zal := ⟨27, 0, 0, [], [], []⟩
theorem z40 (c : List zal) (g : Nm) (p : zbf) : zbj (wcp [tcC c g] [p]) zp1 = some (tcC c g, p) := by
 simp [zbj, wcp, zg4, zhy, zoc, zbq, ztl, tcC, zp1]
theorem z9b (c : List zal) {g : Nm} (h : zdb g = true) : zk (tcM c g).ty [] g := ⟨rfl, by simp, by simp, Or.inr (zue h)⟩
theorem z7c {c : List zal} {g : Nm} (h : zej [tcC c g] = 0) : c.length <= 40 := by
 unfold zej at h
 split at h
 . rename_i e
   exact absurd h e
 . rename_i e
   have hg := (zgs _).1 (by simpa using e)
   exact (zoo hg (c := tcC c g) (by simp) (m := tcM c g) (by simp [tcC]) rfl).flow.len
theorem z32 {c : List zal} {g : Nm} (hg : zdb g = true) (hc : ∀ x ∈ c, z05 x \/ x = ze1) (hl : c.length <= 10000) : zl9 [tcC c g] := by
 have hgl : g.length <= 1 := by
   unfold zdb at hg
   rw [Bool.or_eq_true, beq_iff_eq, beq_iff_eq] at hg
   rcases hg with rfl | rfl <;> simp
 intro d hd
 rw [List.mem_singleton.1 hd]
 refine ⟨⟨by simp [tcC], by simp [tcC], by simp [tcC], fun f hf => by simp [tcC] at hf, fun m hm => ?_⟩, ?_⟩
 . have : m = tcM c g := by simpa [tcC] using hm
   subst this
   refine ⟨by simp [tcM]; omega, by simp [tcM]; omega, by simp [tcM], fun x hx => ?_⟩
   rcases hc x hx with h | rfl
   . have := h.1
     exact ⟨by omega, by rcases h.2.2.2.2.2.2 with e | e <;> simp [OpK, e]⟩
   . simp [OpK]
 . refine ⟨by simp [tcC, zp1], by simp [tcC, zbq], fun f hf => by simp [tcC] at hf, fun f hf => by simp [tcC] at hf, fun m hm => ?_⟩
   have : m = tcM c g := by simpa [tcC] using hm
   subst this
   refine ⟨by unfold I64; simp [tcM], fun x hx => ?_, fun x hx => by simp [tcM] at hx, by simp [tcM, tmN], by simp [tcM]; omega⟩
   rcases hc x hx with h | rfl
   . exact ⟨h.2.1, by rw [h.2.2.1]; unfold I64; omega⟩
   . unfold z88 I64; simp
def vR (p : Int × Int) : zbz := ⟨p.1, p.2⟩
theorem zll (t : Nm) (w : World) : Calls Tryz.prog 137 #[.string ⟨⟨t⟩⟩] w fun e w' => e = .returned (.int .i64 (kdT t)) /\ w = w' := by
 by_cases h : t = [73]
 . subst h
   exact zrf w
 . have q : (t == [73]) = false := by rw [beq_eq_false_iff_ne]; exact h
   have hk : kdT t = 2 := if_neg h
   rw [hk]
   clear h hk
   go_enter Tryz.func137, Tryz.ntmps137
   go_wp2_with fail
   go_ret
   exact ⟨rfl, rfl⟩
theorem z0y {t : Nm} {i a b r : Int} (ht : zdb t = true) (h1 : 1 <= i) (h2 : i <= 12) (h : ofO t i a b = some r) (w : World) : Calls Tryz.prog 36 #[.string ⟨⟨t⟩⟩, .int .i64 i, .int .i64 a, .int .i64 b] w fun e w' => e = .returned (.tuple #[.int .i64 r, .bool true]) /\ w = w' := by
 unfold ofO at h
 split at h
 . rename_i hb
   refine (zqc t (by unfold zdb at ht; simpa using ht) i h1 h2 a b w).mono ?_
   rintro e w' ⟨rfl, hw⟩
   rw [hb, Option.some.inj h]
   exact ⟨rfl, hw⟩
 . cases h
theorem z6o {W0 : World} {k : MK} {i : Nat} {s : Int} {lo : List zbz} {st st' : List (Int × Int)} {X : List zau} {x : zal} (hC : zcy W0 k.q.ca k.q.cc k.m.code) (hx : k.m.code[i]? = some x) (hml : k.m.code.length <= 1000) (hin : z05 x) (hst : st.length <= 800) (h : z03 ofO x st st') :
   ∀ W, MSt W0 k s i lo (st.map vR) X W -> zz3 k W (MSt W0 k s (i + 1) lo (st'.map vR) X) := by
 have hi : i <= 1000 := by have := (List.getElem?_eq_some_iff.1 hx).1; omega
 cases h with
 | push t a st =>
   intro W hW
   rw [List.map_append]
   exact zfo (p := i) (p' := i + 1) (zd6 t a) hC hx hml rfl rfl rfl rfl rfl
     (fun W' sq hh => ztf _ _ _ _ _ _ i a 0 lo _ [] [] _ sq W' hh hi (by simp; omega) (kdT t) t (fun W => zll t W)) (fun W' => z2y _ _ a 0 t [] [] W') W hW
 | neg t y n st ho =>
   intro W hW
   rw [List.map_append] at hW |-
   exact zfo (p := i) (p' := i + 1) (zgz t 12) hC hx hml rfl rfl rfl rfl rfl
     (fun W' sq hh => zyh _ _ _ _ _ _ i lo (st.map vR) (vR y) 0 [] [] _ sq W' hh hi (by simp at hst |-; omega) (kdT t) n t (fun W => z0y (hin.2.2.2.2.2.1 rfl).1 (by omega) (by omega) ho W) (fun W => zll t W)) (fun W' => zpl _ _ 12 0 t [] [] W') W hW
 | math t a y z n st ha ho =>
   intro W hW
   rw [List.map_append] at hW |-
   rw [List.map_append] at hW
   have h12 : (a == 12) = false := by rw [beq_eq_false_iff_ne]; exact ha
   obtain ⟨ot, o1, o2⟩ := hin.2.2.2.2.2.1 rfl
   exact zfo (p := i) (p' := i + 1) (zgz t a) hC hx hml rfl rfl rfl rfl rfl
     (fun W' sq hh => znl _ _ _ _ _ _ i lo (st.map vR) (vR y) (vR z) 0 [] [] _ sq W' hh hi (by simp at hst |-; omega) a (kdT t) n t h12 (fun W => z0y ot o1 o2 ho W) (fun W => zll t W)) (fun W' => zpl _ _ a 0 t [] [] W') W hW
theorem z73 (c : List zal) (g : Nm) (kd r : Int) (hin : ∀ x ∈ c, z05 x) (hl : c.length <= 100) (hr : zro ofO c [] [(kd, r)]) (W0 w : World) (K c9 lb cs cc b : Nat) (cl : Nm) (q : zaf) (lq : HA) (lo : List zbz) (hM : zd7 W0 w K c9 lb cs cc b (.slice none 0 0) 0 cl (tcM (c ++ [ze1]) g) q 0 lo [] lq (none, 0)) (hC : zcy W0 q.ca q.cc (c ++ [ze1])) :
   Calls Tryz.prog 27 #[.pointer (some ⟨K, 0, none⟩), .int .i64 1000] w fun e w' => e = .returned .nilIface /\ (∃ hv cv, Blk w' K 86 (zbo b hv cv kd r [] ((c.length + 1 : Nat) : Int) true)) /\ zci w w' /\ Below W0.heap.size W0 w' := by
 obtain ⟨f, f0, f1, f2⟩ := zwt hr
 obtain ⟨k, hk⟩ : ∃ k : MK, k = ⟨K, c9, lb, cs, cc, b, cl, tcM (c ++ [ze1]) g, q, lq⟩ := ⟨_, rfl⟩
 have hcode : zcy W0 k.q.ca k.q.cc k.m.code := by rw [hk]; exact hC
 have hkm : k.m.code = c ++ [ze1] := by rw [hk]; rfl
 have hml : k.m.code.length <= 1000 := by rw [hkm]; simp; omega
 have h0 : MSt W0 k 0 0 lo ((f 0).map vR) [] w := by rw [hk, f0]; exact ⟨_, _, [], hM, ztt.start _ _ _ _⟩
 have key := zq5 (W0 := W0) (k := k) (c.length + 1) (fun i => i) (fun _ => lo) (fun i => (f i).map vR) (fun _ => []) 1000 kd r [] w (by omega) (by omega) (by omega) h0 (fun i hi W h => ?_) (fun W h => ?_)
 . rw [hk] at key
   exact key
 . have hic : i < c.length := by omega
   have hx : c[i]? = some c[i] := List.getElem?_eq_getElem hic
   have hm := hin _ (List.mem_of_getElem? hx)
   exact z6o hcode (by rw [hkm, List.getElem?_append_left hic]; exact hx) hml hm (by have := znp f0 f2 i (by omega); omega) (f2 i _ hx) W h
 . have h : MSt W0 k ((c.length + 1 : Nat) : Int) c.length lo [vR (kd, r)] [] W := by
     have e : (f c.length).map vR = [vR (kd, r)] := by rw [f1]; rfl
     rw [<- e]
     exact h
   exact ztq (p := c.length) (v := vR (kd, r)) ze1 hcode (by rw [hkm]; simp) hml rfl W h
end Go.Proofs.YtbnkckjdgpiggaaGreatDoor
