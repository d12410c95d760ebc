import Derived.Test.YtbnkckjdgpiggaaGreatDoorHx
namespace Go.Proofs.YtbnkckjdgpiggaaGreatDoor
set_option linter.unusedVariables false
set_option linter.unusedSimpArgs false
open Go.Lib Go.RowKit
inductive RH : Hd -> List Nm -> Nm -> Prop
 | const (h : Hd) (hk : h.kind = 1) (ht : zdb h.ty = true) (hr : h.ty = [73] -> h.a = wrap32 h.a) : RH h [] h.ty
 | same (h : Hd) (hk : h.kind = 2) (ht : zdb h.ty = true) : RH h [h.ty] h.ty
 | math (h : Hd) (hk : h.kind = 3) (ht : zdb h.ty = true) (ha : 1 <= h.a /\ h.a <= 12) : RH h (zcf 3 h.ty h.a) h.ty
 | drop (h s : Hd) (A : List Nm) (g : Nm) (i : Nat) (hk : h.kind = 4) (hs : h.subs = [s]) (hr : RH s A g) (h5 : A.length <= 5) (hi : h.a = i) (hil : i <= A.length) : RH h (A.take i ++ h.ty :: A.drop i) g
 | bind (h s t : Hd) (A : List Nm) (g g2 : Nm) (i : Nat) (hk : h.kind = 5) (hs : h.subs = [s, t]) (hr : RH s A g) (h5 : A.length <= 5) (hr2 : RH t [] g2) (hi : h.a = i) (hA : A[i]? = some g2) : RH h (A.eraseIdx i) g
 | perm (h s : Hd) (A : List Nm) (g : Nm) (B : List Nm) (hk : h.kind = 6) (hs : h.subs = [s]) (hr : RH s A g) (h5 : A.length <= 5) (hl : h.pos.length = A.length) (hp : zgu B h.pos A = 0) : RH h B g
 | filter (h s t : Hd) (A : List Nm) (g u g2 : Nm) (i : Nat) (hk : h.kind = 7) (hs : h.subs = [s, t]) (hr : RH s A g) (h5 : A.length <= 5) (hr2 : RH t [u] g2) (hi : h.a = i) (hA : A[i]? = some g2) : RH h (A.set i u) g
theorem zjc {A : List Nm} {g : Nm} (h1 : ∀ t ∈ A, zi t) (h2 : A.length <= 5) (h3 : zf4 g) : zk (zaz A g) A g := ⟨rfl, h1, h2, h3⟩
theorem zue {t : Nm} (h : zdb t = true) : zi t := by
 unfold zdb at h
 rw [Bool.or_eq_true, beq_iff_eq, beq_iff_eq] at h
 rcases h with rfl | rfl
 . exact ⟨[], [73], rfl, by simp, by simp, Or.inl rfl⟩
 . exact ⟨[], [74], rfl, by simp, by simp, Or.inr (Or.inl rfl)⟩
theorem zkv {m t : Nm} {r : List Nm -> Int × List Nm} (h : chF m r = (0, t)) : ∃ A g, zk m A g /\ (r A).1 = 0 /\ (r A).2.length <= 5 /\ t = zaz (r A).2 g := by
 unfold chF at h
 cases hm : zni m with
 | none => rw [hm] at h; simp at h
 | some p =>
   obtain ⟨A, g⟩ := p
   rw [hm] at h
   simp only at h
   split at h
   . rename_i h1
     exact absurd (congrArg Prod.fst h) h1
   . rename_i h1
     split at h
     . simp at h
     . rename_i h2
       exact ⟨A, g, zgm hm, by simpa using h1, by omega, (congrArg Prod.snd h).symm⟩
def zbw (of : Nm -> Int -> Int -> Int -> Option Int) : Nat -> Hd -> List Int -> Option Int
 | 0, _, _ => none
 | n + 1, h, v =>
   if h.kind = 1 then some h.a
   else if h.kind = 3 then of h.ty h.a (v.getD 0 0) (v.getD (v.length - 1) 0)
   else if h.kind = 4 then (h.subs[0]?).elim none fun s => zbw of n s (v.eraseIdx h.a.toNat)
   else if h.kind = 5 then (h.subs[1]?).elim none fun t => (zbw of n t []).elim none fun x => (h.subs[0]?).elim none fun s => zbw of n s (v.take h.a.toNat ++ x :: v.drop h.a.toNat)
   else if h.kind = 6 then (h.subs[0]?).elim none fun s => zbw of n s (h.pos.map fun k => v.getD k.toNat 0)
   else if h.kind = 7 then (h.subs[1]?).elim none fun t => (zbw of n t [v.getD h.a.toNat 0]).elim none fun x => (h.subs[0]?).elim none fun s => zbw of n s (v.set h.a.toNat x)
   else some (v.getD 0 0)
def zd6 (t : Nm) (a : Int) : zal := ⟨2, a, 0, t, [], []⟩
def zgz (t : Nm) (a : Int) : zal := ⟨9, a, 0, t, [], []⟩
def zam : Nat -> Hd -> List (List zal) -> List zal
 | 0, _, _ => []
 | n + 1, h, c =>
   if h.kind = 1 then [zd6 h.ty h.a]
   else if h.kind = 2 then c.getD 0 []
   else if h.kind = 3 then c.getD 0 [] ++ (if h.a = 12 then [] else c.getD 1 []) ++ [zgz h.ty h.a]
   else if h.kind = 4 then (h.subs[0]?).elim [] fun s => zam n s (c.eraseIdx h.a.toNat)
   else if h.kind = 5 then (h.subs[1]?).elim [] fun t => (h.subs[0]?).elim [] fun s => zam n s (c.take h.a.toNat ++ zam n t [] :: c.drop h.a.toNat)
   else if h.kind = 6 then (h.subs[0]?).elim [] fun s => zam n s (h.pos.map fun k => c.getD k.toNat [])
   else (h.subs[1]?).elim [] fun t => (h.subs[0]?).elim [] fun s => zam n s (c.set h.a.toNat (zam n t [c.getD h.a.toNat []]))
def kdT (t : Nm) : Int := if t = [73] then 1 else 2
inductive zro (of : Nm -> Int -> Int -> Int -> Option Int) : List zal -> List (Int × Int) -> List (Int × Int) -> Prop
 | nil (st : List (Int × Int)) : zro of [] st st
 | push (t : Nm) (a : Int) (r : List zal) (st st' : List (Int × Int)) (h : zro of r (st ++ [(kdT t, a)]) st') : zro of (zd6 t a :: r) st st'
 | neg (t : Nm) (x : Int × Int) (n : Int) (r : List zal) (st st' : List (Int × Int)) (ho : of t 12 x.2 0 = some n) (h : zro of r (st ++ [(kdT t, n)]) st') : zro of (zgz t 12 :: r) (st ++ [x]) st'
 | math (t : Nm) (a : Int) (x y : Int × Int) (n : Int) (r : List zal) (st st' : List (Int × Int)) (ha : a ≠ 12) (ho : of t a x.2 y.2 = some n) (h : zro of r (st ++ [(kdT t, n)]) st') : zro of (zgz t a :: r) (st ++ [x] ++ [y]) st'
theorem zro.append {of : Nm -> Int -> Int -> Int -> Option Int} {A B : List zal} {s t u : List (Int × Int)} (h : zro of A s t) (k : zro of B t u) : zro of (A ++ B) s u := by
 induction h with
 | nil st => exact k
 | push t a r st st' h ih => exact .push t a _ _ _ (ih k)
 | neg t x n r st st' ho h ih => exact .neg t x n _ _ _ ho (ih k)
 | math t a x y n r st st' ha ho h ih => exact .math t a x y n _ _ _ ha ho (ih k)
def z6z (of : Nm -> Int -> Int -> Int -> Option Int) (c : List zal) (v : Int × Int) : Prop := ∀ st, zro of c st (st ++ [v])
theorem zhi {B : List Nm} : ∀ {ks : List Int} {A : List Nm}, ks.length = A.length -> zgu B ks A = 0 -> ∀ (j : Nat) (k : Int) (t : Nm), ks[j]? = some k -> A[j]? = some t -> 0 <= k /\ k.toNat < B.length /\ B[k.toNat]? = some t
 | [], A, hl, _, j, k, t, h, _ => by simp at h
 | k0 :: ks, [], hl, _, j, k, t, _, h => by simp at h
 | k0 :: ks, t0 :: A, hl, hp, j, k, t, hk, ht => by
   unfold zgu at hp
   split at hp
   . omega
   split at hp
   . omega
   rename_i h1 h2
   cases j with
   | zero =>
     simp only [List.getElem?_cons_zero, Option.some.injEq] at hk ht
     subst hk
     subst ht
     exact ⟨by omega, by omega, by simpa using h2⟩
   | succ j => exact zhi (by simpa using hl) hp j k t (by simpa using hk) (by simpa using ht)
def zcw (of : Nm -> Int -> Int -> Int -> Option Int) (A : List Nm) (v : List Int) (c : List (List zal)) : Prop :=
 v.length = A.length /\ c.length = A.length /\ ∀ (i : Nat) (t : Nm) (x : Int) (d : List zal), A[i]? = some t -> v[i]? = some x -> c[i]? = some d -> z6z of d (kdT t, x)
theorem zcw.at_ {of : Nm -> Int -> Int -> Int -> Option Int} {A : List Nm} {v : List Int} {c : List (List zal)} (h : zcw of A v c) {i : Nat} {t : Nm} (ht : A[i]? = some t) : z6z of (c.getD i []) (kdT t, v.getD i 0) := by
 have hi := (List.getElem?_eq_some_iff.1 ht).1
 obtain ⟨h1, h2, h3⟩ := h
 refine h3 i t _ _ ht ?_ ?_
 . rw [List.getD_eq_getElem?_getD, List.getElem?_eq_getElem (by omega)]; rfl
 . rw [List.getD_eq_getElem?_getD, List.getElem?_eq_getElem (by omega)]; rfl
theorem zcw.erase {of : Nm -> Int -> Int -> Int -> Option Int} {A : List Nm} {u : Nm} {i : Nat} {v : List Int} {c : List (List zal)} (hi : i <= A.length) (h : zcw of (A.take i ++ u :: A.drop i) v c) : zcw of A (v.eraseIdx i) (c.eraseIdx i) := by
 obtain ⟨h1, h2, h3⟩ := h
 have hl : (A.take i ++ u :: A.drop i).length = A.length + 1 := by simp; omega
 rw [hl] at h1 h2
 refine ⟨by rw [List.length_eraseIdx]; split <;> omega, by rw [List.length_eraseIdx]; split <;> omega, fun j t x d ht hx hd => ?_⟩
 rw [List.getElem?_eraseIdx] at hx hd
 by_cases hj : j < i
 . rw [if_pos hj] at hx hd
   refine h3 j t x d ?_ hx hd
   rw [List.getElem?_append_left (by simp; have := (List.getElem?_eq_some_iff.1 ht).1; omega), List.getElem?_take, if_pos hj]
   exact ht
 . rw [if_neg hj] at hx hd
   refine h3 (j + 1) t x d ?_ hx hd
   rw [List.getElem?_append_right (by simp; omega)]
   simp only [List.length_take]
   rw [show j + 1 - min i A.length = (j - i) + 1 by omega, List.getElem?_cons_succ, List.getElem?_drop, show i + (j - i) = j by omega]
   exact ht
theorem zcw.insert {of : Nm -> Int -> Int -> Int -> Option Int} {A : List Nm} {g : Nm} {i : Nat} {v : List Int} {c : List (List zal)} {x : Int} {d : List zal} (hA : A[i]? = some g) (h : zcw of (A.eraseIdx i) v c) (hd : z6z of d (kdT g, x)) : zcw of A (v.take i ++ x :: v.drop i) (c.take i ++ d :: c.drop i) := by
 have hi := (List.getElem?_eq_some_iff.1 hA).1
 obtain ⟨h1, h2, h3⟩ := h
 rw [List.length_eraseIdx, if_pos hi] at h1 h2
 have hget : ∀ {α : Type} (l : List α) (y : α) (j : Nat), l.length = A.length - 1 -> (l.take i ++ y :: l.drop i)[j]? = if j < i then l[j]? else if j = i then some y else l[j - 1]? := by
   intro α l y j hl
   by_cases hj : j < i
   . rw [if_pos hj, List.getElem?_append_left (by simp; omega), List.getElem?_take, if_pos hj]
   . rw [if_neg hj, List.getElem?_append_right (by simp; omega)]
     simp only [List.length_take]
     rw [show min i l.length = i by omega]
     by_cases e : j = i
     . rw [if_pos e, e]; simp
     . rw [if_neg e, show j - i = (j - i - 1) + 1 by omega, List.getElem?_cons_succ, List.getElem?_drop, show i + (j - i - 1) = j - 1 by omega]
 refine ⟨by simp; omega, by simp; omega, fun j t y b ht hy hb => ?_⟩
 rw [hget v x j (by omega)] at hy
 rw [hget c d j (by omega)] at hb
 by_cases hj : j < i
 . rw [if_pos hj] at hy hb
   refine h3 j t y b ?_ hy hb
   rw [List.getElem?_eraseIdx, if_pos hj]; exact ht
 . rw [if_neg hj] at hy hb
   by_cases e : j = i
   . rw [if_pos e] at hy hb
     cases hy; cases hb
     rw [e, hA] at ht
     cases ht
     exact hd
   . rw [if_neg e] at hy hb
     refine h3 (j - 1) t y b ?_ hy hb
     rw [List.getElem?_eraseIdx, if_neg (by omega), show j - 1 + 1 = j by omega]; exact ht
theorem zcw.set {of : Nm -> Int -> Int -> Int -> Option Int} {A : List Nm} {u g : Nm} {i : Nat} {v : List Int} {c : List (List zal)} {x : Int} {d : List zal} (hA : A[i]? = some g) (h : zcw of (A.set i u) v c) (hd : z6z of d (kdT g, x)) : zcw of A (v.set i x) (c.set i d) := by
 obtain ⟨h1, h2, h3⟩ := h
 rw [List.length_set] at h1 h2
 refine ⟨by simp [h1], by simp [h2], fun j t y b ht hy hb => ?_⟩
 by_cases e : i = j
 . subst e
   have hi := (List.getElem?_eq_some_iff.1 ht).1
   rw [List.getElem?_set_self (by omega)] at hy hb
   cases hy; cases hb
   rw [hA] at ht
   cases ht
   exact hd
 . rw [List.getElem?_set_ne e] at hy hb
   refine h3 j t y b ?_ hy hb
   rw [List.getElem?_set_ne e]; exact ht
theorem zcw.perm {of : Nm -> Int -> Int -> Int -> Option Int} {A B : List Nm} {ks : List Int} {v : List Int} {c : List (List zal)} (hl : ks.length = A.length) (hp : zgu B ks A = 0) (h : zcw of B v c) : zcw of A (ks.map fun k => v.getD k.toNat 0) (ks.map fun k => c.getD k.toNat []) := by
 refine ⟨by simp [hl], by simp [hl], fun j t y b ht hy hb => ?_⟩
 rw [List.getElem?_map] at hy hb
 cases hk : ks[j]? with
 | none => rw [hk] at hy; cases hy
 | some k =>
   rw [hk] at hy hb
   cases hy; cases hb
   obtain ⟨_, _, h3⟩ := zhi hl hp j k t hk ht
   exact h.at_ h3
theorem zba {h s : Hd} {k : Nat} (hs : h.subs[k]? = some s) : s.size < h.size := by
 have := zy3 (List.mem_of_getElem? hs)
 rw [zmh h]; omega
theorem zes {of : Nm -> Int -> Int -> Int -> Option Int} (hneg : ∀ t x y, of t 12 x y = of t 12 x 0) : ∀ (n : Nat) {h : Hd} {A : List Nm} {g : Nm}, RH h A g -> h.size <= n -> ∀ {v : List Int} {c : List (List zal)} {r : Int}, zcw of A v c -> zbw of n h v = some r -> z6z of (zam n h c) (kdT g, r)
 | 0, h, A, g, _, hn, v, c, r, _, _ => by have := zf8 h; omega
 | n + 1, h, A, g, hr, hn, v, c, r, hp, hm => by
   cases hr with
   | const _ hk ht hr =>
     unfold zbw at hm
     rw [if_pos hk] at hm
     unfold zam
     rw [if_pos hk]
     cases hm
     exact fun st => .push _ _ _ _ _ (.nil _)
   | same _ hk ht =>
     unfold zbw at hm
     simp only [hk] at hm
     unfold zam
     simp only [hk]
     simp at hm
     have := hp.at_ (i := 0) rfl
     subst hm
     simpa using this
   | math _ hk ht ha =>
     unfold zbw at hm
     simp only [hk] at hm
     simp at hm
     unfold zam
     simp only [hk]
     simp
     by_cases h12 : h.a = 12
     . have hA : zcf 3 h.ty h.a = [h.ty] := by unfold zcf; simp [h12]
       rw [hA] at hp
       have h0 := hp.at_ (i := 0) rfl
       rw [h12] at hm |-
       rw [hneg] at hm
       rw [if_pos rfl, List.nil_append]
       simp only [List.getD_eq_getElem?_getD] at h0
       refine fun st => (h0 st).append (.neg _ (_, _) _ _ _ _ ?_ (.nil _))
       simpa using hm
     . rw [if_neg h12]
       obtain ⟨u, hA⟩ : ∃ u, zcf 3 h.ty h.a = [h.ty, u] := by
         unfold zcf
         simp only [h12]
         by_cases h9 : 9 <= h.a /\ h.a <= 11
         . exact ⟨[73], by simp [h9]⟩
         . exact ⟨h.ty, by simp [h9]⟩
       rw [hA] at hp
       have h0 := hp.at_ (i := 0) rfl
       have h1 := hp.at_ (i := 1) rfl
       have hvl := hp.1
       simp only [List.length_cons, List.length_nil] at hvl
       rw [hvl] at hm
       simp only [List.getD_eq_getElem?_getD] at h0 h1
       refine fun st => (h0 st).append ((h1 _).append (.math _ _ (_, _) (_, _) _ _ _ _ h12 ?_ (.nil _)))
       simpa using hm
   | drop _ s A g i hk hs hr h5 hi hil =>
     unfold zbw at hm
     simp only [hk] at hm
     simp [hs, hi] at hm
     unfold zam
     simp only [hk]
     simp [hs, hi]
     exact zes hneg n hr (by have := zba (h := h) (k := 0) (s := s) (by rw [hs]; rfl); omega) (hp.erase hil) hm
   | bind _ s u A g g2 i hk hs hr h5 hr2 hi hA =>
     unfold zbw at hm
     simp only [hk] at hm
     simp [hs, hi] at hm
     unfold zam
     simp only [hk]
     simp [hs, hi]
     cases hx : zbw of n u [] with
     | none => rw [hx] at hm; cases hm
     | some x =>
       rw [hx] at hm
       simp at hm
       have h1 := zes hneg n hr2 (by have := zba (h := h) (k := 1) (s := u) (by rw [hs]; rfl); omega) (v := []) (c := []) ⟨rfl, rfl, fun j t y b ht => by simp at ht⟩ hx
       exact zes hneg n hr (by have := zba (h := h) (k := 0) (s := s) (by rw [hs]; rfl); omega) (hp.insert hA h1) hm
   | perm _ s A g B hk hs hr h5 hl hpe =>
     unfold zbw at hm
     simp only [hk] at hm
     simp [hs] at hm
     unfold zam
     simp only [hk]
     simp [hs]
     have := zes hneg n hr (by have := zba (h := h) (k := 0) (s := s) (by rw [hs]; rfl); omega) (hp.perm hl hpe) (r := r) (by simpa using hm)
     simpa using this
   | filter _ s u A g w g2 i hk hs hr h5 hr2 hi hA =>
     unfold zbw at hm
     simp only [hk] at hm
     simp [hs, hi] at hm
     unfold zam
     simp only [hk]
     simp [hs, hi]
     have hw : (A.set i w)[i]? = some w := List.getElem?_set_self (List.getElem?_eq_some_iff.1 hA).1
     have h0 := hp.at_ hw
     simp only [List.getD_eq_getElem?_getD] at h0
     cases hx : zbw of n u [(v[i]?).getD 0] with
     | none => rw [hx] at hm; cases hm
     | some x =>
       rw [hx] at hm
       simp at hm
       have h1 := zes hneg n hr2 (by have := zba (h := h) (k := 1) (s := u) (by rw [hs]; rfl); omega) (v := [(v[i]?).getD 0]) (c := [(c[i]?).getD []]) ⟨rfl, rfl, fun j t y b ht hy hb => by
         have : j = 0 := by have := (List.getElem?_eq_some_iff.1 ht).1; simp at this; omega
         subst this
         simp at ht hy hb
         subst ht; subst hy; subst hb
         exact h0⟩ hx
       exact zes hneg n hr (by have := zba (h := h) (k := 0) (s := s) (by rw [hs]; rfl); omega) (hp.set hA h1) hm
theorem zli {m s : Nm} {i : Int} {many : Nat} (h : (zag m s i many).1 = 0) : ∃ A g T g2, zk m A g /\ 0 <= i /\ i < A.length /\ zk s T g2 /\ T.length = many /\ A[i.toNat]? = some g2 /\ (zag m s i many).2 = T := by
 unfold zag at h |-
 cases hm : zni m with
 | none => rw [hm] at h; simp at h
 | some p =>
   obtain ⟨A, g⟩ := p
   rw [hm] at h
   simp only at h |-
   split at h
   . simp at h
   rename_i h1
   rw [if_neg h1]
   cases hs : zni s with
   | none => rw [hs] at h; simp at h
   | some q =>
     obtain ⟨T, g2⟩ := q
     rw [hs] at h
     simp only at h |-
     split at h
     . simp at h
     rename_i h2
     rw [if_neg h2]
     split at h
     . simp at h
     rename_i h3
     rw [if_neg h3]
     exact ⟨A, g, T, g2, zgm hm, by omega, by omega, zgm hs, by simpa using h2, by simpa using h3, rfl⟩
theorem zwg {k a : Int} {t : Nm} (h : zdb t = true) : (∀ x ∈ zcf k t a, zi x) /\ (zcf k t a).length <= 5 := by
 have h1 := zue h
 have h2 : zi [73] := zue rfl
 unfold zcf
 split
 . exact ⟨by simp, by simp⟩
 split
 . exact ⟨by simpa using h1, by simp⟩
 split
 . exact ⟨by simpa using ⟨h1, h2⟩, by simp⟩
 . exact ⟨by simpa using h1, by simp⟩
theorem zpq {α β : Type} {p : α × β} {a : α} {b : β} (h : p = (a, b)) : p.1 = a /\ p.2 = b := by rw [h]; exact ⟨rfl, rfl⟩
theorem z4y : ∀ (n : Nat) {h : Hd}, h.size <= n -> ∀ {m : Nm}, h.typed = (0, m) -> ∃ A g, zk m A g /\ m = zaz A g /\ RH h A g /\ zdb g = true
 | 0, h, hn, m, _ => by have := zf8 h; omega
 | n + 1, h, hn, m, ht => by
   have hsub := zxb (h := h) (by rw [ht])
   rw [zhq] at ht
   split at ht
   . simp at ht
   rename_i hk
   split at ht
   . simp at ht
   rename_i hl
   have hl : h.subs.length = zb1 h.kind := by simpa using hl
   have IH : ∀ (j : Nat) (s : Hd), h.subs[j]? = some s -> ∃ A g, zk s.typed.2 A g /\ RH s A g /\ zdb g = true := by
     intro j s hs
     have h1 := hsub s (List.mem_of_getElem? hs)
     obtain ⟨A, g, h2, _, h3, h4⟩ := z4y n (h := s) (by have := zba hs; omega) (m := s.typed.2) (by rw [<- h1])
     exact ⟨A, g, h2, h3, h4⟩
   split at ht
   . rename_i h0
     have hk3 : h.kind = 1 \/ h.kind = 2 \/ h.kind = 3 := by
       unfold zb1 at h0
       split at h0
       . omega
       split at h0
       . omega
       . omega
     unfold zak at ht
     split at ht
     . simp at ht
     rename_i h1
     split at ht
     . simp at ht
     rename_i h2
     have hnum : zdb h.ty = true := by
       cases hq : zdb h.ty with
       | true => rfl
       | false => rw [hq] at h1; simp at h1
     obtain ⟨l1, l2⟩ := zwg (k := h.kind) (a := h.a) hnum
     have hm := (zpq ht).2
     refine ⟨zcf h.kind h.ty h.a, h.ty, by rw [<- hm]; exact zjc l1 l2 (Or.inr (zue hnum)), hm.symm, ?_, hnum⟩
     rcases hk3 with e | e | e
     . rw [e, show zcf 1 h.ty h.a = [] from rfl]
       refine .const h e hnum fun h73 => ?_
       rw [e, h73] at h2
       simpa using h2
     . rw [e, show zcf 2 h.ty h.a = [h.ty] from rfl]
       exact .same h e hnum
     . rw [e]
       refine .math h e hnum ?_
       rw [e, hnum] at h1
       simp at h1
       omega
   . rename_i h0
     split at ht
     . rename_i e
       exact absurd (zpq ht).1 e
     rename_i hal
     rw [zr6 (fun r hr => by obtain ⟨s, hs, rfl⟩ := List.mem_map.1 hr; exact hsub s hs)] at ht
     simp only [List.map_map] at ht
     unfold zme at ht
     by_cases h4 : h.kind = 4
     . rw [if_pos h4] at ht
       have hl1 : h.subs.length = 1 := by rw [hl]; unfold zb1; simp [h4]
       obtain ⟨s, hs⟩ := List.length_eq_one_iff.1 hl1
       rw [hs] at ht
       obtain ⟨A, g, hA, hr, hg⟩ := IH 0 s (by rw [hs]; rfl)
       obtain ⟨A2, g2, hA2, hz, hl5, rfl⟩ := zkv (show chF s.typed.2 (zrn h.a h.ty) = (0, m) from ht)
       obtain ⟨rfl, rfl⟩ := zap hA hA2
       unfold zrn at hz hl5 |-
       split at hz
       . simp at hz
       rename_i h5
       split at hz
       . simp at hz
       rename_i h6
       rw [if_neg h5, if_neg h6] at hl5 |-
       have h6 : zi h.ty := by simpa using h6
       refine ⟨_, g, zjc ?_ hl5 hA.2.2.2, rfl, .drop h s A g h.a.toNat h4 hs hr hA.2.2.1 (by omega) (by omega), hg⟩
       intro x hx
       simp only [List.mem_append, List.mem_cons] at hx
       rcases hx with hx | rfl | hx
       . exact hA.2.1 x (List.mem_of_mem_take hx)
       . exact h6
       . exact hA.2.1 x (List.mem_of_mem_drop hx)
     rw [if_neg h4] at ht
     by_cases h6 : h.kind = 6
     . rw [if_pos h6] at ht
       have hl1 : h.subs.length = 1 := by rw [hl]; unfold zb1; simp [h6]
       obtain ⟨s, hs⟩ := List.length_eq_one_iff.1 hl1
       rw [hs] at ht
       obtain ⟨A, g, hA, hr, hg⟩ := IH 0 s (by rw [hs]; rfl)
       obtain ⟨A2, g2, hA2, hz, hl5, rfl⟩ := zkv (show chF s.typed.2 (zgr h.pos h.ty) = (0, m) from ht)
       obtain ⟨rfl, rfl⟩ := zap hA hA2
       unfold zgr at hz hl5 |-
       cases hB : zni h.ty with
       | none => rw [hB] at hz; simp at hz
       | some p =>
         obtain ⟨B, gB⟩ := p
         rw [hB] at hz hl5
         simp only at hz hl5 |-
         split at hz
         . simp at hz
         rename_i h7
         rw [if_neg h7] at hl5 |-
         exact ⟨B, g, zjc (zgm hB).2.1 (zgm hB).2.2.1 hA.2.2.2, rfl, .perm h s A g B h6 hs hr hA.2.2.1 (by simpa using h7) hz, hg⟩
     rw [if_neg h6] at ht
     have hl2 : h.subs.length = 2 := by
       rw [hl]
       unfold zb1 at h0 |-
       split at h0
       . rename_i e; omega
       split at h0
       . rename_i e1 e; rw [if_neg e1, if_pos e]
       . omega
     obtain ⟨s, u, hs⟩ : ∃ s u, h.subs = [s, u] := by
       match hss : h.subs, hl2 with
       | [s, u], _ => exact ⟨s, u, rfl⟩
     rw [hs] at ht
     obtain ⟨A, g, hA, hr, hg⟩ := IH 0 s (by rw [hs]; rfl)
     obtain ⟨T, g2, hT, hr2, hg2⟩ := IH 1 u (by rw [hs]; rfl)
     by_cases h5 : h.kind = 5
     . rw [if_pos h5] at ht
       split at ht
       . rename_i e
         exact absurd (zpq ht).1 e
       rename_i hf
       obtain ⟨A3, g3, T3, g4, hA3, hi0, hi1, hT3, hTl, hAi, _⟩ := zli (by simpa using hf)
       obtain ⟨rfl, rfl⟩ := zap hA hA3
       obtain ⟨rfl, rfl⟩ := zap hT hT3
       obtain rfl : T = [] := List.eq_nil_of_length_eq_zero hTl
       obtain ⟨A2, g5, hA2, hz, hl5, rfl⟩ := zkv (show chF s.typed.2 (zhu h.a) = (0, m) from ht)
       obtain ⟨rfl, rfl⟩ := zap hA hA2
       have hd : zhu h.a A = (0, A.eraseIdx h.a.toNat) := by unfold zhu; rw [if_neg (by omega)]
       rw [hd] at hl5 |-
       exact ⟨_, g, zjc (fun x hx => hA.2.1 x (List.mem_of_mem_eraseIdx hx)) hl5 hA.2.2.2, rfl, .bind h s u A g g2 h.a.toNat h5 hs hr hA.2.2.1 hr2 (by omega) hAi, hg⟩
     . rw [if_neg h5] at ht
       split at ht
       . rename_i e
         exact absurd (zpq ht).1 e
       rename_i hf
       obtain ⟨A3, g3, T3, g4, hA3, hi0, hi1, hT3, hTl, hAi, hT2⟩ := zli (by simpa using hf)
       obtain ⟨rfl, rfl⟩ := zap hA hA3
       obtain ⟨rfl, rfl⟩ := zap hT hT3
       obtain ⟨w, rfl⟩ := List.length_eq_one_iff.1 hTl
       have ht : chF s.typed.2 (zb3 h.a ((zag s.typed.2 u.typed.2 h.a 1).2.getD 0 [])) = (0, m) := ht
       rw [hT2] at ht
       obtain ⟨A2, g5, hA2, hz, hl5, rfl⟩ := zkv (show chF s.typed.2 (zb3 h.a w) = (0, m) from ht)
       obtain ⟨rfl, rfl⟩ := zap hA hA2
       have hw : zi w := hT.2.1 w (by simp)
       have hd : zb3 h.a w A = (0, A.set h.a.toNat w) := by unfold zb3; rw [if_neg (by omega), if_neg (by simpa using hw)]
       rw [hd] at hl5 |-
       have h7 : h.kind = 7 := by
         unfold zb1 at h0
         split at h0
         . omega
         split at h0
         . omega
         . omega
       refine ⟨_, g, zjc (fun x hx => ?_) hl5 hA.2.2.2, rfl, .filter h s u A g w g2 h.a.toNat h7 hs hr hA.2.2.1 hr2 (by omega) hAi, hg⟩
       rcases List.mem_or_eq_of_mem_set hx with hx | rfl
       . exact hA.2.1 x hx
       . exact hw
inductive z03 (of : Nm -> Int -> Int -> Int -> Option Int) : zal -> List (Int × Int) -> List (Int × Int) -> Prop
 | push (t : Nm) (a : Int) (st : List (Int × Int)) : z03 of (zd6 t a) st (st ++ [(kdT t, a)])
 | neg (t : Nm) (x : Int × Int) (n : Int) (st : List (Int × Int)) (ho : of t 12 x.2 0 = some n) : z03 of (zgz t 12) (st ++ [x]) (st ++ [(kdT t, n)])
 | math (t : Nm) (a : Int) (x y : Int × Int) (n : Int) (st : List (Int × Int)) (ha : a ≠ 12) (ho : of t a x.2 y.2 = some n) : z03 of (zgz t a) (st ++ [x] ++ [y]) (st ++ [(kdT t, n)])
theorem zwt {of : Nm -> Int -> Int -> Int -> Option Int} {c : List zal} {s t : List (Int × Int)} (h : zro of c s t) : ∃ f : Nat -> List (Int × Int), f 0 = s /\ f c.length = t /\ ∀ (i : Nat) (x : zal), c[i]? = some x -> z03 of x (f i) (f (i + 1)) := by
 induction h with
 | nil st => exact ⟨fun _ => st, rfl, rfl, fun i x hx => by simp at hx⟩
 | push t a r st st' h ih =>
   obtain ⟨f, h1, h2, h3⟩ := ih
   refine ⟨fun i => match i with | 0 => st | i + 1 => f i, rfl, h2, fun i x hx => ?_⟩
   cases i with
   | zero => simp at hx; subst hx; show z03 of _ st (f 0); rw [h1]; exact .push _ _ _
   | succ i => exact h3 i x (by simpa using hx)
 | neg t y n r st st' ho h ih =>
   obtain ⟨f, h1, h2, h3⟩ := ih
   refine ⟨fun i => match i with | 0 => st ++ [y] | i + 1 => f i, rfl, h2, fun i x hx => ?_⟩
   cases i with
   | zero => simp at hx; subst hx; show z03 of _ (st ++ [y]) (f 0); rw [h1]; exact .neg _ _ _ _ ho
   | succ i => exact h3 i x (by simpa using hx)
 | math t a y z n r st st' ha ho h ih =>
   obtain ⟨f, h1, h2, h3⟩ := ih
   refine ⟨fun i => match i with | 0 => st ++ [y] ++ [z] | i + 1 => f i, rfl, h2, fun i x hx => ?_⟩
   cases i with
   | zero => simp at hx; subst hx; show z03 of _ (st ++ [y] ++ [z]) (f 0); rw [h1]; exact .math _ _ _ _ _ _ ha ho
   | succ i => exact h3 i x (by simpa using hx)
theorem z3u {of : Nm -> Int -> Int -> Int -> Option Int} {x : zal} {s t : List (Int × Int)} (h : z03 of x s t) : t.length <= s.length + 1 := by
 cases h <;> simp
inductive HdI : Hd -> Prop
 | mk (h : Hd) (ha : -9223372036854775808 <= h.a /\ h.a <= 9223372036854775807) (hs : ∀ s ∈ h.subs, HdI s) : HdI h
theorem HdI.num {h : Hd} (H : HdI h) : -9223372036854775808 <= h.a /\ h.a <= 9223372036854775807 := by cases H; assumption
theorem HdI.sub {h : Hd} (H : HdI h) : ∀ s ∈ h.subs, HdI s := by cases H; assumption
def z05 (x : zal) : Prop := x.ty.length <= 1000 /\ (-9223372036854775808 <= x.a /\ x.a <= 9223372036854775807) /\ x.b = 0 /\ x.cl = [] /\ x.nm = [] /\ (x.op = 9 -> zdb x.ty = true /\ 1 <= x.a /\ x.a <= 12) /\ (x.op = 2 \/ x.op = 9)
theorem zo3 {t : Nm} (h : zdb t = true) : t.length <= 1000 := by
 unfold zdb at h
 rw [Bool.or_eq_true, beq_iff_eq, beq_iff_eq] at h
 rcases h with rfl | rfl <;> simp
theorem zuq {c : List (List zal)} {p : List zal -> Prop} (h : ∀ d ∈ c, p d) (h0 : p []) (i : Nat) : p (c.getD i []) := by
 rw [List.getD_eq_getElem?_getD]
 cases hi : c[i]? with
 | none => exact h0
 | some d => exact h d (List.mem_of_getElem? hi)
theorem zgd : ∀ (n : Nat) {h : Hd} {A : List Nm} {g : Nm}, RH h A g -> HdI h -> h.size <= n -> ∀ {c : List (List zal)}, (∀ d ∈ c, ∀ x ∈ d, z05 x) -> ∀ x ∈ zam n h c, z05 x
 | 0, h, A, g, _, _, hn, c, _ => by have := zf8 h; omega
 | n + 1, h, A, g, hr, hi, hn, c, hc => by
   have h0 : ∀ x ∈ ([] : List zal), z05 x := by simp
   have hg := fun i => zuq (p := fun d => ∀ x ∈ d, z05 x) hc h0 i
   cases hr with
   | const _ hk ht hr =>
     unfold zam
     rw [if_pos hk]
     intro x hx
     rw [List.mem_singleton.1 hx]
     exact ⟨zo3 ht, hi.num, rfl, rfl, rfl, fun h9 => absurd h9 (by simp [zd6]), Or.inl rfl⟩
   | same _ hk ht =>
     unfold zam
     simp only [hk]
     exact hg 0
   | math _ hk ht ha =>
     unfold zam
     simp only [hk]
     intro x hx
     simp only [show ((3 : Int) = 1) = False by simp, show ((3 : Int) = 2) = False by simp, if_true, if_false, List.mem_append, List.mem_singleton] at hx
     rcases hx with (hx | hx) | rfl
     . exact hg 0 x hx
     . split at hx
       . simp at hx
       . exact hg 1 x hx
     . exact ⟨zo3 ht, hi.num, rfl, rfl, rfl, fun _ => ⟨ht, ha⟩, Or.inr rfl⟩
   | drop _ s A g i hk hs hr h5 hi2 hil =>
     unfold zam
     simp only [hk]
     simp [hs, hi2]
     exact fun x hx => zgd n hr (hi.sub s (by rw [hs]; simp)) (by have := zba (h := h) (k := 0) (s := s) (by rw [hs]; rfl); omega) (fun d hd => hc d (List.mem_of_mem_eraseIdx hd)) x hx
   | bind _ s u A g g2 i hk hs hr h5 hr2 hi2 hA =>
     unfold zam
     simp only [hk]
     simp [hs, hi2]
     refine fun x hx => zgd n hr (hi.sub s (by rw [hs]; simp)) (by have := zba (h := h) (k := 0) (s := s) (by rw [hs]; rfl); omega) (fun d hd => ?_) x hx
     simp only [List.mem_append, List.mem_cons] at hd
     rcases hd with hd | rfl | hd
     . exact hc d (List.mem_of_mem_take hd)
     . exact zgd n hr2 (hi.sub u (by rw [hs]; simp)) (by have := zba (h := h) (k := 1) (s := u) (by rw [hs]; rfl); omega) (by simp)
     . exact hc d (List.mem_of_mem_drop hd)
   | perm _ s A g B hk hs hr h5 hl hpe =>
     unfold zam
     simp only [hk]
     simp [hs]
     refine fun x hx => zgd n hr (hi.sub s (by rw [hs]; simp)) (by have := zba (h := h) (k := 0) (s := s) (by rw [hs]; rfl); omega) (fun d hd => ?_) x hx
     simp only [List.mem_map] at hd
     obtain ⟨k, _, rfl⟩ := hd
     have := hg k.toNat
     simpa [List.getD_eq_getElem?_getD] using this
   | filter _ s u A g w g2 i hk hs hr h5 hr2 hi2 hA =>
     unfold zam
     simp only [hk]
     simp [hs, hi2]
     refine fun x hx => zgd n hr (hi.sub s (by rw [hs]; simp)) (by have := zba (h := h) (k := 0) (s := s) (by rw [hs]; rfl); omega) (fun d hd => ?_) x hx
     rcases List.mem_or_eq_of_mem_set hd with hd | rfl
     . exact hc d hd
     . refine zgd n hr2 (hi.sub u (by rw [hs]; simp)) (by have := zba (h := h) (k := 1) (s := u) (by rw [hs]; rfl); omega) (fun d hd => ?_)
       rw [List.mem_singleton.1 hd]
       have := hg i
       simpa [List.getD_eq_getElem?_getD] using this
theorem ziu (a b n : Nat) (h : a + b + 1 <= n) : 2 ^ a * 2 ^ b * 2 <= 2 ^ n := by
 rw [<- Nat.pow_add, <- Nat.pow_succ]
 exact Nat.pow_le_pow_right (by omega) (by omega)
theorem zkp {h s u : Hd} (hs : h.subs = [s, u]) : s.size + u.size + 1 = h.size := by rw [zmh h, hs]; simp [zd4]; omega
theorem zkq {h s : Hd} (hs : h.subs = [s]) : s.size + 1 = h.size := by rw [zmh h, hs]; simp [zd4]; omega
theorem zd8 : ∀ (n : Nat) {h : Hd} {A : List Nm} {g : Nm}, RH h A g -> h.size <= n -> ∀ {c : List (List zal)} {M : Nat}, (∀ d ∈ c, d.length + 1 <= M) -> 1 <= M -> (zam n h c).length + 1 <= 2 ^ h.size * M
 | 0, h, A, g, _, hn, c, M, _, _ => by have := zf8 h; omega
 | n + 1, h, A, g, hr, hn, c, M, hc, hM => by
   have hg := fun i => zuq (p := fun d => d.length + 1 <= M) hc hM i
   have h1 : 2 <= 2 ^ h.size := by
     have := Nat.pow_le_pow_right (n := 2) (by omega) (zf8 h)
     simpa using this
   cases hr with
   | const _ hk ht hr =>
     unfold zam
     rw [if_pos hk]
     simp only [List.length_singleton]
     have := Nat.mul_le_mul h1 hM
     omega
   | same _ hk ht =>
     unfold zam
     simp only [hk]
     have := hg 0
     have h2 := Nat.mul_le_mul h1 (Nat.le_refl M)
     simp only [show ((2 : Int) = 1) = False by simp, if_true, if_false]
     omega
   | math _ hk ht ha =>
     unfold zam
     simp only [hk]
     simp only [show ((3 : Int) = 1) = False by simp, show ((3 : Int) = 2) = False by simp, if_true, if_false, List.length_append, List.length_singleton]
     have e0 := hg 0
     have e1 := hg 1
     have h2 := Nat.mul_le_mul h1 (Nat.le_refl M)
     split
     . simp only [List.length_nil]; omega
     . omega
   | drop _ s A g i hk hs hr h5 hi2 hil =>
     unfold zam
     simp only [hk]
     simp [hs, hi2]
     have hz := zkq hs
     have := zd8 n hr (by omega) (c := c.eraseIdx i) (M := M) (fun d hd => hc d (List.mem_of_mem_eraseIdx hd)) hM
     have h2 : 2 ^ s.size * M <= 2 ^ h.size * M := Nat.mul_le_mul_right M (Nat.pow_le_pow_right (by omega) (by omega))
     omega
   | bind _ s u A g g2 i hk hs hr h5 hr2 hi2 hA =>
     unfold zam
     simp only [hk]
     simp [hs, hi2]
     have hz := zkp hs
     have e1 := zd8 n hr2 (by omega) (c := []) (M := 1) (by simp) (by omega)
     have e2 := zd8 n hr (by omega) (c := c.take i ++ zam n u [] :: c.drop i) (M := 2 ^ u.size * M) (fun d hd => by
       simp only [List.mem_append, List.mem_cons] at hd
       have hp : 1 * M <= 2 ^ u.size * M := Nat.mul_le_mul_right M (Nat.one_le_two_pow)
       rcases hd with hd | rfl | hd
       . have := hc d (List.mem_of_mem_take hd); omega
       . have : 2 ^ u.size * 1 <= 2 ^ u.size * M := Nat.mul_le_mul_left _ hM
         omega
       . have := hc d (List.mem_of_mem_drop hd); omega) (Nat.mul_le_mul (Nat.one_le_two_pow) hM)
     have e3 := Nat.mul_le_mul_right M (ziu s.size u.size h.size (by omega))
     rw [<- Nat.mul_assoc] at e2
     have e4 : 2 ^ s.size * 2 ^ u.size * M <= 2 ^ s.size * 2 ^ u.size * 2 * M := Nat.mul_le_mul_right M (by omega)
     omega
   | perm _ s A g B hk hs hr h5 hl hpe =>
     unfold zam
     simp only [hk]
     simp [hs]
     have hz := zkq hs
     have := zd8 n hr (by omega) (c := h.pos.map fun k => c.getD k.toNat []) (M := M) (fun d hd => by
       obtain ⟨k, _, rfl⟩ := List.mem_map.1 hd
       exact hg k.toNat) hM
     have h2 : 2 ^ s.size * M <= 2 ^ h.size * M := Nat.mul_le_mul_right M (Nat.pow_le_pow_right (by omega) (by omega))
     simp only [List.getD_eq_getElem?_getD] at this
     omega
   | filter _ s u A g w g2 i hk hs hr h5 hr2 hi2 hA =>
     unfold zam
     simp only [hk]
     simp [hs, hi2]
     have hz := zkp hs
     have ei := hg i
     have e1 := zd8 n hr2 (by omega) (c := [c.getD i []]) (M := M) (fun d hd => by rw [List.mem_singleton.1 hd]; exact ei) hM
     have hp : 1 * M <= 2 ^ u.size * M := Nat.mul_le_mul_right M (Nat.one_le_two_pow)
     have e2 := zd8 n hr (by omega) (c := c.set i (zam n u [c.getD i []])) (M := 2 ^ u.size * M) (fun d hd => by
       rcases List.mem_or_eq_of_mem_set hd with hd | rfl
       . have := hc d hd; omega
       . exact e1) (by omega)
     have e3 := Nat.mul_le_mul_right M (ziu s.size u.size h.size (by omega))
     rw [<- Nat.mul_assoc] at e2
     have e4 : 2 ^ s.size * 2 ^ u.size * M <= 2 ^ s.size * 2 ^ u.size * 2 * M := Nat.mul_le_mul_right M (by omega)
     simp only [List.getD_eq_getElem?_getD] at e2
     omega
theorem zwm {h : Hd} {A : List Nm} {g : Nm} (hr : RH h A g) (hs : h.size <= 12) {c : List (List zal)} (hc : ∀ d ∈ c, d.length <= 1) : (zam h.size h c).length <= 8192 := by
 have h1 := zd8 h.size hr (Nat.le_refl _) (c := c) (M := 2) (fun d hd => by have := hc d hd; omega) (by omega)
 have h2 : 2 ^ h.size <= 2 ^ 12 := Nat.pow_le_pow_right (by omega) hs
 have h3 : 2 ^ h.size * 2 <= 2 ^ 12 * 2 := Nat.mul_le_mul_right 2 h2
 omega
theorem zv2 (of : Nm -> Int -> Int -> Int -> Option Int) {A : List Nm} {v : List Int} (h : v.length = A.length) : zcw of A v (List.zipWith (fun t x => [zd6 t x]) A v) := by
 refine ⟨h, by simp [h], fun i t x d ht hx hd => ?_⟩
 rw [List.getElem?_zipWith, ht, hx] at hd
 cases hd
 exact fun st => .push _ _ _ _ _ (.nil _)
theorem znp {of : Nm -> Int -> Int -> Int -> Option Int} {c : List zal} {f : Nat -> List (Int × Int)} (h0 : f 0 = []) (h : ∀ (i : Nat) (x : zal), c[i]? = some x -> z03 of x (f i) (f (i + 1))) : ∀ i, i <= c.length -> (f i).length <= i
 | 0, _ => by rw [h0]; simp
 | i + 1, hi => by
   have h1 := znp h0 h i (by omega)
   have h2 := z3u (h i c[i] (List.getElem?_eq_getElem (by omega)))
   omega
end Go.Proofs.YtbnkckjdgpiggaaGreatDoor
