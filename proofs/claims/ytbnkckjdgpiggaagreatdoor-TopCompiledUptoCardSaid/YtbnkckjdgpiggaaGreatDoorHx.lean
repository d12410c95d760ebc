import Derived.Test.YtbnkckjdgpiggaaGreatDoorKb
import Derived.Test.YtbnkckjdgpiggaaGreatDoorShelfIns
import Derived.Sort.OwnSorted
namespace Go.Proofs.YtbnkckjdgpiggaaGreatDoor
set_option maxRecDepth 100000
set_option maxHeartbeats 16000000
set_option linter.unusedVariables false
set_option linter.unusedSimpArgs false
open Go.RowKit Go.Shelf Go.Lib
theorem zp4 : ∀ (A : List (List UInt8)), Lib.join A [] = A.flatten
 | [] => rfl
 | [x] => by rw [join_one]; simp
 | x :: y :: r => by
   rw [join_cons]
   simp [joinTail]
theorem zvs (A : List (List UInt8)) (a : Option Addr) (cap : Nat) (w : World) (h : zdl w a cap A) (hl : A.length <= 5) (hf : A.flatten.length <= 1000) :
   Calls Tryz.prog 142 #[.slice a A.length cap, .string ⟨#[]⟩] w fun e w' => e = .returned (.string ⟨⟨A.flatten⟩⟩) /\ Below w.heap.size w w' := by
 obtain ⟨h1, rfl | ⟨b, off, rfl, hlt, hc⟩⟩ := h
 . exact (Tryz.strings_Join_none a cap ⟨#[]⟩ w).mono fun e w' ⟨h2, h3⟩ => ⟨by rw [h2]; rfl, by rw [h3]; exact Below.refl _ _⟩
 . have hm : (A.map (fun t => (⟨⟨t⟩⟩ : ByteArray))).map (·.data.toList) = A := by
     clear h1 hc hl hf
     induction A with
     | nil => rfl
     | cons x r ih => simp only [List.map_cons, ih]
   have h2 := Tryz.strings_Join b off cap (A.map fun t => ⟨⟨t⟩⟩) ⟨#[]⟩ w (fun j x hx => by
     rw [List.getElem?_map] at hx
     cases hj : A[j]? with
     | none => rw [hj] at hx; cases hx
     | some y =>
       rw [hj] at hx
       cases hx
       exact hc j y hj) hlt (by simp; omega) (by simpa using h1) (by rw [hm, zp4]; omega)
   rw [hm, zp4, List.length_map] at h2
   exact h2
theorem zo4 {a b : List UInt8} (h : a = b) : Ending.returned (.tuple #[.string ⟨⟨a⟩⟩, .nilIface]) = .returned (.tuple #[.string ⟨⟨b⟩⟩, .nilIface]) := by rw [h]
theorem zjd (a : Option Addr) (n cap : Nat) (g : ByteArray) (w : World) (h : 5 < n) :
   Calls Tryz.prog 99 #[.slice a n cap, .string g] w fun e w' => e = .returned (.tuple #[.string ⟨#[]⟩, zby 4]) /\ w = w' := by
 go_enter Tryz.func99, Tryz.ntmps99
 go_wp2_with fail
 go_ret2
 exact ⟨rfl, rfl⟩
theorem ze6 : ∀ (A : List (List UInt8)), (∀ t ∈ A, zi t) -> A.flatten.length <= 25 * A.length
 | [], _ => by simp
 | t :: A, h => by
   have h1 := (zeb (h t (by simp))).2
   have h2 := ze6 A (fun x hx => h x (by simp [hx]))
   simp only [List.flatten_cons, List.length_append, List.length_cons]
   omega
theorem zlt (A : List (List UInt8)) (a : Option Addr) (cap : Nat) (g : List UInt8) (w : World) (h : zdl w a cap A) (hl : A.length <= 5) (hA : ∀ t ∈ A, zi t) (hg : zf4 g) :
   Calls Tryz.prog 99 #[.slice a A.length cap, .string ⟨⟨g⟩⟩] w fun e w' => e = .returned (.tuple #[.string ⟨⟨40 :: (A.flatten ++ 41 :: g)⟩⟩, .nilIface]) /\ Below w.heap.size w w' := by
 have hgl : g.length <= 25 := by
   rcases hg with rfl | hg
   . simp
   . exact (zeb hg).2
 have hfl := ze6 A hA
 have hfl2 : A.flatten.length <= 125 := by omega
 have HA := Hq hA
 have HR := Hq h
 have HG := Hq hg
 clear hA h hg hfl
 obtain ⟨B, hB⟩ : ∃ B, B = w.heap.size := ⟨_, rfl⟩
 have HB := Hq hB
 clear hB
 rcases HR.out.2 with h0 | ⟨b, off, ha, hlt, hc⟩
 . subst h0
   have hz : Calls Tryz.prog 142 #[.slice a 0 cap, .string ⟨#[]⟩] w fun e w' => e = .returned (.string ⟨#[]⟩) /\ w' = w := Tryz.strings_Join_none a cap ⟨#[]⟩ w
   have hj : ∀ w, Calls Tryz.prog 142 #[.slice a 0 cap, .string ⟨#[]⟩] w fun e w' => e = .returned (.string ⟨⟨[]⟩⟩) /\ w = w' := fun w => (Tryz.strings_Join_none a cap ⟨#[]⟩ w).mono fun e w' ⟨h1, h2⟩ => ⟨h1, h2.symm⟩
   have HJ := Hq hj
   clear hz hj
   by_cases hV : g = [86]
   . subst hV
     go_enter Tryz.func99, Tryz.ntmps99
     go_wp2_with fail
     refine wp_loop_rounds 1 ?_
     rw [rounds_succ]
     go_wp2_with fail
     refine (HJ.out _).mono ?_
     rintro e w1 ⟨rfl, rfl⟩
     go_wp2_with fail
     go_ret2
     exact ⟨rfl, Below.refl _ _⟩
   . have hq : (g == [86]) = false := by rw [beq_eq_false_iff_ne]; exact hV
     have hg : zi g := HG.out.resolve_left hV
     have HK := Hq (fun w => zc1 g hg w)
     clear hg
     go_enter Tryz.func99, Tryz.ntmps99
     go_wp2_with fail
     refine wp_loop_rounds 1 ?_
     rw [rounds_succ]
     go_wp2_with fail
     refine (HK.out _).mono ?_
     rintro e w1 ⟨rfl, hb1⟩
     go_wp2_with fail
     refine (HJ.out _).mono ?_
     rintro e w1 ⟨rfl, rfl⟩
     go_wp2_with fail
     go_ret2
     exact ⟨zo4 (by simp), hb1⟩
 . subst ha
   have HC := Hq hc
   have hlt' : b < B := by rw [HB.out]; exact hlt
   clear hc hlt
   go_enter Tryz.func99, Tryz.ntmps99
   go_wp2_with fail
   go_loopw [15] (fun i wr => ∃ k : Nat, k <= A.length /\ i = .int .i64 k /\ Below B w wr) (fun i _ => A.length - (RowKit.intOf i).toNat)
   case atStart => exact ⟨0, by omega, rfl, Below.refl _ _⟩
   case round =>
     obtain ⟨k, hk, rfl, hwr⟩ := hrel
     have HW := Hq hwr
     clear hwr
     by_cases hlk : k < A.length
     . obtain ⟨t, ht⟩ : ∃ t, A[k]? = some t := ⟨_, List.getElem?_eq_getElem hlk⟩
       have hcell : wr.cell? ⟨b, off + k, none⟩ = some (zz t) := by rw [HW.out.cell (p := ⟨b, off + k, none⟩) hlt']; exact HC.out k t ht
       have HT := Hq (HA.out t (List.mem_of_getElem? ht))
       clear ht
       go_wp2_with fail
       refine (zc1 t HT.out _).mono ?_
       rintro e w1 ⟨rfl, hb1⟩
       have HN := Hq (HW.out.trans (hb1.mono (by have := HW.out.size; have := HB.out; omega)))
       clear hb1 hcell
       go_wp2_with fail
       go_roundw
       case rel => exact ⟨k + 1, by omega, by go_num, HN.out⟩
       case measure => simp [RowKit.intOf]; omega
     . obtain rfl : k = A.length := by omega
       have hbw : Below w.heap.size w wr := by have := HB.out; subst this; exact HW.out
       have hj := (fun w' (h : Below wr.heap.size wr w') => zvs A _ cap w' (HR.out.below (zc hbw h)) hl (by omega))
       generalize hf : A.flatten = f at hj hfl2
       have HF := Hq hf
       have HJ := Hq hj
       clear hf hj
       have HBW := Hq hbw
       clear hbw hlk
       by_cases hV : g = [86]
       . subst hV
         go_wp2_with fail
         refine (HJ.out _ (Below.refl _ _)).mono ?_
         rintro e w1 ⟨rfl, hb1⟩
         go_wp2_with fail
         go_ret2
         exact ⟨zo4 (by rw [HF.out]), zc HBW.out hb1⟩
       . have hq : (g == [86]) = false := by rw [beq_eq_false_iff_ne]; exact hV
         have hg : zi g := HG.out.resolve_left hV
         have HK := Hq (fun w => zc1 g hg w)
         clear hg
         go_wp2_with fail
         refine (HK.out _).mono ?_
         rintro e w1 ⟨rfl, hb1⟩
         go_wp2_with fail
         refine (HJ.out _ hb1).mono ?_
         rintro e w2 ⟨rfl, hb2⟩
         go_wp2_with fail
         go_ret2
         exact ⟨zo4 (by rw [HF.out]), zc HBW.out (zc hb1 hb2)⟩
open Classical in
noncomputable def zni (m : List UInt8) : Option (List (List UInt8) × List UInt8) :=
 if h : ∃ p : List (List UInt8) × List UInt8, zk m p.1 p.2 then some h.choose else none
theorem zce {m g : List UInt8} {A : List (List UInt8)} (h : zk m A g) : zni m = some (A, g) := by
 have hex : ∃ p : List (List UInt8) × List UInt8, zk m p.1 p.2 := ⟨(A, g), h⟩
 unfold zni
 rw [dif_pos hex]
 obtain ⟨h1, h2⟩ := zap hex.choose_spec h
 exact congrArg some (Prod.ext h1 h2)
theorem zen {m : List UInt8} (h : ∀ A g, ¬ zk m A g) : zni m = none := by
 unfold zni
 rw [dif_neg (fun ⟨p, hp⟩ => h p.1 p.2 hp)]
theorem zgm {m g : List UInt8} {A : List (List UInt8)} (h : zni m = some (A, g)) : zk m A g := by
 unfold zni at h
 split at h
 . rename_i hex
   have := hex.choose_spec
   rw [Option.some.inj h] at this
   exact this
 . cases h
def zaz (A : List (List UInt8)) (g : List UInt8) : List UInt8 := 40 :: (A.flatten ++ 41 :: g)
noncomputable def chF (m : List UInt8) (r : List (List UInt8) -> Int × List (List UInt8)) : Int × List UInt8 :=
 match zni m with
 | none => (1, [])
 | some (A, g) => if (r A).1 ≠ 0 then ((r A).1, []) else if 5 < (r A).2.length then (4, []) else (0, zaz (r A).2 g)
def zhu (i : Int) (A : List (List UInt8)) : Int × List (List UInt8) := if i < 0 \/ (A.length : Int) <= i then (2, []) else (0, A.eraseIdx i.toNat)
open Classical in
noncomputable def zrn (i : Int) (t : List UInt8) (A : List (List UInt8)) : Int × List (List UInt8) :=
 if i < 0 \/ (A.length : Int) < i then (2, []) else if ¬ zi t then (1, []) else (0, A.take i.toNat ++ t :: A.drop i.toNat)
open Classical in
noncomputable def zb3 (i : Int) (t : List UInt8) (A : List (List UInt8)) : Int × List (List UInt8) :=
 if i < 0 \/ (A.length : Int) <= i then (2, []) else if ¬ zi t then (1, []) else (0, A.set i.toNat t)
def zgu (B : List (List UInt8)) : List Int -> List (List UInt8) -> Int
 | [], _ => 0
 | _ :: _, [] => 0
 | k :: ks, t :: ts => if k < 0 \/ (B.length : Int) <= k then 2 else if B[k.toNat]? ≠ some t then 7 else zgu B ks ts
noncomputable def zgr (at_ : List Int) (all : List UInt8) (A : List (List UInt8)) : Int × List (List UInt8) :=
 match zni all with
 | none => (1, [])
 | some (B, _) => if at_.length ≠ A.length then (8, []) else (zgu B at_ A, B)
noncomputable def zl4 (m : List UInt8) (i : Int) : Int × List UInt8 := chF m (zhu i)
noncomputable def zne (m : List UInt8) (i : Int) (t : List UInt8) : Int × List UInt8 := chF m (zrn i t)
noncomputable def zex (m : List UInt8) (i : Int) (t : List UInt8) : Int × List UInt8 := chF m (zb3 i t)
noncomputable def zm2 (m : List UInt8) (at_ : List Int) (all : List UInt8) : Int × List UInt8 := chF m (zgr at_ all)
noncomputable def zag (m second : List UInt8) (i : Int) (many : Nat) : Int × List (List UInt8) :=
 match zni m with
 | none => (1, [])
 | some (A, _) => if i < 0 \/ (A.length : Int) <= i then (2, []) else match zni second with
   | none => (1, [])
   | some (T, g) => if T.length ≠ many then (8, []) else if A[i.toNat]? ≠ some g then (7, []) else (0, T)
inductive Hd where
 | mk (kind : Int) (ty : List UInt8) (a : Int) (pos : List Int) (pa : Option Addr) (pc : Nat) (subs : List Hd) (sa : Option Addr) (sc : Nat)
def Hd.kind : Hd -> Int | .mk k _ _ _ _ _ _ _ _ => k
def Hd.ty : Hd -> List UInt8 | .mk _ t _ _ _ _ _ _ _ => t
def Hd.a : Hd -> Int | .mk _ _ a _ _ _ _ _ _ => a
def Hd.pos : Hd -> List Int | .mk _ _ _ p _ _ _ _ _ => p
def Hd.pa : Hd -> Option Addr | .mk _ _ _ _ p _ _ _ _ => p
def Hd.pc : Hd -> Nat | .mk _ _ _ _ _ c _ _ _ => c
def Hd.subs : Hd -> List Hd | .mk _ _ _ _ _ _ s _ _ => s
def Hd.sa : Hd -> Option Addr | .mk _ _ _ _ _ _ _ s _ => s
def Hd.sc : Hd -> Nat | .mk _ _ _ _ _ _ _ _ c => c
mutual
def Hd.size : Hd -> Nat
 | .mk _ _ _ _ _ _ subs _ _ => 1 + zd4 subs
def zd4 : List Hd -> Nat
 | [] => 0
 | h :: t => h.size + zd4 t
end
theorem zf8 : ∀ h : Hd, 1 <= h.size
 | .mk _ _ _ _ _ _ _ _ _ => by rw [Hd.size]; omega
theorem zn4 : ∀ (l : List Hd) (h : Hd), zd4 (l ++ [h]) = zd4 l + h.size
 | [], h => by simp [zd4]
 | x :: l, h => by rw [List.cons_append, zd4, zd4, zn4 l h]; omega
theorem zhk : ∀ (l : List Hd) (k : Nat), zd4 (l.take k) <= zd4 l
 | [], k => by simp
 | x :: l, 0 => by simp [zd4]
 | x :: l, k + 1 => by rw [List.take_succ_cons, zd4, zd4]; have := zhk l k; omega
theorem zj1 {l : List Hd} {k : Nat} {h : Hd} (hx : l[k]? = some h) : zd4 (l.take (k + 1)) = zd4 (l.take k) + h.size := by
 have hk : k < l.length := (List.getElem?_eq_some_iff.1 hx).1
 rw [List.take_add_one, hx]
 exact zn4 _ _
theorem zy3 {l : List Hd} {h : Hd} (hm : h ∈ l) : h.size <= zd4 l := by
 obtain ⟨k, hk⟩ := List.getElem?_of_mem hm
 have h1 := zj1 hk
 have h2 := zhk l (k + 1)
 omega
def zdb (t : List UInt8) : Bool := t == [73] || t == [74]
def zb1 (k : Int) : Nat := if k = 4 \/ k = 6 then 1 else if k = 5 \/ k = 7 then 2 else 0
def zcf (k : Int) (t : List UInt8) (a : Int) : List (List UInt8) :=
 if k = 1 then [] else if k = 2 \/ a = 12 then [t] else if 9 <= a /\ a <= 11 then [t, [73]] else [t, t]
def zak (k : Int) (t : List UInt8) (a : Int) : Int × List UInt8 :=
 if (!zdb t) || (k == 3 && (decide (a < 1) || decide (12 < a))) then (1, []) else if k == 1 && (t == [73] && a != wrap32 a) then (2, []) else (0, zaz (zcf k t a) t)
noncomputable def zme (k : Int) (t : List UInt8) (a : Int) (pos : List Int) (ts : List (List UInt8)) : Int × List UInt8 :=
 if k = 4 then zne (ts.getD 0 []) a t else if k = 6 then zm2 (ts.getD 0 []) pos t
 else if k = 5 then (if (zag (ts.getD 0 []) (ts.getD 1 []) a 0).1 ≠ 0 then ((zag (ts.getD 0 []) (ts.getD 1 []) a 0).1, []) else zl4 (ts.getD 0 []) a)
 else (if (zag (ts.getD 0 []) (ts.getD 1 []) a 1).1 ≠ 0 then ((zag (ts.getD 0 []) (ts.getD 1 []) a 1).1, []) else zex (ts.getD 0 []) a ((zag (ts.getD 0 []) (ts.getD 1 []) a 1).2.getD 0 []))
def zki : List (Int × List UInt8) -> Int × List (List UInt8)
 | [] => (0, [])
 | r :: l => if r.1 ≠ 0 then (r.1, []) else if (zki l).1 ≠ 0 then ((zki l).1, []) else (0, r.2 :: (zki l).2)
mutual
noncomputable def Hd.typed : Hd -> Int × List UInt8
 | .mk k t a pos _ _ subs _ _ =>
   if k < 1 \/ 7 < k then (1, []) else if subs.length ≠ zb1 k then (8, []) else if zb1 k = 0 then zak k t a
   else if (zki (zlf subs)).1 ≠ 0 then ((zki (zlf subs)).1, []) else zme k t a pos (zki (zlf subs)).2
noncomputable def zlf : List Hd -> List (Int × List UInt8)
 | [] => []
 | h :: t => h.typed :: zlf t
end
theorem znu : ∀ l : List Hd, zlf l = l.map Hd.typed
 | [] => by simp [zlf]
 | h :: t => by rw [zlf, znu t]; rfl
theorem zr6 : ∀ {l : List (Int × List UInt8)}, (∀ r ∈ l, r.1 = 0) -> zki l = (0, l.map (·.2))
 | [], _ => rfl
 | r :: l, h => by
   have h1 := h r (by simp)
   have h2 := zr6 (l := l) (fun x hx => h x (by simp [hx]))
   simp [zki, h1, h2]
theorem zuz : ∀ {l : List (Int × List UInt8)} {k : Nat} {r : Int × List UInt8}, l[k]? = some r -> (∀ x ∈ l.take k, x.1 = 0) -> r.1 ≠ 0 -> zki l = (r.1, [])
 | [], k, r, h, _, _ => by simp at h
 | x :: l, 0, r, h, _, h0 => by
   simp only [List.getElem?_cons_zero, Option.some.injEq] at h
   subst h
   simp [zki, h0]
 | x :: l, k + 1, r, h, ht, h0 => by
   have h1 := ht x (by simp)
   have h2 := zuz (l := l) (k := k) (by simpa using h) (fun y hy => ht y (by simp [hy])) h0
   simp [zki, h1, h2, h0]
theorem zqu : ∀ {l : List (Int × List UInt8)}, (zki l).1 = 0 -> ∀ r ∈ l, r.1 = 0
 | [], _, r, h => by simp at h
 | x :: l, h0, r, h => by
   unfold zki at h0
   by_cases hx : x.1 = 0
   . rw [if_neg (by simp [hx])] at h0
     by_cases hl : (zki l).1 = 0
     . rcases List.mem_cons.1 h with rfl | h
       . exact hx
       . exact zqu hl r h
     . rw [if_pos hl] at h0
       exact absurd h0 hl
   . rw [if_pos hx] at h0
     exact absurd h0 hx
theorem zhq (h : Hd) : h.typed = if h.kind < 1 \/ 7 < h.kind then (1, []) else if h.subs.length ≠ zb1 h.kind then (8, []) else if zb1 h.kind = 0 then zak h.kind h.ty h.a
   else if (zki (h.subs.map Hd.typed)).1 ≠ 0 then ((zki (h.subs.map Hd.typed)).1, []) else zme h.kind h.ty h.a h.pos (zki (h.subs.map Hd.typed)).2 := by
 cases h
 rw [Hd.typed]
 simp only [znu]
 rfl
theorem zmh (h : Hd) : h.size = 1 + zd4 h.subs := by cases h; rw [Hd.size]; rfl
theorem zxb {h : Hd} (h0 : h.typed.1 = 0) : ∀ s ∈ h.subs, s.typed.1 = 0 := by
 rw [zhq] at h0
 intro s hs
 split at h0
 . exact absurd h0 (by decide)
 split at h0
 . exact absurd h0 (by decide)
 split at h0
 . rename_i h1 h2
   have : h.subs = [] := List.eq_nil_of_length_eq_zero (by omega)
   rw [this] at hs
   simp at hs
 split at h0
 . rename_i h1
   exact absurd h0 h1
 . rename_i h1
   exact zqu (by simpa using h1) s.typed (List.mem_map.2 ⟨s, hs, rfl⟩)
def zc3 (h : Hd) : List Value := [.int .i64 h.kind, .string ⟨⟨h.ty⟩⟩, .int .i64 h.a, .slice h.pa h.pos.length h.pc, .slice h.sa h.subs.length h.sc]
def hdV (h : Hd) : Value := .agg #[.int .i64 h.kind, .string ⟨⟨h.ty⟩⟩, .int .i64 h.a, .slice h.pa h.pos.length h.pc, .slice h.sa h.subs.length h.sc]
inductive zh0 (w : World) : Hd -> Prop
 | mk (h : Hd) (hp : zab w h.pa h.pc (h.pos.map (fun k => .int .i64 k))) (hs : za6 w 5 h.sa h.sc (h.subs.map zc3)) (ht : h.ty.length <= 8388608) (hl : h.subs.length <= 8388608) (hm : h.pos.length <= 8388608) (hk : -9223372036854775808 <= h.kind /\ h.kind <= 9223372036854775807) (haI : -9223372036854775808 <= h.a /\ h.a <= 9223372036854775807) (hsub : ∀ s ∈ h.subs, zh0 w s) : zh0 w h
theorem zh0.moved {w w' : World} {h : Hd} (H : zh0 w h) (hb : Below w.heap.size w w') : zh0 w' h := by
 induction H with
 | mk h hp hs ht hl hm hk haI hsub ih => exact ⟨h, hp.below hb, hs.below hb, ht, hl, hm, hk, haI, ih⟩
theorem zh0.pos {w : World} {h : Hd} (H : zh0 w h) : zab w h.pa h.pc (h.pos.map (fun k => .int .i64 k)) := by cases H; assumption
theorem zh0.row {w : World} {h : Hd} (H : zh0 w h) : za6 w 5 h.sa h.sc (h.subs.map zc3) := by cases H; assumption
theorem zh0.ty {w : World} {h : Hd} (H : zh0 w h) : h.ty.length <= 8388608 := by cases H; assumption
theorem zh0.len {w : World} {h : Hd} (H : zh0 w h) : h.subs.length <= 8388608 := by cases H; assumption
theorem zh0.num {w : World} {h : Hd} (H : zh0 w h) : -9223372036854775808 <= h.a /\ h.a <= 9223372036854775807 := by cases H; assumption
theorem zh0.subs {w : World} {h : Hd} (H : zh0 w h) : ∀ s ∈ h.subs, zh0 w s := by cases H; assumption
theorem zbe {w : World} {a : Option Addr} {cap : Nat} {L : List Hd} (h : za6 w 5 a cap (L.map zc3)) {k : Nat} {x : Hd} (hx : L[k]? = some x) : ∃ b off, a = some ⟨b, off, none⟩ /\ b < w.heap.size /\
   w.cell? ⟨b, off + k * 5, none⟩ = some (.int .i64 x.kind) /\ w.cell? ⟨b, off + k * 5 + 1, none⟩ = some (.string ⟨⟨x.ty⟩⟩) /\ w.cell? ⟨b, off + k * 5 + 2, none⟩ = some (.int .i64 x.a) /\
   w.cell? ⟨b, off + k * 5 + 3, none⟩ = some (.slice x.pa x.pos.length x.pc) /\ w.cell? ⟨b, off + k * 5 + 4, none⟩ = some (.slice x.sa x.subs.length x.sc) := by
 obtain ⟨_, h2 | ⟨b, off, rfl, hlt, hc⟩⟩ := h
 . have : L = [] := by simpa using h2
   subst this; simp at hx
 . have hk : (L.map zc3)[k]? = some (zc3 x) := by rw [List.getElem?_map, hx]; rfl
   have hh := hc k _ hk
   exact ⟨b, off, rfl, hlt, hh 0 _ rfl, hh 1 _ rfl, hh 2 _ rfl, hh 3 _ rfl, hh 4 _ rfl⟩
def zrx (k n : Nat) : Nat := min n (k + 1)
theorem zth {w0 : World} {h : Hd} (H : zh0 w0 h) : ∀ (k : Nat) (z : Int) (w : World), z = k -> k <= 1000 -> Below w0.heap.size w0 w ->
   Calls Tryz.prog 28 #[hdV h, .int .i64 z] w fun e w' => e = .returned (.int .i64 (zrx k h.size)) /\ Below w.heap.size w w' := by
 induction H with
 | mk h hp hs ht hl hm hkn haI hsub ih =>
   intro k z w hz hk hb
   subst hz
   have HS := Hq (hs.below hb)
   have HIH := Hq (fun (i : Nat) (s : Hd) (hi : h.subs[i]? = some s) => ih s (List.mem_of_getElem? hi))
   have HB := Hq hb
   have HSZ := Hq (zmh h)
   clear hp hs ht hm hkn haI hsub ih hb
   unfold hdV
   go_enter Tryz.func28, Tryz.ntmps28
   go_wp2_with fail
   obtain ⟨w1, hw1⟩ : ∃ w1, w1 = w.alloc (.cells #[.int .i64 h.kind, .string ⟨⟨h.ty⟩⟩, .int .i64 h.a, .slice h.pa h.pos.length h.pc, .slice h.sa h.subs.length h.sc] 25) := ⟨_, rfl⟩
   have HB1 := Hq (show Below w.heap.size w w1 by rw [hw1]; exact ze (Below.refl _ _) _)
   rw [<- hw1]
   clear hw1
   go_loopw [5, 11] (fun n i wr => ∃ j : Nat, j <= h.subs.length /\ i = .int .i64 j /\ n = .int .i64 ((zrx k (1 + zd4 (h.subs.take j)) : Nat) : Int) /\ Below w1.heap.size w1 wr) (fun _ i _ => h.subs.length - (RowKit.intOf i).toNat)
   case atStart => exact ⟨0, by omega, rfl, by simp [zrx, zd4], Below.refl _ _⟩
   case round =>
     obtain ⟨j, hj, rfl, rfl, hbr⟩ := hrel
     have HBR := Hq (zc HB1.out hbr)
     have HBR1 := Hq hbr
     have hsr := hbr.size
     clear hbr
     by_cases hlj : j < h.subs.length
     . obtain ⟨x, hx⟩ : ∃ x, h.subs[j]? = some x := ⟨_, List.getElem?_eq_getElem hlj⟩
       obtain ⟨b, off, hsa, hlt, c0, c1, c2, c3, c4⟩ := zbe (HS.out.below HBR.out) hx
       have HSS := Hq (zj1 hx)
       have HI := Hq (HIH.out j x hx)
       rw [hsa]
       clear hx hsa
       obtain ⟨N, hN⟩ : ∃ N, N = zrx k (1 + zd4 (h.subs.take j)) := ⟨_, rfl⟩
       rw [<- hN]
       have HN := Hq hN
       have hNk : N <= k + 1 := by rw [hN]; unfold zrx; omega
       clear hN
       by_cases hn : N <= k
       . have hn2 : (N : Int) <= (k : Int) := by omega
         have HC := Hq (fun (w' : World) (hb : Below w0.heap.size w0 w') => HI.out (k - N) ((k : Int) - (N : Int)) w' (by omega) (by omega) hb)
         obtain ⟨q, hq⟩ : ∃ q, q = zrx (k - N) x.size := ⟨_, rfl⟩
         have hqk : q <= k - N + 1 := by rw [hq]; unfold zrx; omega
         have HNN := Hq (show N + q = zrx k (1 + zd4 (h.subs.take (j + 1))) by
           have h1 := HN.out
           have h2 := HSS.out
           rw [hq, h2]
           unfold zrx at h1 |-
           omega)
         rw [<- hq] at HC
         unfold hdV at HC
         clear hq hn
         go_wp2_with fail
         refine (HC.out _ ?_).mono ?_
         . exact (HB.out.trans (HBR.out.mono HB.out.size)).alloc (by have := HB.out.size; have := HBR.out.size; omega) _
         rintro e w4 ⟨rfl, hb4⟩
         have HB4 := Hq ((HBR1.out.alloc hsr _).trans (hb4.mono (by simp; omega)))
         clear hb4
         go_wp2_with fail
         go_roundw
         case rel => exact ⟨j + 1, by omega, by go_num, by rw [<- HNN.out]; go_num, HB4.out⟩
         case measure => simp [RowKit.intOf]; omega
       . have hn2 : ¬ (N : Int) <= (k : Int) := by omega
         have HNN := Hq (show N = zrx k (1 + zd4 (h.subs.take (j + 1))) by
           have h1 := HN.out
           have h2 := HSS.out
           rw [h2]
           unfold zrx at h1 |-
           omega)
         go_wp2_with fail
         go_roundw
         case rel => exact ⟨j + 1, by omega, by go_num, by rw [<- HNN.out], HBR1.out.alloc hsr _⟩
         case measure => simp [RowKit.intOf]; omega
     . obtain rfl : j = h.subs.length := by omega
       rw [List.take_length, <- HSZ.out]
       obtain ⟨N, hN⟩ : ∃ N, N = zrx k h.size := ⟨_, rfl⟩
       rw [<- hN]
       have HN := Hq hN
       clear hN
       go_wp2_with fail
       go_ret
       exact ⟨by rw [<- HN.out]; rfl, HBR.out⟩
theorem zan {W : World} {B g : Nat} (hg : B <= g) : ∀ (vs : List Value) (o : Nat) (w : World), Below B W w -> Below B W (w.setCells g o vs)
 | [], _, _, h => h
 | v :: r, o, w, h => zan hg r (o + 1) _ (h.setCell (p := ⟨g, o, none⟩) hg v)
theorem zas (g : Nat) : ∀ (vs : List Value) (o : Nat) (w : World), (w.setCells g o vs).heap.size = w.heap.size
 | [], _, _ => rfl
 | v :: r, o, w => by rw [World.setCells, zas g r]; simp [World.setCell]
theorem zec (g : Nat) (vs : List Value) (o : Nat) (w : World) (h : ∀ j, j < vs.length -> (w.cell? ⟨g, o + j, none⟩).isSome = true) {k : Nat} (hk : (w.cell? ⟨g, k, none⟩).isSome = true) : ((w.setCells g o vs).cell? ⟨g, k, none⟩).isSome = true := by
 by_cases hin : o <= k /\ k < o + vs.length
 . have := World.cell?_setCells_in g vs o w h (k - o) (by omega)
   rw [show o + (k - o) = k by omega] at this
   rw [this]; rfl
 . rw [World.cell?_setCells_out g vs o w ⟨g, k, none⟩ (fun _ _ => by show k < o \/ o + vs.length <= k; omega)]
   exact hk
def z4w (A : List (List UInt8)) (k : Nat) (t : List UInt8) : List (List UInt8) := A.take k ++ t :: A.drop k
theorem zhm (A : List (List UInt8)) (k : Nat) (t : List UInt8) : (z4w A k t).length = A.length + 1 := by unfold z4w; simp; omega
theorem zku {A : List (List UInt8)} {k j : Nat} {t x : List UInt8} (hk : k <= A.length) (h : (z4w A k t)[j]? = some x) : (j < k /\ A[j]? = some x) \/ (j = k /\ x = t) \/ (k < j /\ A[j - 1]? = some x) := by
 unfold z4w at h
 have hl : (A.take k).length = k := by rw [List.length_take]; omega
 by_cases h1 : j < k
 . left
   rw [List.getElem?_append_left (by omega), List.getElem?_take_of_lt h1] at h
   exact ⟨h1, h⟩
 . rw [List.getElem?_append_right (by omega), hl] at h
   by_cases h2 : j = k
   . subst h2
     simp at h
     exact Or.inr (Or.inl ⟨rfl, h.symm⟩)
   . obtain ⟨d, hd⟩ : ∃ d, j - k = d + 1 := ⟨j - k - 1, by omega⟩
     rw [hd, List.getElem?_cons_succ, List.getElem?_drop] at h
     refine Or.inr (Or.inr ⟨by omega, ?_⟩)
     rw [show j - 1 = k + d by omega]; exact h
def z7y (A : List (List UInt8)) (k : Nat) (t : List UInt8) (B : Nat) (W : World) (e : Ending) (w' : World) : Prop :=
 ∃ a cap, e = .returned (.slice a (A.length + 1) cap) /\ zdl w' a cap (z4w A k t) /\ Below B W w'
theorem zt6 (A : List (List UInt8)) : ∀ v ∈ A.map zz, v.oneCell' = true := by
 intro v hv
 obtain ⟨x, _, rfl⟩ := List.mem_map.1 hv
 rfl
theorem zvo (A : List (List UInt8)) (v : Value) (k : Nat) (t : List UInt8) (vb : Nat) (W : World) (B : Nat) (hk : k <= A.length) (hl : A.length <= 1000) (hown : W.ownsRow B 9 1 v A.length (A.map zz)) (hb : Blk W vb 9 #[zz t]) (hne : v.ownBlock ≠ some vb) (hB : B <= W.heap.size) :
   Calls Tryz.prog 102 #[v, .int .i64 (k : Int), .slice (some ⟨vb, 0, none⟩) 1 1] W (z7y A k t B W) := by
 have hvs : ∀ j u, ([zz t] : List Value)[j]? = some u -> W.cell? ⟨vb, 0 + j, none⟩ = some u := by
   intro j u hj
   rw [hb.cell, Nat.zero_add]
   simpa using hj
 have h1v : ∀ u ∈ ([zz t] : List Value), u.oneCell' = true := by
   intro u hu
   rw [List.mem_singleton.1 hu]; rfl
 rcases hown.2 with ⟨rfl, h0⟩ | ⟨g, cap, cur, rfl, hBg, hg, hle, hm, hcs, htk⟩
 . have hA : A = [] := List.eq_nil_of_length_eq_zero h0
   subst hA
   obtain rfl : k = 0 := by simpa using hk
   refine (Any2.slices_Insert_string_end_grow Tryz.laysNm222 none 0 0 vb 0 1 1 [] [zz t] W (by omega) (by omega) (by omega) (by omega) rfl rfl (fun _ => rfl) (fun a h => by cases h) hvs h1v).mono ?_
   rintro e w' ⟨rfl, rfl⟩
   refine ⟨_, _, rfl, ⟨?_, Or.inr ⟨W.heap.size, 0, rfl, by simp, fun j x hx => ?_⟩⟩, (Below.drew (Below.refl B W)).alloc hB _⟩
   . show 1 <= _
     exact grownCap_ge W (0 + 1) 0 _
   . rcases zku (A := []) (by simp) hx with ⟨h, _⟩ | ⟨rfl, rfl⟩ | ⟨h, h2⟩
     . omega
     . show (World.alloc W.drew _).cell? ⟨W.drew.heap.size, 0 + 0, none⟩ = _
       rw [World.cell?_alloc_new, Array.getElem?_append_left (by simp)]
       rfl
     . simp at h2
 . simp only [Nat.mul_one] at hcs htk
   have hbk : Blk W g 9 cur := hg
   have hcell : ∀ j u, (A.map zz)[j]? = some u -> W.cell? ⟨g, 0 + j, none⟩ = some u := by
     intro j u hj
     rw [hbk.cell, Nat.zero_add]
     have hjl : j < (A.map zz).length := (List.getElem?_eq_some_iff.1 hj).1
     rw [<- htk] at hj
     rw [List.length_map] at hjl
     rw [List.getElem?_take_of_lt hjl] at hj
     rw [<- Array.getElem?_toList]; exact hj
   have hsome : ∀ j, j < cap -> (W.cell? ⟨g, 0 + j, none⟩).isSome = true := by
     intro j hj
     rw [hbk.cell, Nat.zero_add]
     simp; omega
   have hfz : ∀ j, W.frozen? ⟨g, 0 + j, none⟩ = false := fun j => hbk.frozen _
   have hneb : vb ≠ g := fun e => hne (by rw [e]; rfl)
   have hlm : (A.map zz).length = A.length := List.length_map _
   by_cases hend : k = A.length
   . subst hend
     by_cases hroom : A.length + 1 <= cap
     . refine (Any2.slices_Insert_string_end_room Tryz.laysNm222 g 0 A.length cap vb 0 1 1 [zz t] W (by omega) hroom (by unfold maxLen at hm; omega) rfl (fun j hj => by rw [show 0 + A.length + j = 0 + (A.length + j) by omega]; exact hsome _ (by omega)) (fun j _ => hbk.frozen _) hvs h1v).mono ?_
       rintro e w' ⟨rfl, rfl⟩
       refine ⟨_, _, rfl, ⟨by rw [zhm]; exact hroom, Or.inr ⟨g, 0, rfl, by rw [zas]; exact hbk.lt, fun j x hx => ?_⟩⟩, zan hBg _ _ _ (Below.refl _ _)⟩
       rcases zku (Nat.le_refl _) hx with ⟨h, h2⟩ | ⟨rfl, rfl⟩ | ⟨h, h2⟩
       . rw [World.cell?_setCells_out g _ _ _ _ (fun _ _ => by show 0 + j < 0 + A.length \/ _; omega)]
         exact hcell j _ (by rw [List.getElem?_map, h2]; rfl)
       . have := World.cell?_setCells_in g [zz x] (0 + A.length) W (fun i hi => by simp at hi; subst hi; exact hsome (A.length + 0) (by omega)) 0 (by simp)
         simpa using this
       . have := (List.getElem?_eq_some_iff.1 h2).1
         omega
     . refine (Any2.slices_Insert_string_end_grow Tryz.laysNm222 (some ⟨g, 0, none⟩) A.length cap vb 0 1 1 (A.map zz) [zz t] W (by omega) hle (by omega) (by omega) hlm rfl (fun h => by cases h) (fun a h j u hj => by cases h; rw [Addr.add_lit]; exact hcell j u hj) hvs h1v).mono ?_
       rintro e w' ⟨rfl, rfl⟩
       refine ⟨_, _, rfl, ⟨by rw [zhm]; exact grownCap_ge W _ _ _, Or.inr ⟨W.heap.size, 0, rfl, by simp, fun j x hx => ?_⟩⟩, (Below.drew (Below.refl B W)).alloc hB _⟩
       show (World.alloc W.drew _).cell? ⟨W.drew.heap.size, 0 + j, none⟩ = _
       rw [World.cell?_alloc_new, Nat.zero_add]
       have hjl : j < A.length + 1 := by have := (List.getElem?_eq_some_iff.1 hx).1; rw [zhm] at this; exact this
       rw [Array.getElem?_append_left (by simp; omega), List.getElem?_toArray]
       unfold z4w at hx
       rw [List.take_length, List.drop_length] at hx
       rw [show A.map zz ++ [zz t] = (A ++ [t]).map zz by simp, List.getElem?_map, hx]
       rfl
   . have hki : k < A.length := by omega
     by_cases hroom : A.length + 1 <= cap
     . refine (Any2.slices_Insert_string_shift Tryz.laysNm222 g 0 A.length cap k vb 0 1 1 (A.map zz) [zz t] W hki (by omega) hroom (by unfold maxLen at hm; omega) hneb hlm rfl hcell (fun j hj => hsome j (by omega)) (fun j _ => hfz j) hvs (zt6 A) h1v 9 9 1 cap (by unfold World.shape?; rw [show W.heap[vb]? = _ from hb]; rfl) (by unfold World.shape?; rw [hg]; simp [hcs]) (by omega) (hb.frozen _) (hb.frozen _)).mono ?_
       rintro e w' ⟨rfl, rfl⟩
       have hdl : (List.drop k (A.map zz)).length = A.length - k := by simp
       have hs1 : ∀ i, i < (List.drop k (A.map zz)).length -> (W.drew.cell? ⟨g, 0 + (k + 1) + i, none⟩).isSome = true := fun i hi => by
         rw [show 0 + (k + 1) + i = 0 + (k + 1 + i) by omega]; exact hsome _ (by omega)
       have hs2 : ∀ i, i < ([zz t] : List Value).length -> ((W.drew.setCells g (0 + (k + 1)) (List.drop k (A.map zz))).cell? ⟨g, 0 + k + i, none⟩).isSome = true := fun i hi => by
         refine zec g _ _ _ hs1 ?_
         rw [show 0 + k + i = 0 + (k + i) by omega]
         exact hsome _ (by simp at hi; omega)
       refine ⟨_, _, rfl, ⟨by rw [zhm]; exact hroom, Or.inr ⟨g, 0, rfl, by rw [zas, zas]; exact hbk.lt, fun j x hx => ?_⟩⟩, zan hBg _ _ _ (zan hBg _ _ _ (Below.drew (Below.refl _ _)))⟩
       rcases zku hk hx with ⟨h, h2⟩ | ⟨rfl, rfl⟩ | ⟨h, h2⟩
       . rw [World.cell?_setCells_out g _ _ _ _ (fun _ _ => by show 0 + j < 0 + k \/ _; omega), World.cell?_setCells_out g _ _ _ _ (fun _ _ => by show 0 + j < 0 + (k + 1) \/ _; omega)]
         exact hcell j _ (by rw [List.getElem?_map, h2]; rfl)
       . have := World.cell?_setCells_in g [zz x] (0 + j) _ hs2 0 (by simp)
         simpa using this
       . have hjl := (List.getElem?_eq_some_iff.1 h2).1
         rw [World.cell?_setCells_out g _ _ _ _ (fun _ _ => by show 0 + j < 0 + k \/ 0 + k + 1 <= 0 + j; omega)]
         have := World.cell?_setCells_in g (List.drop k (A.map zz)) (0 + (k + 1)) W.drew hs1 (j - (k + 1)) (by omega)
         rw [show 0 + (k + 1) + (j - (k + 1)) = 0 + j by omega] at this
         rw [this]
         have e1 : (List.drop k (A.map zz))[j - (k + 1)]? = some (zz x) := by
           rw [List.getElem?_drop, show k + (j - (k + 1)) = j - 1 by omega, List.getElem?_map, h2]; rfl
         rw [List.getElem?_eq_getElem (by omega)] at e1
         exact e1
     . refine (Any2.slices_Insert_string_grow Tryz.laysNm222 g 0 A.length cap k vb 0 1 1 (A.map zz) [zz t] W hki (by omega) hle (by omega) (by omega) hlm rfl hcell hvs (zt6 A) h1v).mono ?_
       rintro e w' ⟨rfl, rfl⟩
       obtain ⟨gc, hgc⟩ : ∃ gc, gc = grownCap W (A.length + 1) cap (Tryz.laysNm222_ren.t 9) := ⟨_, rfl⟩
       have hgl : A.length + 1 <= gc := by rw [hgc]; exact grownCap_ge W _ _ _
       rw [<- hgc]
       obtain ⟨W0, hW0⟩ : ∃ W0, W0 = W.alloc (.cells (((A.map zz).take k).toArray ++ Builtin.zeroCells (Value.string ⟨#[]⟩).cells (A.length + 1 - k) ++ Builtin.zeroCells (Value.string ⟨#[]⟩).cells (gc - (A.length + 1))) 9) := ⟨_, rfl⟩
       have hzc : ∀ n, (Builtin.zeroCells (Value.string ⟨#[]⟩).cells n).size = n := fun n => by rw [size_zeroCells]; exact Nat.mul_one n
       have hnew : ∀ j, W0.cell? ⟨W.heap.size, j, none⟩ = (((A.map zz).take k).toArray ++ Builtin.zeroCells (Value.string ⟨#[]⟩).cells (A.length + 1 - k) ++ Builtin.zeroCells (Value.string ⟨#[]⟩).cells (gc - (A.length + 1)))[j]? := fun j => by rw [hW0, World.cell?_alloc_new]
       have htl : ((A.map zz).take k).length = k := by simp; omega
       have hsz : ∀ j, j < gc -> (W0.cell? ⟨W.heap.size, j, none⟩).isSome = true := fun j hj => by
         rw [hnew j]
         rw [Array.getElem?_eq_getElem (by simp only [Array.size_append, hzc, List.size_toArray, htl]; omega)]
         rfl
       have hw0s : W0.heap.size = W.heap.size + 1 := by rw [hW0]; simp
       have hb0 : Below B W W0 := by rw [hW0]; exact (Below.refl B W).alloc hB _
       have hold : ∀ j x, j < k -> A[j]? = some x -> W0.cell? ⟨W.heap.size, j, none⟩ = some (zz x) := fun j x hj hx => by
         rw [hnew j, Array.getElem?_append_left (by simp only [Array.size_append, hzc, List.size_toArray, htl]; omega), Array.getElem?_append_left (by rw [List.size_toArray, htl]; exact hj), List.getElem?_toArray, List.getElem?_take_of_lt hj, List.getElem?_map, hx]
         rfl
       rw [show W.alloc (.cells (((A.map zz).take k).toArray ++ Builtin.zeroCells (Value.string ⟨#[]⟩).cells (A.length + 1 - k) ++ Builtin.zeroCells (Value.string ⟨#[]⟩).cells (gc - (A.length + 1))) (Tryz.laysNm222_ren.t 9)) = W0 from hW0.symm]
       clear hW0 hnew
       have hdl : (List.drop k (A.map zz)).length = A.length - k := by simp
       have hs1 : ∀ i, i < ([zz t] : List Value).length -> (W0.drew.cell? ⟨W.heap.size, k + i, none⟩).isSome = true := fun i hi => hsz (k + i) (by simp at hi; omega)
       have hs2 : ∀ i, i < (List.drop k (A.map zz)).length -> ((W0.drew.setCells W.heap.size k [zz t]).drew.cell? ⟨W.heap.size, k + 1 + i, none⟩).isSome = true := fun i hi => by
         refine zec W.heap.size [zz t] k W0.drew hs1 ?_
         exact hsz (k + 1 + i) (by omega)
       refine ⟨_, _, rfl, ⟨by rw [zhm]; exact hgl, Or.inr ⟨W.heap.size, 0, rfl, by rw [zas]; show W.heap.size < (World.setCells _ _ _ _).heap.size; rw [zas]; show W.heap.size < W0.heap.size; omega, fun j x hx => ?_⟩⟩, zan hB _ _ _ (Below.drew (zan hB _ _ _ (Below.drew hb0)))⟩
       rw [Nat.zero_add]
       rcases zku hk hx with ⟨h, h2⟩ | ⟨rfl, rfl⟩ | ⟨h, h2⟩
       . rw [World.cell?_setCells_out W.heap.size _ _ _ _ (fun _ _ => by show j < k + 1 \/ _; omega)]
         show (World.setCells W0.drew W.heap.size k [zz t]).cell? _ = _
         rw [World.cell?_setCells_out W.heap.size _ _ _ _ (fun _ _ => by show j < k \/ _; omega)]
         exact hold j x h h2
       . rw [World.cell?_setCells_out W.heap.size _ _ _ _ (fun _ _ => by show j < j + 1 \/ _; omega)]
         have := World.cell?_setCells_in W.heap.size [zz x] j W0.drew hs1 0 (by simp)
         simpa using this
       . have hjl := (List.getElem?_eq_some_iff.1 h2).1
         have := World.cell?_setCells_in W.heap.size (List.drop k (A.map zz)) (k + 1) _ hs2 (j - (k + 1)) (by omega)
         rw [show k + 1 + (j - (k + 1)) = j by omega] at this
         rw [this]
         have e1 : (List.drop k (A.map zz))[j - (k + 1)]? = some (zz x) := by
           rw [List.getElem?_drop, show k + (j - (k + 1)) = j - 1 by omega, List.getElem?_map, h2]; rfl
         rw [List.getElem?_eq_getElem (by omega)] at e1
         exact e1
def z59 (n : Int) : Value := if n = 0 then .nilIface else zby n
theorem zqp : z59 0 = .nilIface := rfl
theorem zed {n : Int} (h : n ≠ 0) : z59 n = zby n := if_neg h
def z39 (w : World) (r : Int × List (List UInt8)) (e : Ending) (w' : World) : Prop :=
 Below w.heap.size w w' /\ ((r.1 ≠ 0 /\ ∃ x, e = .returned (.tuple #[x, zby r.1])) \/ (r.1 = 0 /\ ∃ a cap, e = .returned (.tuple #[.slice a r.2.length cap, .nilIface]) /\ zdl w' a cap r.2))
def zg0 (w : World) (r : Int × List UInt8) (e : Ending) (w' : World) : Prop := e = .returned (.tuple #[.string ⟨⟨r.2⟩⟩, z59 r.1]) /\ Below w.heap.size w w'
theorem z7j (m : List UInt8) (hm : m.length <= 8388608) (lb : Array Value) (w : World) (r : List (List UInt8) -> Int × List (List UInt8))
   (hty : ∀ A, (∀ t ∈ A, zi t) -> (r A).1 = 0 -> ∀ t ∈ (r A).2, zi t)
   (hf : ∀ A v W, (∀ t ∈ A, zi t) -> A.length <= 5 -> Below w.heap.size w W -> W.ownsRow w.heap.size 9 1 v A.length (A.map zz) -> Calls Tryz.prog 101 (#[v] ++ lb) W (z39 w (r A))) :
   Calls Tryz.prog 100 #[.string ⟨⟨m⟩⟩, .func (.func 101) #[] lb] w (zg0 w (chF m r)) := by
 have HF := Hq hf
 have HTY := Hq hty
 clear hf hty
 go_enter Tryz.func100, Tryz.ntmps100
 go_wp2_with fail
 refine (zat m hm _).mono ?_
 rintro e w1 ⟨hb1, ⟨rfl, hno⟩ | ⟨v, A, gv, rfl, hA, hown⟩⟩
 . have HC := Hq (show chF m r = (1, []) by unfold chF; rw [zen hno])
   clear hno
   go_wp2_with fail
   go_ret2
   exact ⟨by rw [HC.out]; rfl, hb1⟩
 . have HC := Hq (show chF m r = if (r A).1 ≠ 0 then ((r A).1, []) else if 5 < (r A).2.length then (4, []) else (0, zaz (r A).2 gv) by unfold chF; rw [zce hA])
   have HFA := Hq (HF.out A v w1 hA.2.1 hA.2.2.1 hb1 hown)
   have HTA := Hq (HTY.out A hA.2.1)
   have HGV := Hq hA.2.2.2
   clear hA hown hb1
   generalize r A = ra at *
   obtain ⟨n, L⟩ := ra
   go_wp2_with fail
   refine HFA.out.mono ?_
   rintro e w2 ⟨hb2, ⟨hn, x, rfl⟩ | ⟨hn, a, cap, rfl, hr⟩⟩
   . have HN := Hq hn
     clear hn
     go_wp2_with fail
     go_ret2
     exact ⟨by rw [HC.out, if_pos HN.out]; simp only; rw [zed HN.out]; rfl, hb2⟩
   . have HR := Hq hr
     have HN := Hq hn
     have HB2 := Hq hb2
     clear hn hr hb2
     by_cases h5 : 5 < L.length
     . have HK := Hq (fun w => zjd a L.length cap ⟨⟨gv⟩⟩ w h5)
       have HC2 := Hq (show chF m r = (4, []) by rw [HC.out, if_neg (by simpa using HN.out), if_pos h5])
       clear h5
       go_wp2_with fail
       refine (HK.out _).mono ?_
       rintro e w3 ⟨rfl, rfl⟩
       go_wp2_with fail
       go_ret2
       exact ⟨by rw [HC2.out]; rfl, HB2.out⟩
     . have HK := Hq (zlt L a cap gv w2 HR.out (by omega) (HTA.out HN.out) HGV.out)
       have HC2 := Hq (show chF m r = (0, zaz L gv) by rw [HC.out, if_neg (by simpa using HN.out), if_neg h5])
       clear h5
       go_wp2_with fail
       refine HK.out.mono ?_
       rintro e w3 ⟨rfl, hb3⟩
       go_wp2_with fail
       go_ret2
       exact ⟨by rw [HC2.out]; rfl, zc HB2.out hb3⟩
theorem zyz (m : List UInt8) (hm : m.length <= 8388608) (lb : Array Value) (w : World) (r : List (List UInt8) -> Int × List (List UInt8))
   (hty : ∀ A, (∀ t ∈ A, zi t) -> (r A).1 = 0 -> ∀ t ∈ (r A).2, zi t)
   (hf : ∀ A v W, (∀ t ∈ A, zi t) -> A.length <= 5 -> Below w.heap.size w W -> W.ownsRow w.heap.size 9 1 v A.length (A.map zz) -> Calls Tryz.prog 106 (#[v] ++ lb) W (z39 w (r A))) :
   Calls Tryz.prog 100 #[.string ⟨⟨m⟩⟩, .func (.func 106) #[] lb] w (zg0 w (chF m r)) := by
 have HF := Hq hf
 have HTY := Hq hty
 clear hf hty
 go_enter Tryz.func100, Tryz.ntmps100
 go_wp2_with fail
 refine (zat m hm _).mono ?_
 rintro e w1 ⟨hb1, ⟨rfl, hno⟩ | ⟨v, A, gv, rfl, hA, hown⟩⟩
 . have HC := Hq (show chF m r = (1, []) by unfold chF; rw [zen hno])
   clear hno
   go_wp2_with fail
   go_ret2
   exact ⟨by rw [HC.out]; rfl, hb1⟩
 . have HC := Hq (show chF m r = if (r A).1 ≠ 0 then ((r A).1, []) else if 5 < (r A).2.length then (4, []) else (0, zaz (r A).2 gv) by unfold chF; rw [zce hA])
   have HFA := Hq (HF.out A v w1 hA.2.1 hA.2.2.1 hb1 hown)
   have HTA := Hq (HTY.out A hA.2.1)
   have HGV := Hq hA.2.2.2
   clear hA hown hb1
   generalize r A = ra at *
   obtain ⟨n, L⟩ := ra
   go_wp2_with fail
   refine HFA.out.mono ?_
   rintro e w2 ⟨hb2, ⟨hn, x, rfl⟩ | ⟨hn, a, cap, rfl, hr⟩⟩
   . have HN := Hq hn
     clear hn
     go_wp2_with fail
     go_ret2
     exact ⟨by rw [HC.out, if_pos HN.out]; simp only; rw [zed HN.out]; rfl, hb2⟩
   . have HR := Hq hr
     have HN := Hq hn
     have HB2 := Hq hb2
     clear hn hr hb2
     by_cases h5 : 5 < L.length
     . have HK := Hq (fun w => zjd a L.length cap ⟨⟨gv⟩⟩ w h5)
       have HC2 := Hq (show chF m r = (4, []) by rw [HC.out, if_neg (by simpa using HN.out), if_pos h5])
       clear h5
       go_wp2_with fail
       refine (HK.out _).mono ?_
       rintro e w3 ⟨rfl, rfl⟩
       go_wp2_with fail
       go_ret2
       exact ⟨by rw [HC2.out]; rfl, HB2.out⟩
     . have HK := Hq (zlt L a cap gv w2 HR.out (by omega) (HTA.out HN.out) HGV.out)
       have HC2 := Hq (show chF m r = (0, zaz L gv) by rw [HC.out, if_neg (by simpa using HN.out), if_neg h5])
       clear h5
       go_wp2_with fail
       refine HK.out.mono ?_
       rintro e w3 ⟨rfl, hb3⟩
       go_wp2_with fail
       go_ret2
       exact ⟨by rw [HC2.out]; rfl, zc HB2.out hb3⟩
theorem z4x (m : List UInt8) (hm : m.length <= 8388608) (lb : Array Value) (w : World) (r : List (List UInt8) -> Int × List (List UInt8))
   (hty : ∀ A, (∀ t ∈ A, zi t) -> (r A).1 = 0 -> ∀ t ∈ (r A).2, zi t)
   (hf : ∀ A v W, (∀ t ∈ A, zi t) -> A.length <= 5 -> Below w.heap.size w W -> W.ownsRow w.heap.size 9 1 v A.length (A.map zz) -> Calls Tryz.prog 104 (#[v] ++ lb) W (z39 w (r A))) :
   Calls Tryz.prog 100 #[.string ⟨⟨m⟩⟩, .func (.func 104) #[] lb] w (zg0 w (chF m r)) := by
 have HF := Hq hf
 have HTY := Hq hty
 clear hf hty
 go_enter Tryz.func100, Tryz.ntmps100
 go_wp2_with fail
 refine (zat m hm _).mono ?_
 rintro e w1 ⟨hb1, ⟨rfl, hno⟩ | ⟨v, A, gv, rfl, hA, hown⟩⟩
 . have HC := Hq (show chF m r = (1, []) by unfold chF; rw [zen hno])
   clear hno
   go_wp2_with fail
   go_ret2
   exact ⟨by rw [HC.out]; rfl, hb1⟩
 . have HC := Hq (show chF m r = if (r A).1 ≠ 0 then ((r A).1, []) else if 5 < (r A).2.length then (4, []) else (0, zaz (r A).2 gv) by unfold chF; rw [zce hA])
   have HFA := Hq (HF.out A v w1 hA.2.1 hA.2.2.1 hb1 hown)
   have HTA := Hq (HTY.out A hA.2.1)
   have HGV := Hq hA.2.2.2
   clear hA hown hb1
   generalize r A = ra at *
   obtain ⟨n, L⟩ := ra
   go_wp2_with fail
   refine HFA.out.mono ?_
   rintro e w2 ⟨hb2, ⟨hn, x, rfl⟩ | ⟨hn, a, cap, rfl, hr⟩⟩
   . have HN := Hq hn
     clear hn
     go_wp2_with fail
     go_ret2
     exact ⟨by rw [HC.out, if_pos HN.out]; simp only; rw [zed HN.out]; rfl, hb2⟩
   . have HR := Hq hr
     have HN := Hq hn
     have HB2 := Hq hb2
     clear hn hr hb2
     by_cases h5 : 5 < L.length
     . have HK := Hq (fun w => zjd a L.length cap ⟨⟨gv⟩⟩ w h5)
       have HC2 := Hq (show chF m r = (4, []) by rw [HC.out, if_neg (by simpa using HN.out), if_pos h5])
       clear h5
       go_wp2_with fail
       refine (HK.out _).mono ?_
       rintro e w3 ⟨rfl, rfl⟩
       go_wp2_with fail
       go_ret2
       exact ⟨by rw [HC2.out]; rfl, HB2.out⟩
     . have HK := Hq (zlt L a cap gv w2 HR.out (by omega) (HTA.out HN.out) HGV.out)
       have HC2 := Hq (show chF m r = (0, zaz L gv) by rw [HC.out, if_neg (by simpa using HN.out), if_neg h5])
       clear h5
       go_wp2_with fail
       refine HK.out.mono ?_
       rintro e w3 ⟨rfl, hb3⟩
       go_wp2_with fail
       go_ret2
       exact ⟨by rw [HC2.out]; rfl, zc HB2.out hb3⟩
theorem z6q (m : List UInt8) (hm : m.length <= 8388608) (lb : Array Value) (w : World) (r : List (List UInt8) -> Int × List (List UInt8))
   (hty : ∀ A, (∀ t ∈ A, zi t) -> (r A).1 = 0 -> ∀ t ∈ (r A).2, zi t)
   (hf : ∀ A v W, (∀ t ∈ A, zi t) -> A.length <= 5 -> Below w.heap.size w W -> W.ownsRow w.heap.size 9 1 v A.length (A.map zz) -> Calls Tryz.prog 103 (#[v] ++ lb) W (z39 w (r A))) :
   Calls Tryz.prog 100 #[.string ⟨⟨m⟩⟩, .func (.func 103) #[] lb] w (zg0 w (chF m r)) := by
 have HF := Hq hf
 have HTY := Hq hty
 clear hf hty
 go_enter Tryz.func100, Tryz.ntmps100
 go_wp2_with fail
 refine (zat m hm _).mono ?_
 rintro e w1 ⟨hb1, ⟨rfl, hno⟩ | ⟨v, A, gv, rfl, hA, hown⟩⟩
 . have HC := Hq (show chF m r = (1, []) by unfold chF; rw [zen hno])
   clear hno
   go_wp2_with fail
   go_ret2
   exact ⟨by rw [HC.out]; rfl, hb1⟩
 . have HC := Hq (show chF m r = if (r A).1 ≠ 0 then ((r A).1, []) else if 5 < (r A).2.length then (4, []) else (0, zaz (r A).2 gv) by unfold chF; rw [zce hA])
   have HFA := Hq (HF.out A v w1 hA.2.1 hA.2.2.1 hb1 hown)
   have HTA := Hq (HTY.out A hA.2.1)
   have HGV := Hq hA.2.2.2
   clear hA hown hb1
   generalize r A = ra at *
   obtain ⟨n, L⟩ := ra
   go_wp2_with fail
   refine HFA.out.mono ?_
   rintro e w2 ⟨hb2, ⟨hn, x, rfl⟩ | ⟨hn, a, cap, rfl, hr⟩⟩
   . have HN := Hq hn
     clear hn
     go_wp2_with fail
     go_ret2
     exact ⟨by rw [HC.out, if_pos HN.out]; simp only; rw [zed HN.out]; rfl, hb2⟩
   . have HR := Hq hr
     have HN := Hq hn
     have HB2 := Hq hb2
     clear hn hr hb2
     by_cases h5 : 5 < L.length
     . have HK := Hq (fun w => zjd a L.length cap ⟨⟨gv⟩⟩ w h5)
       have HC2 := Hq (show chF m r = (4, []) by rw [HC.out, if_neg (by simpa using HN.out), if_pos h5])
       clear h5
       go_wp2_with fail
       refine (HK.out _).mono ?_
       rintro e w3 ⟨rfl, rfl⟩
       go_wp2_with fail
       go_ret2
       exact ⟨by rw [HC2.out]; rfl, HB2.out⟩
     . have HK := Hq (zlt L a cap gv w2 HR.out (by omega) (HTA.out HN.out) HGV.out)
       have HC2 := Hq (show chF m r = (0, zaz L gv) by rw [HC.out, if_neg (by simpa using HN.out), if_neg h5])
       clear h5
       go_wp2_with fail
       refine HK.out.mono ?_
       rintro e w3 ⟨rfl, hb3⟩
       go_wp2_with fail
       go_ret2
       exact ⟨by rw [HC2.out]; rfl, zc HB2.out hb3⟩
open Go.Sort
theorem z2z (n cap : Nat) (a : Option Addr) (i : Int) (W : World) (c : Nat) (hc : W.cell? ⟨c, 0, none⟩ = some (.int .i64 i)) (h : i < 0 \/ (n : Int) <= i) :
   Calls Tryz.prog 104 #[.slice a n cap, .pointer (some ⟨c, 0, none⟩)] W fun e w' => e = .returned (.tuple #[.slice none 0 0, zby 2]) /\ W = w' := by
 rcases h with h | h
 all_goals
   go_enter Tryz.func104, Tryz.ntmps104
   go_wp2_with fail
   all_goals go_ret2
   all_goals exact ⟨rfl, rfl⟩
theorem zq4 {w : World} {B g off n : Nat} (hB : B <= g) (d : Array (List UInt8)) : Below B w (putRow encStr (Sort.ahead w n) g off d) := by
 refine ⟨rfl, rfl, rfl, by simp, fun k hk => ?_⟩
 have : g ≠ k := by omega
 simp [putRow, mapBlock, Sort.ahead, Array.getElem?_modify, this]
theorem zza (A : List (List UInt8)) (v : Value) (k : Nat) (W : World) (B c : Nat) (hk : k < A.length) (hl : A.length <= 5) (hc : W.cell? ⟨c, 0, none⟩ = some (.int .i64 k)) (hown : W.ownsRow B 9 1 v A.length (A.map zz)) :
   Calls Tryz.prog 104 #[v, .pointer (some ⟨c, 0, none⟩)] W fun e w' => ∃ a cap, e = .returned (.tuple #[.slice a (A.length - 1) cap, .nilIface]) /\ Below B W w' /\ zdl w' a cap (A.eraseIdx k) := by
 rcases hown.2 with ⟨_, h0⟩ | ⟨g, cap, cur, rfl, hB, hg, hle, hm, _, htk⟩
 . omega
 have hH : Holds encStr W g 0 A.toArray := holds_of_block hg (by simpa [zz, encStr] using htk)
 have hd := Tryz.slices_Delete_string g 0 cap k (k + 1) A W hH hle (by unfold maxLen at hm; omega) (by omega) (by omega)
 have hlist : A.take k ++ A.drop (k + 1) ++ List.replicate (k + 1 - k) [] = A.eraseIdx k ++ [[]] := by
   rw [List.eraseIdx_eq_take_drop_succ, show k + 1 - k = 1 by omega]; rfl
 rw [hlist, show A.length - (k + 1 - k) = A.length - 1 by omega] at hd
 have hd' : ∀ i j : Int, i = k -> j = ((k : Int) + 1) -> Calls Tryz.prog 105 #[.slice (some ⟨g, 0, none⟩) A.length cap, .int .i64 i, .int .i64 j] W fun e w' => e = .returned (.slice (some ⟨g, 0, none⟩) (A.length - 1) cap) /\ ∃ q, w' = putRow encStr (Sort.ahead W q) g 0 (A.eraseIdx k ++ [[]]).toArray := by
   intro i j hi hj
   subst hi hj
   exact hd
 have HD := Hq hd'
 have HH := Hq hH
 have HG := Hq hg
 clear hd hd' hH hg hlist htk hown
 go_enter Tryz.func104, Tryz.ntmps104
 go_wp2_with fail
 refine (HD.out _ _ rfl rfl).mono ?_
 rintro e w1 ⟨rfl, q, hw1⟩
 have HW := Hq hw1
 clear hw1
 go_wp2_with fail
 go_ret2
 have hlen : (A.eraseIdx k).length = A.length - 1 := by rw [List.length_eraseIdx]; simp [hk]
 refine ⟨_, cap, rfl, ?_, ?_⟩
 . rw [HW.out]; exact zq4 hB _
 . refine ⟨by omega, Or.inr ⟨g, 0, rfl, ?_, fun j x hx => ?_⟩⟩
   . rw [HW.out]
     simpa [putRow, mapBlock, Sort.ahead] using (Array.getElem?_eq_some_iff.1 HG.out).1
   . have hj : j < (A.eraseIdx k).length := (List.getElem?_eq_some_iff.1 hx).1
     have h1 := holds_putRow encStr (Sort.ahead W q) g 0 A.toArray (A.eraseIdx k ++ [[]]).toArray (holds_ahead _ _ _ _ _ _ HH.out) (by simp; omega) j (by simp; omega)
     rw [HW.out, h1.1]
     have h2 : ((A.eraseIdx k ++ [[]]).toArray)[j]! = x := by
       rw [getElem!_pos _ j (by simp; omega)]
       simp only [List.getElem_toArray]
       rw [List.getElem_append_left hj]
       exact (List.getElem?_eq_some_iff.1 hx).2
     rw [h2]
def z9k (m : List UInt8) (i : Int) (w : World) (e : Ending) (w' : World) : Prop :=
 Below w.heap.size w w' /\ ∃ (s : List UInt8) (ev : Value), e = .returned (.tuple #[.string ⟨⟨s⟩⟩, ev]) /\ s.length <= 200 /\
   ((∃ k, ev = zby k) \/ (ev = .nilIface /\ ∃ A g k, zk m A g /\ i = (k : Nat) /\ k < A.length /\ s = 40 :: ((A.eraseIdx k).flatten ++ 41 :: g)))
theorem zu7 {A : List (List UInt8)} {g : List UInt8} (hl : A.length <= 5) (hA : ∀ t ∈ A, zi t) (hg : zf4 g) : (40 :: (A.flatten ++ 41 :: g)).length <= 200 := by
 have h1 := ze6 A hA
 have h2 : g.length <= 25 := by
   rcases hg with rfl | hg
   . simp
   . exact (zeb hg).2
 simp only [List.length_cons, List.length_append]
 omega
end Go.Proofs.YtbnkckjdgpiggaaGreatDoor
