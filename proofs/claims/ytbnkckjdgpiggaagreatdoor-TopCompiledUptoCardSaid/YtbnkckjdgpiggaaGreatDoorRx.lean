import Derived.Test.YtbnkckjdgpiggaaGreatDoorRd
namespace Go.Proofs.YtbnkckjdgpiggaaGreatDoor
set_option linter.unusedVariables false
set_option linter.unusedSimpArgs false
open Go.RowKit Go.Shelf Go.Lib
def zeroV (t : Nm) : zbz := if t = [73] then ⟨1, 0⟩ else if t = [74] then ⟨2, 0⟩ else ⟨3, 0⟩
def z6t (X : List zau) (qs : List HA) : List Value := (List.zipWith zfc X qs).flatten
structure zpt (w : World) (B : Nat) (v : Value) (X : List zau) (qs : List HA) : Prop where
 len : qs.length = X.length
 row : w.ownsRow B 111 2 v X.length (z6t X qs)
 has : ∀ (k : Nat) (x : zau) (q : HA), X[k]? = some x -> qs[k]? = some q -> zoz w B x.has q
theorem zpt.below {w w' : World} {B : Nat} {v : Value} {X : List zau} {qs : List HA} (h : zpt w B v X qs) (hb : Below w.heap.size w w') : zpt w' B v X qs :=
 ⟨h.len, zad h.row hb, fun k x q h1 h2 => zad (h.has k x q h1 h2) hb⟩
theorem zx7 {X : List zau} {qs : List HA} (h : qs.length = X.length) (x : zau) (q : HA) : z6t (X ++ [x]) (qs ++ [q]) = z6t X qs ++ zfc x q := by
 unfold z6t
 rw [List.zipWith_append h.symm]
 simp
theorem zpt.at {w : World} {B : Nat} {v : Value} {X : List zau} {qs : List HA} (h : zpt w B v X qs) : ∃ a cap, v = .slice a X.length cap /\ zhn w a cap X qs := by
 have hz : (List.zipWith zfc X qs).length = X.length := by rw [List.length_zipWith, h.len, Nat.min_self]
 have h' : w.ownsRow B 111 2 v (List.zipWith zfc X qs).length (List.zipWith zfc X qs).flatten := by rw [hz]; exact h.row
 obtain ⟨a, cap, h1, h2⟩ := zh5 h' (by
   intro c hc
   obtain ⟨j, hj⟩ := List.getElem?_of_mem hc
   rw [List.getElem?_zipWith] at hj
   split at hj
   . simp at hj; rw [<- hj]; rfl
   . cases hj)
 exact ⟨a, cap, by rw [h1, hz], h.len, h2, fun k x q hx hq => (h.has k x q hx hq).at⟩
theorem zpt.more {w w' : World} {B : Nat} {v v' : Value} {X : List zau} {qs : List HA} (h : zpt w B v X qs) {x : zau} {q : HA} (hx : zoz w B x.has q) (hg : w.grownBy w' v.ownBlock) (hr : w'.ownsRow B 111 2 v' (X.length + 1) (z6t X qs ++ zfc x q)) : zpt w' B v' (X ++ [x]) (qs ++ [q]) := by
 have keep : ∀ {l : List zbz} {p : HA}, zoz w B l p -> zoz w' B l p := fun {l p} hp => z3o hp (fun g hgb => by
   have hne := zzg hp h.row (by decide) hgb
   rcases hp.2 with ⟨hv, _⟩ | ⟨k, _, _, hv, _, hk, _⟩
   . rw [hv] at hgb; cases hgb
   . rw [hv] at hgb
     simp only [Value.ownBlock, Option.some.injEq] at hgb
     subst hgb
     exact hg.block k (Array.getElem?_eq_some_iff.1 hk).1 (fun e => hne e.symm))
 refine ⟨by simp [h.len], by rw [zx7 h.len]; simpa using hr, fun k y p hy hp => ?_⟩
 by_cases hk : k < X.length
 . rw [List.getElem?_append_left hk] at hy
   rw [List.getElem?_append_left (by rw [h.len]; exact hk)] at hp
   exact keep (h.has k y p hy hp)
 . rw [List.getElem?_append_right (by omega)] at hy
   rw [List.getElem?_append_right (by rw [h.len]; omega), h.len] at hp
   obtain ⟨hk2, _⟩ := List.getElem?_eq_some_iff.1 hy
   have : k - X.length = 0 := by simp at hk2; omega
   rw [this] at hy hp
   simp at hy hp
   subst hy hp
   exact keep hx
theorem zpt.set {w : World} {B : Nat} {v : Value} {X : List zau} {qs : List HA} (h : zpt w B v X qs) {g j : Nat} (u : Value) (hg : g < B) : zpt (w.setCell ⟨g, j, none⟩ u) B v X qs :=
 ⟨h.len, zax h.row (fun e => by have := (h.row.lt _ e).1; omega) u, fun k x q hx hp => zax (h.has k x q hx hp) (fun e => by have := ((h.has k x q hx hp).lt _ e).1; omega) u⟩
theorem zrm {w : World} {B : Nat} {e : TypeId} {size : Nat} {v : Value} {n : Nat} {xs : List Value} (h : w.ownsRow B e size v n xs) {g : Nat} {T : TypeId} {cs : Array Value} (hb : Blk w g T cs) (hne : T ≠ e) : v.ownBlock ≠ some g := by
 intro hg
 rcases h.2 with ⟨rfl, _⟩ | ⟨k, _, _, rfl, _, hk, _⟩
 . cases hg
 . simp only [Value.ownBlock, Option.some.injEq] at hg
   subst hg
   unfold Blk at hb
   rw [hk] at hb
   simp only [Option.some.injEq, Obj.cells.injEq] at hb
   exact hne hb.2.1.symm
theorem zpt.put {w : World} {B : Nat} {v : Value} {X : List zau} {qs : List HA} (h : zpt w B v X qs) {g j : Nat} {T : TypeId} {cs : Array Value} (hb : Blk w g T cs) (h1 : T ≠ 111) (h2 : T ≠ 54) (u : Value) : zpt (w.setCell ⟨g, j, none⟩ u) B v X qs :=
 ⟨h.len, zax h.row (zrm h.row hb h1) u, fun k x q hx hp => zax (h.has k x q hx hp) (zrm (h.has k x q hx hp) hb h2) u⟩
def z83 (X : List zau) (y : zau) (qs : List HA) (B : Nat) (w0 : World) (e : Ending) (w' : World) : Prop :=
 Below B w0 w' /\ ((50 <= X.length /\ e = .returned (.tuple #[.agg #[.slice none 0 0], .int .i64 0, zby 4])) \/
   (X.length < 50 /\ ∃ v q, e = .returned (.tuple #[.agg #[v], .int .i64 ((X.length : Int) + 1), .nilIface]) /\ zpt w' B v (X ++ [y]) (qs ++ [q])))
open Go.Sort
theorem z4z {w : World} {B : Nat} {e : TypeId} {size : Nat} {v : Value} {n : Nat} {xs : List Value} (h : w.ownsRow B e size v n xs) {g : Nat} (hg : v.ownBlock = some g) : ∃ cur, Blk w g e cur := by
 rcases h.2 with ⟨rfl, _⟩ | ⟨k, cap, cur, rfl, _, hk, _⟩
 . cases hg
 . simp only [Value.ownBlock, Option.some.injEq] at hg
   subst hg
   exact ⟨cur, hk⟩
structure ztt (w : World) (B lb : Nat) (hv : Value) (X : List zau) (qs : List HA) (v : Value) : Prop where
 own : zpt w B hv X qs
 nil : X = [] -> hv = .slice none 0 0
 ap : ∀ (k : Nat) (x : zau) (q : HA) (g : Nat), X[k]? = some x -> qs[k]? = some q -> (hsV x.has q).ownBlock = some g -> g ≠ lb /\ v.ownBlock ≠ some g
section
variable {W0 w w' : World} {B K c lb cs cc b : Nat} {hv : Value} {s : Int} {cl : Nm} {m : zo} {q : zaf} {pc : Int} {lo st : List zbz} {lq sq : HA} {X : List zau} {qs : List HA} {v : Value}
theorem ztt.start (w : World) (B lb : Nat) (v : Value) : ztt w B lb (.slice none 0 0) [] [] v := ⟨⟨rfl, World.ownsRow_nil _ _ _ _, fun k x q h => by simp at h⟩, fun _ => rfl, fun k x q g h => by simp at h⟩
theorem ztt.below (h : ztt w B lb hv X qs v) (hb : Below w.heap.size w w') : ztt w' B lb hv X qs v := ⟨h.own.below hb, h.nil, h.ap⟩
theorem ztt.keep {v' : Value} (h : ztt w B lb hv X qs (hsV st sq)) (hc : za0 w B c lb cl m q pc lo st lq sq) (hk : KbR c lb (hsV st sq) w w') (hu : VUp w (hsV st sq) v') : ztt w' B lb hv X qs v' := by
 refine ⟨⟨h.own.len, zdg h.own.row fun g hg => ?_, fun k x p hx hp => zdg (h.own.has k x p hx hp) fun g hg => ?_⟩, h.nil, fun k x p g hx hp hg => ?_⟩
 . obtain ⟨cur, hb⟩ := z4z h.own.row hg
   obtain ⟨n1, n2, n3⟩ := hc.apart hb (by decide) (by decide)
   exact hk.block g hb.lt n1 n2 n3
 . obtain ⟨n2, n3⟩ := h.ap k x p g hx hp hg
   have n1 : g ≠ c := fun e => zfd (h.own.has k x p hx hp) hc.blk (by decide) (e ▸ hg)
   exact hk.block g ((h.own.has k x p hx hp).lt g hg).2 n1 n2 n3
 . obtain ⟨n2, n3⟩ := h.ap k x p g hx hp hg
   refine ⟨n2, fun e => ?_⟩
   rcases hu with hu | hu
   . exact n3 (hu ▸ e)
   . have := hu g e
     have := ((h.own.has k x p hx hp).lt g hg).2
     omega
theorem ztt.put {g j : Nat} {T : TypeId} {cur : Array Value} (h : ztt w B lb hv X qs v) (hb : Blk w g T cur) (h1 : T ≠ 111) (h2 : T ≠ 54) (u : Value) : ztt (w.setCell ⟨g, j, none⟩ u) B lb hv X qs v := ⟨h.own.put hb h1 h2 u, h.nil, h.ap⟩
end
theorem zpt.one {w : World} {B : Nat} {hv : Value} {x : zau} {qs : List HA} (h : zpt w B hv [x] qs) : ∃ gt ct q, hv = .slice (some ⟨gt, 0, none⟩) 1 ct /\ qs = [q] /\ gt < w.heap.size /\ 1 <= ct /\ w.cell? ⟨gt, 0, none⟩ = some (.string ⟨⟨x.ty⟩⟩) /\ w.cell? ⟨gt, 1, none⟩ = some (.slice q.1 x.has.length q.2) /\ zoz w B x.has q := by
 obtain ⟨q, rfl⟩ : ∃ q, qs = [q] := by
   have := h.len
   match qs with
   | [q] => exact ⟨q, rfl⟩
   | [] => simp at this
   | a :: b :: r => simp at this
 have hr := h.row
 rcases hr.2 with ⟨_, h1⟩ | ⟨g, cap, cur, rfl, hB, hb, hle, hmx, hsz, htk⟩
 . simp at h1
 have hb' : Blk w g 111 cur := hb
 have e : cur.toList.take 2 = [.string ⟨⟨x.ty⟩⟩, .slice q.1 x.has.length q.2] := by
   have := htk
   simpa [z6t, zfc] using this
 have e0 : cur[0]? = some (.string ⟨⟨x.ty⟩⟩) := by
   have h0 := congrArg (·[0]?) e
   simpa [List.getElem?_take] using h0
 have e1 : cur[1]? = some (.slice q.1 x.has.length q.2) := by
   have h0 := congrArg (·[1]?) e
   simpa [List.getElem?_take] using h0
 exact ⟨g, cap, q, rfl, rfl, hb'.lt, by simpa using hle, by rw [hb'.cell]; exact e0, by rw [hb'.cell]; exact e1, h.has 0 x q rfl rfl⟩
structure MK where
 K : Nat
 c : Nat
 lb : Nat
 cs : Nat
 cc : Nat
 b : Nat
 cl : Nm
 m : zo
 q : zaf
 lq : HA
def MSt (W0 : World) (k : MK) (s : Int) (p : Nat) (lo st : List zbz) (X : List zau) (W : World) : Prop :=
 ∃ sq hv qs, zd7 W0 W k.K k.c k.lb k.cs k.cc k.b hv s k.cl k.m k.q p lo st k.lq sq /\ ztt W W0.heap.size k.lb hv X qs (hsV st sq)
section
variable {W0 : World} {k : MK}
theorem MSt.below {s : Int} {p : Nat} {lo st : List zbz} {X : List zau} {W W' : World} (h : MSt W0 k s p lo st X W) (hb : Below W.heap.size W W') : MSt W0 k s p lo st X W' := by
 obtain ⟨sq, hv, qs, h1, h2⟩ := h
 exact ⟨sq, hv, qs, h1.below hb, h2.below hb⟩
abbrev zz3 (k : MK) (W : World) (P : World -> Prop) : Prop := Calls Tryz.prog 52 #[.pointer (some ⟨k.K, 0, none⟩)] W fun e w' => e = .returned (.tuple #[]) /\ P w' /\ zci W w'
theorem zq5 (n : Nat) (pc : Nat -> Nat) (lo st : Nat -> List zbz) (X : Nat -> List zau) (fuel tk tn : Int) (th : Nm) (w : World) (hn0 : 0 < n) (hn : n <= 2000) (hfu : (n : Int) <= fuel) (h0 : MSt W0 k 0 (pc 0) (lo 0) (st 0) (X 0) w)
   (hmid : ∀ i, i + 1 < n -> ∀ W, MSt W0 k ((i : Int) + 1) (pc i) (lo i) (st i) (X i) W -> zz3 k W (MSt W0 k ((i : Int) + 1) (pc (i + 1)) (lo (i + 1)) (st (i + 1)) (X (i + 1))))
   (hlast : ∀ W, MSt W0 k n (pc (n - 1)) (lo (n - 1)) (st (n - 1)) (X (n - 1)) W -> zz3 k W fun w' => (∃ hv' cv, Blk w' k.K 86 (zbo k.b hv' cv tk tn th n true)) /\ Below W0.heap.size W0 w') :
   Calls Tryz.prog 27 #[.pointer (some ⟨k.K, 0, none⟩), .int .i64 fuel] w fun e w' => e = .returned .nilIface /\ (∃ hv cv, Blk w' k.K 86 (zbo k.b hv cv tk tn th n true)) /\ zci w w' /\ Below W0.heap.size W0 w' := by
 have hset : ∀ (i : Nat) W, MSt W0 k (i : Int) (pc i) (lo i) (st i) (X i) W -> MSt W0 k ((i : Int) + 1) (pc i) (lo i) (st i) (X i) (W.setCell ⟨k.K, 6, none⟩ (.int .i64 ((i : Int) + 1))) := fun i W h => by
   obtain ⟨sq, hv, qs, h1, h2⟩ := h
   exact ⟨sq, hv, qs, (h1.st_set _).1, h2.put h1.blk (by decide) (by decide) _⟩
 have key := zzd n fuel k.K (fun i W => (i < n -> MSt W0 k (i : Int) (pc i) (lo i) (st i) (X i) W) /\ (i = n -> (∃ hv cv, Blk W k.K 86 (zbo k.b hv cv tk tn th n true)) /\ Below W0.heap.size W0 W)) w
   (fun i W W' h hb => ⟨fun e => (h.1 e).below hb, fun e => by obtain ⟨⟨hv, cv, h1⟩, h2⟩ := h.2 e; exact ⟨⟨hv, cv, h1.below hb⟩, zc h2 hb⟩⟩)
   (fun i W hi h => by
     by_cases e : i = n
     . subst e
       obtain ⟨⟨hv, cv, h1⟩, _⟩ := h.2 rfl
       exact ⟨_, _, _, _, _, _, by rw [show decide (i = i) = true by simp]; exact h1⟩
     . obtain ⟨sq, hv, qs, h1, _⟩ := h.1 (by omega)
       exact ⟨_, _, _, _, _, _, by rw [show decide (i = n) = false by simp; omega]; exact h1.blk⟩)
   (fun i W hi h => by
     have h2 := hset i W (h.1 hi)
     by_cases e : i + 1 < n
     . refine (hmid i e _ h2).mono ?_
       rintro e' w' ⟨he, h3, hk⟩
       exact ⟨he, ⟨fun _ => h3, fun e2 => by omega⟩, hk⟩
     . obtain rfl : n = i + 1 := by omega
       refine (hlast _ (by simpa using h2)).mono ?_
       rintro e' w' ⟨he, h3, hk⟩
       exact ⟨he, ⟨fun e2 => by omega, fun _ => h3⟩, hk⟩)
   hfu hn ⟨fun _ => h0, fun e => by omega⟩
 refine key.mono ?_
 rintro e w' ⟨he, hs, hk⟩
 obtain ⟨h1, h2⟩ := hs.2 rfl
 exact ⟨he, h1, hk, h2⟩
theorem zfo {s : Int} {p p' : Nat} {lo st lo' st' : List zbz} {X : List zau} (x : zal) (hC : zcy W0 k.q.ca k.q.cc k.m.code) (hx : k.m.code[p]? = some x) (hml : k.m.code.length <= 1000)
   (h24 : (x.op == 24) = false) (h25 : (x.op == 25) = false) (h26 : (x.op == 26) = false) (h27 : (x.op == 27) = false) (h28 : (x.op == 28) = false)
   (hPL : ∀ W sq, za0 W W0.heap.size k.c k.lb k.cl k.m k.q p lo st k.lq sq -> Calls Tryz.prog 96 #[.pointer (some ⟨k.c, 0, none⟩), zfe x] W (z6s W0.heap.size k.c k.lb k.cl k.m k.q p lo st lo' st' k.lq sq (p' : Int) W))
   (hHE : ∀ W, Calls Tryz.prog 97 #[.pointer (some ⟨k.K, 0, none⟩), .pointer (some ⟨k.c, 0, none⟩), zfe x] W fun e w' => e = .returned (.tuple #[]) /\ Below W.heap.size W w') :
   ∀ W, MSt W0 k s p lo st X W -> zz3 k W (MSt W0 k s p' lo' st' X) := by
 rintro W ⟨sq, hv, qs, h1, h2⟩
 refine (zs2 W0 k.K k.c k.lb k.cs k.cc k.b hv s k.cl k.m k.q p lo st lo' st' p' k.lq sq x W h1 hC hx hml h24 h25 h26 h27 h28 (fun W' hb => hPL W' sq (h1.below hb).call) hHE).mono ?_
 rintro e w' ⟨he, ⟨sq', h3, hkb, hu⟩, hk⟩
 exact ⟨he, ⟨sq', hv, qs, h3, h2.keep h1.call hkb hu⟩, hk⟩
theorem ztq {s : Int} {p : Nat} {lo : List zbz} {v : zbz} {X : List zau} (x : zal) (hC : zcy W0 k.q.ca k.q.cc k.m.code) (hx : k.m.code[p]? = some x) (hml : k.m.code.length <= 1000) (h27 : x.op = 27) :
   ∀ W, MSt W0 k s p lo [v] X W -> zz3 k W fun w' => (∃ hv' cv, Blk w' k.K 86 (zbo k.b hv' cv v.kind v.n [] s true)) /\ Below W0.heap.size W0 w' := by
 rintro W ⟨sq, hv, qs, h1, _⟩
 refine (z00 W0 k.K k.c k.lb k.cs k.cc k.b hv s k.cl k.m k.q p lo [] v k.lq sq x W h1 hC hx hml (by simp) h27).mono ?_
 rintro e w' ⟨he, ⟨cv, h3⟩, hb, hk⟩
 exact ⟨he, ⟨⟨hv, cv, h3⟩, hb⟩, hk⟩
end
end Go.Proofs.YtbnkckjdgpiggaaGreatDoor
