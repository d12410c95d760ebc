import Derived.Test.YtfimajijegohmaaGreatDoorSa
import Derived.Lib.AppendZerosOnto
namespace Go.Proofs.YtfimajijegohmaaGreatDoor
set_option maxRecDepth 100000
set_option maxHeartbeats 8000000
set_option linter.unusedVariables false
set_option linter.unusedSimpArgs false
open Go.RowKit Go.Shelf Go.Lib
def GrowRes (w : World) (e : Ending) (w' : World) : Prop := ∃ v, e = .returned v ∧ w'.ownsRow w.heap.size 9 1 v 0 [] ∧ Below w.heap.size w w'
def ConRes (A B : List Nm) (w : World) (e : Ending) (w' : World) : Prop := ∃ v, e = .returned v ∧ w'.ownsRow w.heap.size 9 1 v (A.length + B.length) ((A ++ B).map strV) ∧ Below w.heap.size w w'
structure FAddr where
 la : Option Addr
 lc : Nat
 sa : Option Addr
 sc : Nat
def frV (f : FrR) (p : FAddr) : Value := .agg #[.slice p.la f.loc.length p.lc, .slice p.sa f.st.length p.sc]
def FrAt (W : World) (f : FrR) (p : FAddr) : Prop := SRow W p.la p.lc f.loc ∧ SRow W p.sa p.sc f.st
theorem FrAt.below {w w' : World} {f : FrR} {p : FAddr} (h : FrAt w f p) (hb : Below w.heap.size w w') : FrAt w' f p := ⟨h.1.below hb, h.2.below hb⟩
def FrB (f : FrR) : Prop := ∀ x ∈ f.loc ++ f.st, x.length ≤ 8388608
def ChkRes (err : Int) (w : World) (e : Ending) (w' : World) : Prop := e = .returned (errOf err) ∧ Below w.heap.size w w'
theorem equal_any (X Y : List Nm) (a a' : Option Addr) (c c' : Nat) (w : World) (h : SRow w a c X) (h' : SRow w a' c' Y) (hl : X.length ≤ 1000000) :
   Calls Tryz.prog 249 #[.slice a X.length c, .slice a' Y.length c'] w fun e w' => e = .returned (.bool (decide (X = Y))) ∧ Below w.heap.size w w' := by
 by_cases hlen : X.length = Y.length
 · by_cases h0 : X = []
   · subst h0
     have hY : Y = [] := List.eq_nil_of_length_eq_zero (by rw [← hlen]; rfl)
     subst hY
     refine (Tryz.slices_Equal_string_empty a a' c 0 c' w (by omega)).mono ?_
     rintro e w' ⟨rfl, rfl⟩
     exact ⟨rfl, Below.refl _ _⟩
   · have hY0 : Y ≠ [] := fun e => h0 (List.eq_nil_of_length_eq_zero (by rw [hlen, e]; rfl))
     obtain ⟨_, e1 | ⟨b, o, rfl, _, hc⟩⟩ := h
     · exact absurd e1 h0
     obtain ⟨_, e1 | ⟨b', o', rfl, _, hc'⟩⟩ := h'
     · exact absurd e1 hY0
     have hg : ∀ (Z : List Nm) j, j < (Z.map (fun x => (⟨⟨x⟩⟩ : ByteArray))).length → ∃ x, Z[j]? = some x ∧ (Z.map (fun x => (⟨⟨x⟩⟩ : ByteArray))).getD j ByteArray.empty = ⟨⟨x⟩⟩ := fun Z j hj => by
       rw [List.length_map] at hj
       refine ⟨Z[j], List.getElem?_eq_getElem hj, ?_⟩
       simp [List.getD, hj]
     refine (Tryz.slices_Equal_string b o X.length c b' o' Y.length c' (X.map (fun x => (⟨⟨x⟩⟩ : ByteArray))) (Y.map (fun x => (⟨⟨x⟩⟩ : ByteArray))) w (by simp) (by simp) (by omega) (by omega) ?_ ?_).mono ?_
     · intro j hj
       obtain ⟨x, hx, e⟩ := hg X j hj
       rw [e]; exact hc j x hx
     · intro j hj
       obtain ⟨x, hx, e⟩ := hg Y j hj
       rw [e]; exact hc' j x hx
     · rintro e w' ⟨rfl, q, rfl⟩
       refine ⟨?_, below_dn (Below.refl _ _) q⟩
       have hinj : ∀ {A B : List Nm}, A.map (fun x => (⟨⟨x⟩⟩ : ByteArray)) = B.map (fun x => (⟨⟨x⟩⟩ : ByteArray)) → A = B := by
         intro A
         induction A with
         | nil => intro B h; cases B with | nil => rfl | cons y B => cases h
         | cons x A ih =>
           intro B h
           cases B with
           | nil => cases h
           | cons y B =>
             simp only [List.map_cons, List.cons.injEq] at h
             have h1 : x = y := by have := h.1; simpa using this
             rw [h1, ih h.2]
       have t1 : (X.map (fun x => (⟨⟨x⟩⟩ : ByteArray))).take X.length = X.map (fun x => (⟨⟨x⟩⟩ : ByteArray)) := List.take_of_length_le (by simp)
       have t2 : (Y.map (fun x => (⟨⟨x⟩⟩ : ByteArray))).take Y.length = Y.map (fun x => (⟨⟨x⟩⟩ : ByteArray)) := List.take_of_length_le (by simp)
       rw [t1, t2]
       congr 2
       exact decide_eq_decide.2 ⟨hinj, fun e => by rw [e]⟩
 · have hne : X ≠ Y := fun e => hlen (by rw [e])
   rw [decide_eq_false hne]
   refine (Tryz.slices_Equal_string_lens a a' X.length c Y.length c' w hlen).mono ?_
   rintro e w' ⟨rfl, rfl⟩
   exact ⟨rfl, Below.refl _ _⟩
noncomputable def sameB (f g : FrR) : Bool := decide (f.loc = g.loc) && decide (f.st = g.st)
theorem sameB_true {f g : FrR} : sameB f g = true ↔ f = g := by
 obtain ⟨a, b⟩ := f
 obtain ⟨c, d⟩ := g
 simp [sameB]
theorem same_any (f g : FrR) (p q : FAddr) (w : World) (hp : FrAt w f p) (hq : FrAt w g q) (h1 : f.loc.length ≤ 100000) (h2 : f.st.length ≤ 100000) :
   Calls Tryz.prog 173 #[frV f p, frV g q] w fun e w' => e = .returned (.bool (sameB f g)) ∧ Below w.heap.size w w' := by
 have HE1 := Hd (fun W (hW : Below w.heap.size w W) => equal_any f.loc g.loc p.la q.la p.lc q.lc W (hp.1.below hW) (hq.1.below hW) (by omega))
 have HE2 := Hd (fun W (hW : Below w.heap.size w W) => equal_any f.st g.st p.sa q.sa p.sc q.sc W (hp.2.below hW) (hq.2.below hW) (by omega))
 have HBB := Hd (fun o1 o2 => bl_alloc (bl_alloc (Below.refl w.heap.size w) o1) o2)
 clear hp hq
 unfold frV sameB
 generalize decide (f.loc = g.loc) = d1 at *
 generalize decide (f.st = g.st) = d2 at *
 have HD0 := Hd ((blk_new w w.heap.size 71 #[.slice p.la f.loc.length p.lc, .slice p.sa f.st.length p.sc] rfl).below ((Below.refl _ _).alloc (Nat.le_refl _) (.cells #[.slice q.la g.loc.length q.lc, .slice q.sa g.st.length q.sc] 71)))
 have HD1 := Hd (blk_new (w.alloc (.cells #[.slice p.la f.loc.length p.lc, .slice p.sa f.st.length p.sc] 71)) (w.heap.size + 1) 71 #[.slice q.la g.loc.length q.lc, .slice q.sa g.st.length q.sc] (by simp))
 go_enter Tryz.func173, Tryz.ntmps173
 go_wp2_with fail
 refine (HE1.out _ (HBB.out _ _)).mono ?_
 rintro e w2 ⟨rfl, hb2⟩
 have HB2 := Hd (bl_trans (HBB.out _ _) hb2)
 have e1 := (HD0.out.below hb2).cell 1
 have e2 := (HD0.out.below hb2).lt
 have e3 := (HD1.out.below hb2).cell 1
 have e4 := (HD1.out.below hb2).lt
 clear hb2
 cases d1 with
 | true =>
   go_wp2_with fail
   refine (HE2.out _ HB2.out).mono ?_
   rintro e w3 ⟨rfl, hb3⟩
   have HB3 := Hd (bl_trans HB2.out hb3)
   clear hb3
   go_wp2_with fail
   go_ret
   exact ⟨by simp, HB3.out⟩
 | false =>
   go_wp2_with fail
   go_ret
   exact ⟨by simp, HB2.out⟩
end Go.Proofs.YtfimajijegohmaaGreatDoor
