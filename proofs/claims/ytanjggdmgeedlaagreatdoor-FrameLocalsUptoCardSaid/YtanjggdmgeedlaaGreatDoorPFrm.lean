/-
  Plain law (no program): frames: what is wrong with them, what both have.
-/
import Derived.Test.YtanjggdmgeedlaaGreatDoorPFrame
namespace Go.Proofs.YtanjggdmgeedlaaGreatDoor
set_option linter.unusedVariables false
set_option linter.unusedSimpArgs false

structure FrR where
  loc : List Nm
  st : List Nm
noncomputable def kindsErr (L : List ClassR) : List Nm → Int
  | [] => 0
  | x :: r => if kindErr L x = 0 then kindsErr L r else kindErr L x
theorem kindsErr_zero {L : List ClassR} : ∀ {l : List Nm}, kindsErr L l = 0 ↔ ∀ x ∈ l, kindErr L x = 0
  | [] => by simp [kindsErr]
  | x :: r => by
    have ih := kindsErr_zero (L := L) (l := r)
    simp only [kindsErr]
    by_cases h : kindErr L x = 0
    · rw [if_pos h]; simp [h, ih]
    · rw [if_neg h]; simp [h]
theorem kindsErr_at {L : List ClassR} : ∀ {l : List Nm} {k : Nat} {x : Nm}, (∀ y ∈ l.take k, kindErr L y = 0) → l[k]? = some x → kindErr L x ≠ 0 → kindsErr L l = kindErr L x
  | [], k, x, _, h, _ => by simp at h
  | y :: r, 0, x, _, h, h2 => by
    simp only [List.getElem?_cons_zero, Option.some.injEq] at h
    subst h
    simp only [kindsErr]; rw [if_neg h2]
  | y :: r, k + 1, x, h0, h, h2 => by
    simp only [kindsErr]
    rw [if_pos (h0 y (by simp)), kindsErr_at (k := k) (x := x) (fun z hz => h0 z (by simp [hz])) (by simpa using h) h2]
noncomputable def chkErr (L : List ClassR) (f : FrR) : Int := if 8 < f.loc.length ∨ 8 < f.st.length then 4 else kindsErr L (f.loc ++ f.st)
theorem chk_zero {L : List ClassR} {f : FrR} : chkErr L f = 0 ↔ (f.loc.length ≤ 8 ∧ f.st.length ≤ 8) ∧ ∀ x ∈ f.loc ++ f.st, kindErr L x = 0 := by
  unfold chkErr
  by_cases h : 8 < f.loc.length ∨ 8 < f.st.length
  · rw [if_pos h]
    constructor
    · intro h'; omega
    · rintro ⟨h', _⟩; omega
  · rw [if_neg h, kindsErr_zero]
    constructor
    · intro h'; exact ⟨by omega, h'⟩
    · exact fun h' => h'.2

open Classical in
noncomputable def kd (L : List ClassR) (t : Nm) : Kd := if h : ∃ k : Kd, k.Ok L ∧ t = k.text then Classical.choose h else .top
theorem kd_spec {L : List ClassR} {t : Nm} (h : kindErr L t = 0) : (kd L t).Ok L ∧ t = (kd L t).text := by
  have h' := kind_zero.1 h
  unfold kd
  rw [dif_pos h']
  exact Classical.choose_spec h'
theorem kd_text {L : List ClassR} {k : Kd} (h : k.Ok L) : kd L k.text = k := (text_inj (kd_spec (kind_zero.2 ⟨k, h, rfl⟩)).2).symm
noncomputable def joinN (L : List ClassR) (s t : Nm) : Nm := (joinK L (kd L s) (kd L t)).text
theorem joinN_comm {l : List ClassR} (hg : Good l) {s t : Nm} (hs : kindErr (wl l) s = 0) (ht : kindErr (wl l) t = 0) : joinN (wl l) s t = joinN (wl l) t s := by
  unfold joinN; rw [joinK_comm hg (kd_spec hs).1 (kd_spec ht).1]
theorem joinN_ok {l : List ClassR} (hg : Good l) {s t : Nm} (hs : kindErr (wl l) s = 0) (ht : kindErr (wl l) t = 0) : kindErr (wl l) (joinN (wl l) s t) = 0 :=
  kind_zero.2 ⟨_, joinK_ok hg (kd_spec hs).1 (kd_spec ht).1, rfl⟩
theorem joinN_above {l : List ClassR} (hg : Good l) {s t : Nm} (hs : kindErr (wl l) s = 0) (ht : kindErr (wl l) t = 0) : joinN (wl l) s (joinN (wl l) s t) = joinN (wl l) s t := by
  show (joinK (wl l) (kd (wl l) s) (kd (wl l) (joinK (wl l) (kd (wl l) s) (kd (wl l) t)).text)).text = _
  rw [kd_text (joinK_ok hg (kd_spec hs).1 (kd_spec ht).1), joinK_above hg (kd_spec hs).1 (kd_spec ht).1]
  rfl

theorem zip_comm {f : Nm → Nm → Nm} : ∀ {a b : List Nm}, (∀ x ∈ a, ∀ y ∈ b, f x y = f y x) → List.zipWith f a b = List.zipWith f b a
  | [], b, _ => by cases b <;> rfl
  | x :: a, [], _ => rfl
  | x :: a, y :: b, h => by
    simp only [List.zipWith_cons_cons]
    rw [h x (by simp) y (by simp), zip_comm (fun u hu v hv => h u (by simp [hu]) v (by simp [hv]))]
theorem zip_mem {f : Nm → Nm → Nm} {P : Nm → Prop} : ∀ {a b : List Nm}, (∀ x ∈ a, ∀ y ∈ b, P (f x y)) → ∀ z ∈ List.zipWith f a b, P z
  | [], b, _, z, h => by simp at h
  | x :: a, [], _, z, h => by simp at h
  | x :: a, y :: b, h, z, hz => by
    simp only [List.zipWith_cons_cons, List.mem_cons] at hz
    rcases hz with rfl | hz
    · exact h x (by simp) y (by simp)
    · exact zip_mem (fun u hu v hv => h u (by simp [hu]) v (by simp [hv])) z hz
theorem zip_above {f : Nm → Nm → Nm} : ∀ {a b : List Nm}, (∀ x ∈ a, ∀ y ∈ b, f x (f x y) = f x y) → List.zipWith f a (List.zipWith f a b) = List.zipWith f a b
  | [], b, _ => rfl
  | x :: a, [], _ => rfl
  | x :: a, y :: b, h => by
    simp only [List.zipWith_cons_cons]
    rw [h x (by simp) y (by simp), zip_above (fun u hu v hv => h u (by simp [hu]) v (by simp [hv]))]
theorem zip_len {f : Nm → Nm → Nm} {a b : List Nm} (h : a.length = b.length) : (List.zipWith f a b).length = a.length := by simp [h]

noncomputable def joinF (L : List ClassR) (a b : FrR) : FrR := ⟨List.zipWith (joinN L) a.loc b.loc, List.zipWith (joinN L) a.st b.st⟩
def sameSh (a b : FrR) : Prop := a.loc.length = b.loc.length ∧ a.st.length = b.st.length
open Classical in
noncomputable def fjErr (l : List ClassR) (a b : FrR) : Int :=
  if readErr l ≠ 0 then readErr l else if chkErr (wl l) a ≠ 0 then chkErr (wl l) a else if chkErr (wl l) b ≠ 0 then chkErr (wl l) b else if sameSh a b then 0 else 8
theorem fj_zero {l : List ClassR} {a b : FrR} : fjErr l a b = 0 ↔ readErr l = 0 ∧ chkErr (wl l) a = 0 ∧ chkErr (wl l) b = 0 ∧ sameSh a b := by
  unfold fjErr
  by_cases h1 : readErr l = 0
  · by_cases h2 : chkErr (wl l) a = 0
    · by_cases h3 : chkErr (wl l) b = 0
      · by_cases h4 : sameSh a b
        · simp [h1, h2, h3, h4]
        · simp [h1, h2, h3, h4]
      · simp [h1, h2, h3]
    · simp [h1, h2]
  · simp [h1]
theorem fj_comm {l : List ClassR} {a b : FrR} : fjErr l a b = 0 ↔ fjErr l b a = 0 := by
  rw [fj_zero, fj_zero]
  unfold sameSh
  constructor <;> rintro ⟨h1, h2, h3, h4, h5⟩ <;> exact ⟨h1, h3, h2, h4.symm, h5.symm⟩
theorem joinF_comm {l : List ClassR} (hg : Good l) {a b : FrR} (h : fjErr l a b = 0) : joinF (wl l) a b = joinF (wl l) b a := by
  obtain ⟨_, ha, hb, _⟩ := fj_zero.1 h
  have ka := (chk_zero.1 ha).2
  have kb := (chk_zero.1 hb).2
  unfold joinF
  rw [zip_comm (f := joinN (wl l)) (a := a.loc) (b := b.loc) (fun x hx y hy => joinN_comm hg (ka x (by simp [hx])) (kb y (by simp [hy]))), zip_comm (f := joinN (wl l)) (a := a.st) (b := b.st) (fun x hx y hy => joinN_comm hg (ka x (by simp [hx])) (kb y (by simp [hy])))]
theorem fj_above {l : List ClassR} (hg : Good l) {a b : FrR} (h : fjErr l a b = 0) : fjErr l a (joinF (wl l) a b) = 0 ∧ joinF (wl l) a (joinF (wl l) a b) = joinF (wl l) a b := by
  obtain ⟨hr, ha, hb, hs⟩ := fj_zero.1 h
  obtain ⟨⟨la, la'⟩, ka⟩ := chk_zero.1 ha
  have kb := (chk_zero.1 hb).2
  refine ⟨fj_zero.2 ⟨hr, ha, chk_zero.2 ⟨?_, fun x hx => ?_⟩, ?_, ?_⟩, ?_⟩
  · simp only [joinF]; rw [zip_len hs.1, zip_len hs.2]; exact ⟨la, la'⟩
  · rcases List.mem_append.1 hx with h | h
    · exact zip_mem (P := fun x => kindErr (wl l) x = 0) (fun x hx y hy => joinN_ok hg (ka x (by simp [hx])) (kb y (by simp [hy]))) x h
    · exact zip_mem (P := fun x => kindErr (wl l) x = 0) (fun x hx y hy => joinN_ok hg (ka x (by simp [hx])) (kb y (by simp [hy]))) x h
  · simp only [joinF]; rw [zip_len hs.1]
  · simp only [joinF]; rw [zip_len hs.2]
  · simp only [joinF]
    rw [zip_above (f := joinN (wl l)) (a := a.loc) (b := b.loc) (fun x hx y hy => joinN_above hg (ka x (by simp [hx])) (kb y (by simp [hy]))), zip_above (f := joinN (wl l)) (a := a.st) (b := b.st) (fun x hx y hy => joinN_above hg (ka x (by simp [hx])) (kb y (by simp [hy])))]
theorem fj_above2 {l : List ClassR} (hg : Good l) {a b : FrR} (h : fjErr l a b = 0) : fjErr l b (joinF (wl l) a b) = 0 ∧ joinF (wl l) b (joinF (wl l) a b) = joinF (wl l) a b := by
  rw [joinF_comm hg h]
  exact fj_above hg (fj_comm.1 h)
end Go.Proofs.YtanjggdmgeedlaaGreatDoor
