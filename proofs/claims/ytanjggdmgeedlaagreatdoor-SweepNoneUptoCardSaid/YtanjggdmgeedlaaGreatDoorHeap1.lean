/-
  The walk of heap.Does: exact.
-/
import Derived.Test.YtanjggdmgeedlaaGreatDoorHeapAt
import Derived.Test.YtanjggdmgeedlaaGreatDoorDoes1
namespace Go.Proofs.YtanjggdmgeedlaaGreatDoor
set_option linter.unusedVariables false
set_option linter.unusedSimpArgs false
open Go.RowKit Go.Shelf Go.Lib

theorem hword_calls (a : Int) (w : World) : Calls Tryz.prog 60 #[.int .i64 a] w fun e w' => e = .returned (.int .i64 (wrap32 a)) ∧ w = w' := by
  go_enter Tryz.func60, Tryz.ntmps60
  go_wp2_with fail
  go_ret
  exact ⟨by simp [wrap32]; unfold wrap64; omega, rfl⟩

/-- sub.Does of a right kind and a text that is a type's -/
theorem does_dt (l : List ClassR) (L : List CP) (m : Nat) {d : Nat} {b : Bse} (hd : d ≤ 3) (hb : b.cl.length ≤ 20) {t : Nm} (ht : DT t) (w : World) (hW : WOk w m l L) : DoesAt m (Kd.ty d b).text t (doesN (wl l) (Kd.ty d b).text t) w := by
  obtain ⟨d', b', rfl, hd', hb'⟩ := ht
  rw [doesN_text]
  exact does_ty l L m hb hb' d d' hd hd' w hW
theorem refs_head (t : Nm) : refsB t = (t.head? == some 76 || t.head? == some 91) := by
  cases t with
  | nil => rfl
  | cons c r => unfold refsB; simp

def HDoesAt (b : Nat) (a : Option Addr) (n cap : Nat) (v : ValR) (t : Nm) (r : Bool) (w : World) : Prop := Calls Tryz.prog 31 #[.map (some b), .agg #[.slice a n cap], .agg #[.int .i64 v.kind, .int .i64 v.n], .string ⟨⟨t⟩⟩] w fun e w' => e = .returned (.bool r) ∧ Below w.heap.size w w'

set_option maxRecDepth 100000 in
set_option maxHeartbeats 2000000 in
theorem hdoes_int (b : Nat) (a : Option Addr) (n cap : Nat) (z : Int) (t : Nm) (w : World) : HDoesAt b a n cap ⟨1, z⟩ t (t == [73] && decide (z = wrap32 z)) w := by
  have HW := Lib.hid (hword_calls z)
  have HB2 := Lib.hid (fun o1 o2 => bl_alloc (bl_alloc (Below.refl w.heap.size w) o1) o2)
  unfold HDoesAt
  by_cases h : t = [73]
  · subst h
    go_enter Tryz.func31, Tryz.ntmps31
    go_wp2_with fail
    go_quiet (exact (HW.out _).mono (fun e w1 h => by obtain ⟨rfl, rfl⟩ := h; exact ⟨rfl, _, rfl⟩))
    go_wp2_with fail
    go_ret
    exact ⟨ret_bool (by simp; rw [Bool.eq_iff_iff]; simp), below_dn (HB2.out _ _) _⟩
  · have h73 : (t == [73]) = false := by rw [beq_eq_false_iff_ne]; exact h
    clear h
    go_enter Tryz.func31, Tryz.ntmps31
    go_wp2_with fail
    go_quiet (fail)
    go_wp2_with fail
    go_ret
    exact ⟨ret_bool (by simp [h73]), below_dn (HB2.out _ _) _⟩

set_option maxRecDepth 100000 in
set_option maxHeartbeats 2000000 in
theorem hdoes_long (b : Nat) (a : Option Addr) (n cap : Nat) (z : Int) (t : Nm) (w : World) : HDoesAt b a n cap ⟨2, z⟩ t (t == [74]) w := by
  have HB2 := Lib.hid (fun o1 o2 => bl_alloc (bl_alloc (Below.refl w.heap.size w) o1) o2)
  unfold HDoesAt
  go_enter Tryz.func31, Tryz.ntmps31
  go_wp2_with fail
  go_ret
  exact ⟨rfl, HB2.out _ _⟩

set_option maxRecDepth 100000 in
set_option maxHeartbeats 2000000 in
theorem hdoes_none (b : Nat) (a : Option Addr) (n cap : Nat) (k z : Int) (t : Nm) (w : World) (h1 : k ≠ 1) (h2 : k ≠ 2) (h3 : k ≠ 3) : HDoesAt b a n cap ⟨k, z⟩ t false w := by
  have HB2 := Lib.hid (fun o1 o2 => bl_alloc (bl_alloc (Below.refl w.heap.size w) o1) o2)
  have q1 : (k == 1) = false := by rw [beq_eq_false_iff_ne]; exact h1
  have q2 : (k == 2) = false := by rw [beq_eq_false_iff_ne]; exact h2
  have q3 : (k == 3) = false := by rw [beq_eq_false_iff_ne]; exact h3
  clear h1 h2 h3
  unfold HDoesAt
  go_enter Tryz.func31, Tryz.ntmps31
  go_wp2_with fail
  go_ret
  exact ⟨rfl, HB2.out _ _⟩

set_option maxRecDepth 100000 in
set_option maxHeartbeats 4000000 in
theorem hdoes_ref (l : List ClassR) (L : List CP) (b : Nat) (X : List ThingR) (ps : List HA) (a : Option Addr) (cap : Nat) (z : Int) (t : Nm) (w : World) (hW : WOk w b l L) (hT : ThingsAt w a cap X ps) (hf : ∀ x ∈ X, formErr (wl l) x = 0) (ht : DT t) (hX : X.length ≤ 50) :
    HDoesAt b a X.length cap ⟨3, z⟩ t (valB (wl l) (X.map (·.ty)) ⟨3, z⟩ t) w := by
  have HB2 := Lib.hid (fun o1 o2 => bl_alloc (bl_alloc (Below.refl w.heap.size w) o1) o2)
  have HRF := Lib.hid (refs_calls t)
  have HV := Lib.hid (show valB (wl l) (X.map (·.ty)) ⟨3, z⟩ t = ((refsB t && decide (0 ≤ z ∧ z ≤ X.length)) && (decide (z = 0) || doesN (wl l) ((X.map (·.ty)).getD (z - 1).toNat []) t)) by
    unfold valB
    rw [refs_head]
    simp)
  unfold HDoesAt
  cases hr : refsB t with
  | false =>
    rw [hr] at HRF HV
    clear hW hT hf ht hr
    go_enter Tryz.func31, Tryz.ntmps31
    go_wp2_with fail
    refine (HRF.out _).mono ?_
    rintro e w1 ⟨rfl, rfl⟩
    go_wp2_with fail
    go_ret
    exact ⟨ret_bool (by rw [HV.out]; simp), HB2.out _ _⟩
  | true =>
    rw [hr] at HRF HV
    by_cases h0 : z < 0
    · clear hW hT hf ht hr
      go_enter Tryz.func31, Tryz.ntmps31
      go_wp2_with fail
      refine (HRF.out _).mono ?_
      rintro e w1 ⟨rfl, rfl⟩
      go_wp2_with fail
      go_ret
      exact ⟨ret_bool (by rw [HV.out]; simp; omega), HB2.out _ _⟩
    by_cases hn : (X.length : Int) < z
    · clear hW hT hf ht hr
      go_enter Tryz.func31, Tryz.ntmps31
      go_wp2_with fail
      refine (HRF.out _).mono ?_
      rintro e w1 ⟨rfl, rfl⟩
      go_wp2_with fail
      go_ret
      exact ⟨ret_bool (by rw [HV.out]; simp; omega), HB2.out _ _⟩
    by_cases hz : z = 0
    · subst hz
      clear hW hT hf ht hr
      go_enter Tryz.func31, Tryz.ntmps31
      go_wp2_with fail
      refine (HRF.out _).mono ?_
      rintro e w1 ⟨rfl, rfl⟩
      go_wp2_with fail
      go_ret
      exact ⟨ret_bool (by rw [HV.out]; simp), HB2.out _ _⟩
    · obtain ⟨k, rfl⟩ : ∃ k : Nat, z = k + 1 := ⟨(z - 1).toNat, by omega⟩
      have hk : k < X.length := by omega
      obtain ⟨x, hx⟩ : ∃ x, X[k]? = some x := ⟨_, List.getElem?_eq_getElem hk⟩
      obtain ⟨b2, off, p, rfl, hlt, _, _, c0, c1⟩ := hT.cells hx
      obtain ⟨d, bs, he, hok, _⟩ := form_kd (hf x (List.mem_of_getElem? hx))
      have HD := Lib.hid (fun w' (hw : Below w.heap.size w w') => show Calls Tryz.prog 62 #[.map (some b), .string ⟨⟨x.ty⟩⟩, .string ⟨⟨t⟩⟩] w' fun e w'' => e = .returned (.bool (doesN (wl l) x.ty t)) ∧ Below w'.heap.size w' w'' by
        have := does_dt l L b hok.1 (cl_len hok.2) ht w' (hW.below hw)
        rw [← he] at this
        exact this)
      have HV2 := Lib.hid (show valB (wl l) (X.map (·.ty)) ⟨3, (k : Int) + 1⟩ t = doesN (wl l) x.ty t by
        rw [HV.out]
        have e1 : ((k : Int) + 1 - 1).toNat = k := by omega
        have e2 : (X.map (·.ty)).getD k [] = x.ty := by simp [List.getD, hx]
        rw [e1, e2]
        have e3 : decide ((0 : Int) ≤ k + 1 ∧ (k : Int) + 1 ≤ X.length) = true := decide_eq_true (by omega)
        have e4 : decide ((k : Int) + 1 = 0) = false := decide_eq_false (by omega)
        rw [e3, e4]
        rfl)
      rw [HV2.out]
      have q0 : ((k : Int) + 1 == 0) = false := by rw [beq_eq_false_iff_ne]; exact hz
      generalize doesN (wl l) x.ty t = r at *
      clear hW hT hf ht hr hx he hok HV HV2
      go_enter Tryz.func31, Tryz.ntmps31
      go_wp2_with fail
      refine (HRF.out _).mono ?_
      rintro e w1 ⟨rfl, rfl⟩
      go_wp2_with fail
      refine (HD.out _ (HB2.out _ _)).mono ?_
      rintro e w2 ⟨rfl, hb2⟩
      have HB4 := Lib.hid (bl_trans (HB2.out _ _) hb2)
      clear hb2
      go_wp2_with fail
      go_ret
      exact ⟨ret_bool (by simp), HB4.out⟩

/-- heap.Does, whatever the value -/
theorem hdoes_calls (l : List ClassR) (L : List CP) (b : Nat) (X : List ThingR) (ps : List HA) (a : Option Addr) (cap : Nat) (v : ValR) (t : Nm) (w : World) (hW : WOk w b l L) (hT : ThingsAt w a cap X ps) (hf : ∀ x ∈ X, formErr (wl l) x = 0) (ht : DT t) (hX : X.length ≤ 50) :
    HDoesAt b a X.length cap v t (valB (wl l) (X.map (·.ty)) v t) w := by
  obtain ⟨k, z⟩ := v
  by_cases h1 : k = 1
  · subst h1
    exact hdoes_int b a X.length cap z t w
  by_cases h2 : k = 2
  · subst h2
    exact hdoes_long b a X.length cap z t w
  by_cases h3 : k = 3
  · subst h3
    exact hdoes_ref l L b X ps a cap z t w hW hT hf ht hX
  · have : valB (wl l) (X.map (·.ty)) ⟨k, z⟩ t = false := by unfold valB; rw [if_neg h1, if_neg h2, if_neg h3]
    rw [this]
    exact hdoes_none b a X.length cap k z t w h1 h2 h3
end Go.Proofs.YtanjggdmgeedlaaGreatDoor
