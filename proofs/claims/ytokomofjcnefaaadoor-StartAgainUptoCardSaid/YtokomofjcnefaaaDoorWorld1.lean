/-
  The walks of world.W's Above and Line.
-/
import Derived.Test.YtokomofjcnefaaaDoorWorldAt
import Derived.Test.YtokomofjcnefaaaDoorStep
import Derived.Test.YtokomofjcnefaaaDoorPRound
namespace Go.Proofs.YtokomofjcnefaaaDoor
set_option linter.unusedVariables false
set_option linter.unusedSimpArgs false
open Go.RowKit Go.Shelf Go.Lib

theorem wpList_append_src0 {P : Program} {W : World} {t e : TypeId} {size bytes : Nat} (T : RowT P t e size bytes) {ops : Array Oper} {rest : List Oper} {o : Oper} {a : Act} {Q : Exit → Act → World → Prop} (hgd : o.guard = none) (s x : Operand)
    (ho : o.op = .call { callee := .builtin .append, args := #[s, x], argTypes := #[t, t] }) (B : Nat) (v : Value) (n : Nat) (xs : List Value) (hs : a.eval s = v) (hown : W.ownsRow B e size v n xs)
    (xv : Value) (m : Nat) (news : List Value) (hx : a.eval x = xv) (hsrc : Src0 W size xv m news) (hn : n + m ≤ 1000000000) (hb : (n + m) * bytes ≤ 140737488355328) (hB : B ≤ W.heap.size)
    (h : ∀ v' w', w'.ownsRow B e size v' (n + m) (xs ++ news) → W.grownBy w' v.ownBlock → wpList P ops Q rest (a.put o.dst v') w') :
    wpList P ops Q (o :: rest) a W := by
  rcases hsrc with ⟨c, rfl, rfl, rfl⟩ | hsrc
  · obtain ⟨i, z, hi, hz, hsz, hby, hzs⟩ := T.info
    refine wpList_plain hgd fun K hK => ?_
    have hrun := run_app_none (P := P) (w := W) B t o.type e i size T.slice hi v n xs hown c
    unfold Oper.wp
    simp [execOp, ho, resolve, invoke, builtin, hs, hx, hrun, Result.andThen]
    exact hK _ _ (h v W (by simpa using hown) ⟨rfl, rfl, rfl, Nat.le_refl _, fun _ _ _ => rfl⟩)
  · exact wpList_append_src T hgd s x ho B v n xs hs hown xv m news hx hsrc hn hb hB h

theorem strV_one (A : List Nm) : ∀ u ∈ A.map strV, u.oneCell' = true := by
  intro u hu
  obtain ⟨y, _, rfl⟩ := List.mem_map.1 hu
  rfl
theorem src_of_strs {w : World} {a : Option Addr} {cap : Nat} {A : List Nm} (h : SRow w a cap A) : Src0 w 1 (.slice a A.length cap) A.length (A.map strV) := by
  obtain ⟨_, rfl | ⟨b, off, rfl, _, hc⟩⟩ := h
  · cases a with
    | none => exact Or.inl ⟨cap, rfl, rfl, rfl⟩
    | some ad => exact Or.inr ⟨rfl, by simp, Or.inr ⟨ad, cap, rfl, fun j u hj => by simp at hj⟩⟩
  · refine Or.inr ⟨by simp, strV_one A, Or.inr ⟨_, cap, rfl, fun j u hj => ?_⟩⟩
    rw [List.getElem?_map] at hj
    cases hx : A[j]? with
    | none => rw [hx] at hj; cases hj
    | some x =>
      rw [hx] at hj
      simp only [Option.map_some, Option.some.injEq] at hj
      subst hj
      have e : (⟨b, off, none⟩ : Addr).add j = ⟨b, off + j, none⟩ := by unfold Addr.add; split <;> simp_all
      rw [e]; exact hc j x hx

/-- the zero class -/
def zeroC : Value := .agg #[.string ⟨#[]⟩, .string ⟨#[]⟩, .slice none 0 0, .bool false, .slice none 0 0, .slice none 0 0]
theorem zero_class (w : World) : (zeroValue 28).run Tryd.prog w = .ok zeroC w := Tryd.zeroValue28 w

theorem wlook_none {w : World} {b : Nat} {L : List CP} {n : Nm} (h : WorldAt w b L) (hn : n.length ≤ maxLen) (hf : cpFind L n = none) (c : Bool) :
    (Instr.lookup 53 (.map (some b)) (.string ⟨⟨n⟩⟩) c).run Tryd.prog w = .ok (if c then .tuple #[zeroC, .bool false] else zeroC) w :=
  SMap.look_none Tryd.underlying9 Tryd.underlying53 h.1 hn (by unfold fOf; rw [hf]; rfl) (zero_class w) c
theorem wlook_some {w : World} {b : Nat} {L : List CP} {n : Nm} {cp : CP} (h : WorldAt w b L) (hn : n.length ≤ maxLen) (hf : cpFind L n = some cp) (c : Bool) :
    (Instr.lookup 53 (.map (some b)) (.string ⟨⟨n⟩⟩) c).run Tryd.prog w = .ok (if c then .tuple #[classV cp.1 cp.2, .bool true] else classV cp.1 cp.2) w :=
  SMap.look_some Tryd.underlying9 Tryd.underlying53 h.1 hn (by unfold fOf; rw [hf]; rfl) c

def CL (L : List CP) : List ClassR := L.map (·.1)
theorem above_none {L : List CP} {n : Nm} (h : cpFind L n = none) : above (CL L) n = [] := by unfold above CL; rw [cpFind_look, h]; rfl
theorem above_some {L : List CP} {n : Nm} {cp : CP} (h : cpFind L n = some cp) : above (CL L) n = aboveC cp.1 := by unfold above CL; rw [cpFind_look, h]; rfl

theorem ab_own1 (w : World) (o : Obj) (y : Nm) : ((w.alloc o).alloc (.cells #[strV y] 9)).ownsRow w.heap.size 9 1 (.slice (some ⟨w.heap.size + 1, 0, none⟩) 1 1) 1 [strV y] := by
  have h := World.ownsRow_lit (base := w.heap.size) (e := 9) (size := 1) (w.alloc o) #[strV y] 1 (by simp) (by unfold maxLen; omega) rfl
  have e : (w.alloc o).heap.size = w.heap.size + 1 := by simp
  rw [e] at h
  exact h
theorem ab_below {w w4 : World} {o o' : Obj} {n c : Nat} (hg : ((w.alloc o).alloc o').grownBy w4 (Value.slice (some ⟨w.heap.size + 1, 0, none⟩) n c).ownBlock) : Below w.heap.size w w4 :=
  Below.grown (((Below.refl _ _).alloc (Nat.le_refl _) _).alloc (by simp) _) hg (by simp; omega) (fun k hk => by simp [Value.ownBlock] at hk; omega)
theorem ab_srow {w4 : World} {B : Nat} {x : Nm} {A : List Nm} {v : Value} (ho : w4.ownsRow B 9 1 v (1 + A.length) ([strV x] ++ A.map strV)) : ∃ a cap, v = .slice a (1 + A.length) cap ∧ SRow w4 a cap (x :: A) := by
  have h : w4.ownsRow B 9 1 v (x :: A).length ((x :: A).map strV) := by
    rw [List.length_cons, Nat.add_comm]; exact ho
  obtain ⟨a, cap, h1, h2⟩ := srow_of_own h
  exact ⟨a, cap, by rw [h1, List.length_cons, Nat.add_comm], h2⟩

/-- what Above gives: a slice of texts that lies in the classes, or is new -/
def StrsRes (L : List CP) (A : List Nm) (w : World) (e : Ending) (w' : World) : Prop := (∃ a cap, e = .returned (.slice a A.length cap) ∧ SRow w' a cap A ∧ (A = [] ∨ (∃ cp ∈ L, a = cp.2.fa ∧ A = cp.1.faces) ∨ ∀ ad, a = some ad → w.heap.size ≤ ad.block)) ∧ Below w.heap.size w w'

set_option maxRecDepth 100000 in
set_option maxHeartbeats 2000000 in
theorem above_calls (L : List CP) (b : Nat) (n : Nm) (w : World) (hW : WorldAt w b L) (hn : n.length ≤ maxLen) (hL : ∀ cp ∈ L, cp.1.faces.length ≤ 100000000) :
    Calls Tryd.prog 25 #[.map (some b), .string ⟨⟨n⟩⟩] w (StrsRes L (above (CL L) n) w) := by
  cases hf : cpFind L n with
  | none =>
    have hlk := wlook_none hW hn hf false
    simp only [Bool.false_eq_true, if_false] at hlk
    rw [above_none hf]
    unfold zeroC at hlk
    clear hf hW
    go_enter Tryd.func25, Tryd.ntmps25
    go_wp2_with fail
    go_ret
    exact ⟨⟨none, 0, rfl, ⟨Nat.le_refl _, Or.inl rfl⟩, Or.inl rfl⟩, (Below.refl _ _).alloc (Nat.le_refl _) _⟩
  | some cp =>
    have hlk := wlook_some hW hn hf false
    simp only [Bool.false_eq_true, if_false] at hlk
    obtain ⟨hnm, hmem⟩ := cpFind_mem hf
    have HC := Lib.hid (hW.2 cp hmem).1
    have hfl := hL cp hmem
    rw [above_some hf]
    unfold classV at hlk
    have HLK := Lib.hid hlk
    have HMEM := Lib.hid hmem
    clear hf hW hnm hmem hlk
    obtain ⟨c, p⟩ := cp
    simp only at HC hfl HLK ⊢
    by_cases hs : c.sup = []
    · have ha : aboveC c = c.faces := by unfold aboveC; rw [if_pos hs]
      rw [ha]
      rw [hs] at HLK
      have hlk := HLK.out
      clear ha
      go_enter Tryd.func25, Tryd.ntmps25
      go_wp2_with fail
      go_ret
      exact ⟨⟨_, _, rfl, HC.out.below ((Below.refl _ _).alloc (Nat.le_refl _) _), Or.inr (Or.inl ⟨_, HMEM.out, rfl, rfl⟩)⟩, (Below.refl _ _).alloc (Nat.le_refl _) _⟩
    · have ha : aboveC c = c.sup :: c.faces := by unfold aboveC; rw [if_neg hs]
      rw [ha]
      obtain ⟨x, r, hx⟩ : ∃ x r, c.sup = x :: r := by
        cases h : c.sup with
        | nil => exact absurd h hs
        | cons x r => exact ⟨x, r, rfl⟩
      rw [hx] at HLK
      rw [hx]
      have hlk := HLK.out
      clear ha hs
      go_enter Tryd.func25, Tryd.ntmps25
      go_wp2_with (at_builtin; refine wpList_append_src0 rowStr rfl _ _ rfl w.heap.size _ 1 [strV (x :: r)] rfl ?c0 _ c.faces.length (c.faces.map strV) rfl ?c1 ?c2 ?c3 ?c4 ?_)
      case c0 => exact ab_own1 w _ (x :: r)
      case c1 => exact src_of_strs (HC.out.below (((Below.refl _ _).alloc (Nat.le_refl _) _).alloc (by simp) _))
      case c2 => omega
      case c3 => omega
      case c4 => simp; omega
      intro v4 w4 ho4 hg4
      have hb4 := Lib.hid (ab_below hg4)
      obtain ⟨A4, C4, rfl, hr4⟩ := ab_srow (x := x :: r) (A := c.faces) ho4
      have HN4 := Lib.hid (show ∀ ad, A4 = some ad → w.heap.size ≤ ad.block from fun ad e => (ho4.lt ad.block (by rw [e]; rfl)).1)
      have HR4 := Lib.hid hr4
      clear ho4 hg4 hr4
      go_wp2_with fail
      go_ret
      exact ⟨⟨A4, C4, by rw [List.length_cons, Nat.add_comm]; rfl, HR4.out, Or.inr (Or.inr HN4.out)⟩, hb4.out⟩

/-! the line -/
def zeroK : ClassR := ⟨[], [], [], false, [], []⟩
def curP (L : List CP) (cur : Nm) : CP := (cpFind L cur).getD (zeroK, nilP)
def cArr (cp : CP) : Array Value := #[.string ⟨⟨cp.1.nm⟩⟩, .string ⟨⟨cp.1.sup⟩⟩, .slice cp.2.fa cp.1.faces.length cp.2.fc, .bool cp.1.face, .slice cp.2.ga cp.1.fields.length cp.2.gc, .slice cp.2.ma cp.1.meths.length cp.2.mc]
/-- the copy's block -/
def DBlk (W : World) (g : Nat) (cp : CP) : Prop := W.heap[g]? = some (.cells (cArr cp) 28 (0, 0))
theorem DBlk.below {W W' : World} {g : Nat} {cp : CP} (h : DBlk W g cp) (hb : Below W.heap.size W W') : DBlk W' g cp := (hb.block g (Array.getElem?_eq_some_iff.1 h).1).trans h
theorem DBlk.lt {W : World} {g : Nat} {cp : CP} (h : DBlk W g cp) : g < W.heap.size := (Array.getElem?_eq_some_iff.1 h).1
theorem DBlk.cell {W : World} {g j : Nat} {cp : CP} (h : DBlk W g cp) : W.cell? ⟨g, j, none⟩ = (cArr cp)[j]? := by unfold DBlk at h; simp [World.cell?, h]
theorem DBlk.frozen {W : World} {g j : Nat} {cp : CP} (h : DBlk W g cp) : W.frozen? ⟨g, j, none⟩ = false := by unfold DBlk at h; simp [World.frozen?, h]
theorem DBlk.cells {W : World} {g : Nat} {cp : CP} (h : DBlk W g cp) : W.cell? ⟨g, 0, none⟩ = some (.string ⟨⟨cp.1.nm⟩⟩) ∧ W.cell? ⟨g, 1, none⟩ = some (.string ⟨⟨cp.1.sup⟩⟩) ∧ W.cell? ⟨g, 2, none⟩ = some (.slice cp.2.fa cp.1.faces.length cp.2.fc) ∧ W.cell? ⟨g, 3, none⟩ = some (.bool cp.1.face) ∧ W.cell? ⟨g, 4, none⟩ = some (.slice cp.2.ga cp.1.fields.length cp.2.gc) ∧ W.cell? ⟨g, 5, none⟩ = some (.slice cp.2.ma cp.1.meths.length cp.2.mc) :=
  ⟨by rw [h.cell]; rfl, by rw [h.cell]; rfl, by rw [h.cell]; rfl, by rw [h.cell]; rfl, by rw [h.cell]; rfl, by rw [h.cell]; rfl⟩
theorem DBlk.grown {W W' : World} {g B n : Nat} {cp : CP} {v : Value} {xs : List Value} (h : DBlk W g cp) (ho : W.ownsRow B 9 1 v n xs) (hg : W.grownBy W' v.ownBlock) : DBlk W' g cp := by
  refine (hg.block g h.lt ?_).trans h
  intro e
  rcases ho.2 with ⟨rfl, _⟩ | ⟨k, cap, cur, rfl, _, hk, _⟩
  · simp [Value.ownBlock] at e
  · simp [Value.ownBlock] at e
    subst e
    unfold DBlk at h
    rw [hk] at h
    simp only [Option.some.injEq, Obj.cells.injEq] at h
    exact absurd h.2.1 (by decide)
theorem dblk_new (W : World) (cp : CP) : DBlk (W.alloc (.cells #[.string ⟨⟨cp.1.nm⟩⟩, .string ⟨⟨cp.1.sup⟩⟩, .slice cp.2.fa cp.1.faces.length cp.2.fc, .bool cp.1.face, .slice cp.2.ga cp.1.fields.length cp.2.gc, .slice cp.2.ma cp.1.meths.length cp.2.mc] 28)) W.heap.size cp := (MapKept.heap_alloc W _).1

theorem cur_look {w : World} {b : Nat} {L : List CP} {n : Nm} (h : WorldAt w b L) (hn : n.length ≤ maxLen) :
    (Instr.lookup 53 (.map (some b)) (.string ⟨⟨n⟩⟩) false).run Tryd.prog w = .ok (classV (curP L n).1 (curP L n).2) w := by
  unfold curP
  cases hf : cpFind L n with
  | none => exact wlook_none h hn hf false
  | some cp => exact wlook_some h hn hf false
theorem cur_sup {L : List CP} {n : Nm} (h : (curP L n).1.sup ≠ []) : ∃ c, look (CL L) n = some c ∧ c = (curP L n).1 := by
  unfold curP at *
  unfold CL
  rw [cpFind_look]
  cases hf : cpFind L n with
  | none => rw [hf] at h; simp [zeroK] at h
  | some cp => exact ⟨cp.1, rfl, rfl⟩
theorem cur_top {L : List CP} {n : Nm} (h : (curP L n).1.sup = []) : atTop (CL L) n := by
  unfold curP at h
  unfold atTop CL
  rw [cpFind_look]
  cases hf : cpFind L n with
  | none => exact Or.inl rfl
  | some cp => rw [hf] at h; exact Or.inr ⟨cp.1, rfl, h⟩
theorem cur_len {L : List CP} {n : Nm} (hL : ∀ cp ∈ L, cp.1.sup.length ≤ 1048576) : (curP L n).1.sup.length ≤ 1048576 := by
  unfold curP
  cases hf : cpFind L n with
  | none => simp [zeroK]
  | some cp => exact hL cp (cpFind_mem hf).2

def LineRes (A : List Nm) (w : World) (e : Ending) (w' : World) : Prop := (∃ v, e = .returned v ∧ w'.ownsRow w.heap.size 9 1 v A.length (A.map strV)) ∧ Below w.heap.size w w'
def lenOf : Value → Nat | .slice _ n _ => n | _ => 0

set_option maxRecDepth 100000 in
set_option maxHeartbeats 2000000 in
theorem line_calls (L : List CP) (l : List ClassR) (b : Nat) (n : Nm) (w : World) (hW : WorldAt w b L) (hl : CL L = wl l) (hg : Good l) (hn : n.length ≤ 1048576) (hL : ∀ cp ∈ L, cp.1.sup.length ≤ 1048576) :
    Calls Tryd.prog 19 #[.map (some b), .string ⟨⟨n⟩⟩] w (LineRes (line (wl l) n) w) := by
  have HW := Lib.hid hW
  have HL := Lib.hid hl
  have HG := Lib.hid hg
  have HLL := Lib.hid hL
  clear hl hg hL
  have hml : (1048576 : Nat) ≤ maxLen := by unfold maxLen; omega
  have ho0 : (w.alloc (.cells #[strV n] 9)).ownsRow w.heap.size 9 1 (.slice (some ⟨w.heap.size, 0, none⟩) 1 1) 1 [strV n] := by
    have := World.ownsRow_lit (base := w.heap.size) (e := 9) (size := 1) w #[strV n] 1 (Nat.le_refl _) (by unfold maxLen; omega) rfl
    exact this
  have HO0 := Lib.hid ho0
  have hlk := cur_look (n := n) (hW.below ((Below.refl _ _).alloc (Nat.le_refl _) (.cells #[strV n] 9))) (by omega)
  have HD0 := Lib.hid (dblk_new (w.alloc (.cells #[strV n] 9)) (curP L n))
  unfold classV at hlk
  clear ho0 hW
  go_enter Tryd.func19, Tryd.ntmps19
  go_wp2_with fail
  go_loopw [5, 6] (fun v c wr => ∃ (out : List Nm) (cur : Nm) (g : Nat) (A : Option Addr) (C : Nat), Hid (Ln l n out cur) ∧ v = .slice A out.length C ∧ c = .pointer (some ⟨g, 0, none⟩) ∧ wr.ownsRow w.heap.size 9 1 (.slice A out.length C) out.length (out.map strV) ∧ Below w.heap.size w wr ∧ DBlk wr g (curP L cur)) (fun v _ _ => 14 - lenOf v)
  case atStart => exact ⟨[n], n, w.heap.size + 1, some ⟨w.heap.size, 0, none⟩, 1, Lib.hid (Ln.start l n), rfl, by simp, HO0.out.alloc _, ((Below.refl _ _).alloc (Nat.le_refl _) _).alloc (by simp) _, by have := HD0.out; simpa using this⟩
  case round =>
    obtain ⟨out, cur, g, A, C, HLN, rfl, rfl, ho, hb, hd⟩ := hrel
    have HO := Lib.hid ho
    have HB := Lib.hid hb
    have HD := Lib.hid hd
    have hsz := hb.size
    have hgl := hd.lt
    obtain ⟨c0, c1, c2, c3, c4, c5⟩ := hd.cells
    have hlen := HLN.out.len HG.out
    clear ho hb hd
    by_cases hs : (curP L cur).1.sup = []
    · have HE := Lib.hid (HLN.out.done HG.out (by rw [← HL.out]; exact cur_top hs))
      rw [hs] at c1
      clear hs
      go_wp2_with fail
      go_ret
      exact ⟨⟨_, rfl, by rw [HE.out]; exact HO.out⟩, HB.out⟩
    · obtain ⟨c, hc, hce⟩ := cur_sup hs
      have HN := Lib.hid (HLN.out.step HG.out (by rw [← HL.out]; exact hc) (by rw [hce]; exact hs))
      have hsl := cur_len (n := cur) HLL.out
      rw [hce] at HN
      obtain ⟨x, r, hx⟩ : ∃ x r, (curP L cur).1.sup = x :: r := by
        cases h : (curP L cur).1.sup with
        | nil => exact absurd h hs
        | cons x r => exact ⟨x, r, rfl⟩
      rw [hx] at c1 HN hsl
      clear hs hc hce
      go_wp2_with (at_builtin; refine wpList_append_one rowStr rfl _ _ rfl w.heap.size _ out.length (out.map strV) rfl ?c0 [strV (x :: r)] rfl ?c1 _ rfl ?cg ?c2 ?c3 ?c4 ?_)
      case c0 => exact HO.out
      case c1 => intro u hu; rw [List.mem_singleton.1 hu]; rfl
      case cg => rfl
      case c2 => omega
      case c3 => omega
      case c4 => exact hsz
      intro v4 w4 ho4 hg4
      have hb4 := grown_below hsz HO.out hg4
      have HB4 := Lib.hid (HB.out.trans hb4)
      have HD4 := Lib.hid ((HD.out.below ((Below.refl _ _).alloc (Nat.le_refl _) _)).grown (HO.out.alloc _) hg4)
      have hw4 := HB4.out.size
      have ho5 : w4.ownsRow w.heap.size 9 1 v4 (out ++ [x :: r]).length ((out ++ [x :: r]).map strV) := by
        rw [List.length_append, List.length_singleton, List.map_append]; exact ho4
      obtain ⟨A4, C4, rfl, _⟩ := slice_of_own ho5
      have HO5 := Lib.hid ho5
      have hll : (out ++ [x :: r]).length = out.length + 1 := by simp
      obtain ⟨e0, e1, e2, e3, e4, e5⟩ := HD4.out.cells
      rw [hx] at e1
      have hlk4 := cur_look (n := x :: r) ((HW.out.below HB4.out).below ((Below.refl _ _).alloc (Nat.le_refl _) (.cells #[.string ⟨⟨(curP L cur).1.nm⟩⟩, .string ⟨⟨x :: r⟩⟩, .slice (curP L cur).2.fa (curP L cur).1.faces.length (curP L cur).2.fc, .bool (curP L cur).1.face, .slice (curP L cur).2.ga (curP L cur).1.fields.length (curP L cur).2.gc, .slice (curP L cur).2.ma (curP L cur).1.meths.length (curP L cur).2.mc] 28))) (Nat.le_trans hsl hml)
      unfold classV at hlk4
      clear ho4 hg4 hb4 ho5 hx
      generalize hcp2 : curP L (x :: r) = cp2 at *
      have HCP := Lib.hid hcp2
      clear hcp2
      go_wp2_with fail
      go_roundw
      case rel => exact ⟨out ++ [x :: r], x :: r, w4.heap.size, A4, C4, HN, rfl, rfl, HO5.out.alloc _, HB4.out.alloc hw4 _, by rw [HCP.out]; exact dblk_new w4 cp2⟩
      case measure => simp [lenOf]; omega
end Go.Proofs.YtokomofjcnefaaaDoor
