import Derived.Test.YtddbnboicmaooaaGreatDoorWld
namespace Go.Proofs.YtddbnboicmaooaaGreatDoor
set_option linter.unusedVariables false
set_option linter.unusedSimpArgs false
open Go.RowKit Go.Shelf Go.Lib
structure WOk (W : World) (b : Nat) (l : List ClassR) (L : List CP) : Prop where
 at_ : WorldAt W b L
 cl : CL L = wl l
 good : Good l
theorem WOk.below {w w' : World} {b : Nat} {l : List ClassR} {L : List CP} (h : WOk w b l L) (hb : Below w.heap.size w w') : WOk w' b l L := ⟨h.at_.below hb, h.cl, h.good⟩
theorem wok_of {w : World} {b : Nat} {l : List ClassR} {ps : List CAddr} (hw : WorldAt w b (wcp l ps)) (hps : ps.length = l.length) (hg : Good l) : WOk w b l (wcp l ps) := ⟨hw, cl_wcp hps, hg⟩
theorem good_cls {l : List ClassR} (hg : Good l) {c : ClassR} (h : c ∈ wl l) : c.nm.length ≤ 20 ∧ c.sup.length ≤ 20 ∧ c.faces.length ≤ 8 ∧ c.fields.length ≤ 8 ∧ c.meths.length ≤ 8 := by
 unfold wl at h
 simp only [List.mem_cons] at h
 rcases h with rfl | rfl | h
 · simp [objC, objN]
 · simp [fltC, fltN, objN]
 · obtain ⟨⟨h1, h2⟩, _, ⟨h4, h5, h6⟩, _⟩ := classErr_ok (hg.ok c h)
   refine ⟨(name_len h1).2, ?_, h4, h5, h6⟩
   rcases h2 with e | e
   · rw [e]; simp
   · exact (name_len e).2
theorem good_names20 {l : List ClassR} (hg : Good l) {x : Nm} (h : x ∈ names l) : x.length ≤ 20 := by
 unfold names at h
 obtain ⟨c, hc, rfl⟩ := List.mem_map.1 h
 exact (good_cls hg hc).1
theorem WOk.mem {W : World} {b : Nat} {l : List ClassR} {L : List CP} (h : WOk W b l L) {cp : CP} (hc : cp ∈ L) : cp.1 ∈ wl l := by
 rw [← h.cl]; exact List.mem_map.2 ⟨cp, hc, rfl⟩
theorem line_w {W : World} {b : Nat} {l : List ClassR} {L : List CP} (h : WOk W b l L) (n : Nm) (hn : n.length ≤ 1048576) :
   Calls Tryz.prog 197 #[.map (some b), .string ⟨⟨n⟩⟩] W (LineRes (line (wl l) n) W) :=
 line_calls L l b n W h.at_ h.cl h.good hn (fun cp hc => by have := (good_cls h.good (h.mem hc)).2.1; omega)
theorem every_w {W : World} {b : Nat} {l : List ClassR} {L : List CP} (h : WOk W b l L) (n : Nm) (hn : n.length ≤ 1048576) :
   Calls Tryz.prog 117 #[.map (some b), .string ⟨⟨n⟩⟩] W (LineRes (every (wl l) n) W) := by
 have hg := h.good
 have := every_calls L (n :: names l) b n W h.at_ (by rw [h.cl]; exact closed_names hg.join n) (by simp) (by have := good_names hg; simp; omega) (fun x hx => by
     rcases List.mem_cons.1 hx with e | e
     · rw [e]; exact hn
     · have := good_names20 hg e; omega) (fun cp hc => by have := (good_cls hg (h.mem hc)).2.2.1; omega)
 rw [h.cl] at this
 exact this
theorem zeroK_at (w : World) : ClassAt w zeroK nilP := ⟨⟨Nat.le_refl _, Or.inl rfl⟩, ⟨Nat.le_refl _, Or.inl rfl⟩, ⟨rfl, ⟨Nat.le_refl _, Or.inl rfl⟩, fun k m p hm => by simp [zeroK] at hm⟩⟩
theorem cur_at {W : World} {b : Nat} {L : List CP} (h : WorldAt W b L) (n : Nm) : ClassAt W (curP L n).1 (curP L n).2 := by
 unfold curP
 cases hf : cpFind L n with
 | none => exact zeroK_at W
 | some cp => exact h.2 cp (cpFind_mem hf).2
theorem cur_look2 {w : World} {b : Nat} {L : List CP} {n : Nm} (h : WorldAt w b L) (hn : n.length ≤ maxLen) :
   (Instr.lookup 88 (.map (some b)) (.string ⟨⟨n⟩⟩) true).run Tryz.prog w = .ok (.tuple #[classV (curP L n).1 (curP L n).2, .bool (look (CL L) n).isSome]) w := by
 unfold curP
 cases hf : cpFind L n with
 | none => rw [isSome_none hf]; exact wlook_none h hn hf true
 | some cp => rw [isSome_some hf]; exact wlook_some h hn hf true
theorem cur_is {L : List CP} (n : Nm) : (curP L n).1 = (look (CL L) n).getD zeroK := by
 unfold curP
 cases hf : cpFind L n with
 | none => rw [isSome_none hf]; rfl
 | some cp => rw [isSome_some hf]; rfl
theorem cur_bounds {W : World} {b : Nat} {l : List ClassR} {L : List CP} (h : WOk W b l L) (n : Nm) : (curP L n).1.nm.length ≤ 20 ∧ (curP L n).1.sup.length ≤ 20 ∧ (curP L n).1.faces.length ≤ 8 ∧ (curP L n).1.fields.length ≤ 8 ∧ (curP L n).1.meths.length ≤ 8 := by
 unfold curP
 cases hf : cpFind L n with
 | none => simp [zeroK]
 | some cp => exact good_cls h.good (h.mem (cpFind_mem hf).2)
theorem good_read {l : List ClassR} (h : Good l) : readErr l = 0 := (readErr_zero l).2 h
def ReadW (l : List ClassR) (ps : List CAddr) (w : World) (e : Ending) (w' : World) : Prop :=
 Below w.heap.size w w' ∧ ((readErr l ≠ 0 ∧ e = .returned (.tuple #[.map none, errV (readErr l)])) ∨
   (readErr l = 0 ∧ ∃ b, e = .returned (.tuple #[.map (some b), .nilIface]) ∧ WOk w' b l (wcp l ps)))
theorem read_w (l : List ClassR) (ps : List CAddr) (a : Option Addr) (cap : Nat) (w : World) (hC : ClassesAt w a cap l ps) (hF : FormsAt w) (hB : ClsOk l) :
   Calls Tryz.prog 41 #[.slice a l.length cap] w (ReadW l ps w) := by
 refine (read_calls l ps a cap w hC hF hB).mono ?_
 rintro e w' ⟨hb, h | ⟨hg, b, rfl, _, hw⟩⟩
 · exact ⟨hb, Or.inl h⟩
 · exact ⟨hb, Or.inr ⟨good_read hg, b, rfl, wok_of hw hC.1 hg⟩⟩
end Go.Proofs.YtddbnboicmaooaaGreatDoor
