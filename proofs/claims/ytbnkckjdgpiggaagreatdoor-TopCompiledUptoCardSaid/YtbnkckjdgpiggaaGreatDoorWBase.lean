import Derived.Test.YtbnkckjdgpiggaaGreatDoorWld
namespace Go.Proofs.YtbnkckjdgpiggaaGreatDoor
set_option linter.unusedVariables false
set_option linter.unusedSimpArgs false
open Go.RowKit Go.Shelf Go.Lib
structure WOk (W : World) (b : Nat) (l : List zd) (L : List CP) : Prop where
 at_ : zav W b L
 cl : CL L = wl l
 good : zdf l
theorem WOk.below {w w' : World} {b : Nat} {l : List zd} {L : List CP} (h : WOk w b l L) (hb : Below w.heap.size w w') : WOk w' b l L := ⟨h.at_.below hb, h.cl, h.good⟩
theorem z7t {w : World} {b : Nat} {l : List zd} {ps : List zbf} (hw : zav w b (wcp l ps)) (hps : ps.length = l.length) (hg : zdf l) : WOk w b l (wcp l ps) := ⟨hw, zt8 hps, hg⟩
theorem zir {l : List zd} (hg : zdf l) {c : zd} (h : c ∈ wl l) : c.nm.length <= 20 /\ c.sup.length <= 20 /\ c.faces.length <= 8 /\ c.fields.length <= 8 /\ c.meths.length <= 8 := by
 unfold wl at h
 simp only [List.mem_cons] at h
 rcases h with rfl | rfl | h
 . simp [zhy, zbq]
 . simp [zoc, ztl, zbq]
 . obtain ⟨⟨h1, h2⟩, _, ⟨h4, h5, h6⟩, _⟩ := zf6 (hg.ok c h)
   refine ⟨(zdm h1).2, ?_, h4, h5, h6⟩
   rcases h2 with e | e
   . rw [e]; simp
   . exact (zdm e).2
theorem zkd {l : List zd} (hg : zdf l) {x : Nm} (h : x ∈ zbt l) : x.length <= 20 := by
 unfold zbt at h
 obtain ⟨c, hc, rfl⟩ := List.mem_map.1 h
 exact (zir hg hc).1
theorem WOk.mem {W : World} {b : Nat} {l : List zd} {L : List CP} (h : WOk W b l L) {cp : CP} (hc : cp ∈ L) : cp.1 ∈ wl l := by
 rw [<- h.cl]; exact List.mem_map.2 ⟨cp, hc, rfl⟩
theorem z30 {W : World} {b : Nat} {l : List zd} {L : List CP} (h : WOk W b l L) (n : Nm) (hn : n.length <= 1048576) :
   Calls Tryz.prog 171 #[.map (some b), .string ⟨⟨n⟩⟩] W (zo1 (zcx (wl l) n) W) :=
 zw4 L l b n W h.at_ h.cl h.good hn (fun cp hc => by have := (zir h.good (h.mem hc)).2.1; omega)
theorem z49 {W : World} {b : Nat} {l : List zd} {L : List CP} (h : WOk W b l L) (n : Nm) (hn : n.length <= 1048576) :
   Calls Tryz.prog 85 #[.map (some b), .string ⟨⟨n⟩⟩] W (zo1 (every (wl l) n) W) := by
 have hg := h.good
 have := zlv L (n :: zbt l) b n W h.at_ (by rw [h.cl]; exact ze5 hg.join n) (by simp) (by have := zfl hg; simp; omega) (fun x hx => by
     rcases List.mem_cons.1 hx with e | e
     . rw [e]; exact hn
     . have := zkd hg e; omega) (fun cp hc => by have := (zir hg (h.mem hc)).2.2.1; omega)
 rw [h.cl] at this
 exact this
theorem zrw {w : World} {b : Nat} {L : List CP} {n : Nm} (h : zav w b L) (hn : n.length <= maxLen) :
   (Instr.lookup 74 (.map (some b)) (.string ⟨⟨n⟩⟩) true).run Tryz.prog w = .ok (.tuple #[zbl (zfs L n).1 (zfs L n).2, .bool (zbi (CL L) n).isSome]) w := by
 unfold zfs
 cases hf : zbj L n with
 | none => rw [zew hf]; exact zdq h hn hf true
 | some cp => rw [zem hf]; exact zcn h hn hf true
theorem z63 {L : List CP} (n : Nm) : (zfs L n).1 = (zbi (CL L) n).getD z3x := by
 unfold zfs
 cases hf : zbj L n with
 | none => rw [zew hf]; rfl
 | some cp => rw [zem hf]; rfl
theorem zq0 {l : List zd} (h : zdf l) : zaq l = 0 := (zgs l).2 h
def z9a (l : List zd) (ps : List zbf) (w : World) (e : Ending) (w' : World) : Prop :=
 Below w.heap.size w w' /\ ((zaq l ≠ 0 /\ e = .returned (.tuple #[.map none, zby (zaq l)])) \/
   (zaq l = 0 /\ ∃ b, e = .returned (.tuple #[.map (some b), .nilIface]) /\ WOk w' b l (wcp l ps)))
theorem z6w (l : List zd) (ps : List zbf) (a : Option Addr) (cap : Nat) (w : World) (hC : za7 w a cap l ps) (hF : zaw w) (hB : zl9 l) :
   Calls Tryz.prog 47 #[.slice a l.length cap] w (z9a l ps w) := by
 refine (zw9 l ps a cap w hC hF hB).mono ?_
 rintro e w' ⟨hb, h | ⟨hg, b, rfl, _, hw⟩⟩
 . exact ⟨hb, Or.inl h⟩
 . exact ⟨hb, Or.inr ⟨zq0 hg, b, rfl, z7t hw hC.1 hg⟩⟩
end Go.Proofs.YtbnkckjdgpiggaaGreatDoor
