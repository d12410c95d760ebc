/-
  Classes, methods, fields and handlers in memory.
-/
import Derived.Test.YtokomofjcnefaaaDoorCode
import Derived.Test.YtokomofjcnefaaaDoorPClass
import Derived.Test.YtokomofjcnefaaaDoorSmall
import Derived.Test.YtokomofjcnefaaaDoorSRow
namespace Go.Proofs.YtokomofjcnefaaaDoor
set_option linter.unusedVariables false
set_option linter.unusedSimpArgs false
open Go.RowKit

def fieldCells (x : FieldR) : List Value := [.string ⟨⟨x.nm⟩⟩, .string ⟨⟨x.ty⟩⟩]
def handCells (h : HandR) : List Value := [.int .i64 h.lo, .int .i64 h.hi, .int .i64 h.at_, .string ⟨⟨h.cl⟩⟩]
def FieldsAt (w : World) (a : Option Addr) (cap : Nat) (l : List FieldR) : Prop := RowsAt w 2 a cap (l.map fieldCells)
def HandsAt (w : World) (a : Option Addr) (cap : Nat) (l : List HandR) : Prop := RowsAt w 4 a cap (l.map handCells)
theorem FieldsAt.below {w w' : World} {a : Option Addr} {cap : Nat} {l : List FieldR} (h : FieldsAt w a cap l) (hb : Below w.heap.size w w') : FieldsAt w' a cap l := RowsAt.below h hb
theorem HandsAt.below {w w' : World} {a : Option Addr} {cap : Nat} {l : List HandR} (h : HandsAt w a cap l) (hb : Below w.heap.size w w') : HandsAt w' a cap l := RowsAt.below h hb

theorem FieldsAt.cells {w : World} {a : Option Addr} {cap : Nat} {l : List FieldR} (h : FieldsAt w a cap l) {k : Nat} {x : FieldR} (hx : l[k]? = some x) : ∃ b off, a = some ⟨b, off, none⟩ ∧ b < w.heap.size ∧
    w.cell? ⟨b, off + k * 2, none⟩ = some (.string ⟨⟨x.nm⟩⟩) ∧ w.cell? ⟨b, off + k * 2 + 1, none⟩ = some (.string ⟨⟨x.ty⟩⟩) := by
  obtain ⟨_, h2 | ⟨b, off, rfl, hlt, hc⟩⟩ := h
  · have : l = [] := by simpa using h2
    subst this; simp at hx
  · have hk : (l.map fieldCells)[k]? = some (fieldCells x) := by rw [List.getElem?_map, hx]; rfl
    have hh := hc k _ hk
    exact ⟨b, off, rfl, hlt, hh 0 _ rfl, hh 1 _ rfl⟩
theorem HandsAt.cells {w : World} {a : Option Addr} {cap : Nat} {l : List HandR} (h : HandsAt w a cap l) {k : Nat} {x : HandR} (hx : l[k]? = some x) : ∃ b off, a = some ⟨b, off, none⟩ ∧ b < w.heap.size ∧
    w.cell? ⟨b, off + k * 4, none⟩ = some (.int .i64 x.lo) ∧ w.cell? ⟨b, off + k * 4 + 1, none⟩ = some (.int .i64 x.hi) ∧ w.cell? ⟨b, off + k * 4 + 2, none⟩ = some (.int .i64 x.at_) ∧
    w.cell? ⟨b, off + k * 4 + 3, none⟩ = some (.string ⟨⟨x.cl⟩⟩) := by
  obtain ⟨_, h2 | ⟨b, off, rfl, hlt, hc⟩⟩ := h
  · have : l = [] := by simpa using h2
    subst this; simp at hx
  · have hk : (l.map handCells)[k]? = some (handCells x) := by rw [List.getElem?_map, hx]; rfl
    have hh := hc k _ hk
    exact ⟨b, off, rfl, hlt, hh 0 _ rfl, hh 1 _ rfl, hh 2 _ rfl, hh 3 _ rfl⟩
theorem strs_cell {w : World} {a : Option Addr} {cap : Nat} {l : List (List UInt8)} (h : SRow w a cap l) {k : Nat} {x : List UInt8} (hx : l[k]? = some x) : ∃ b off, a = some ⟨b, off, none⟩ ∧ b < w.heap.size ∧
    w.cell? ⟨b, off + k, none⟩ = some (.string ⟨⟨x⟩⟩) := by
  obtain ⟨_, rfl | ⟨b, off, rfl, hlt, hc⟩⟩ := h
  · simp at hx
  · exact ⟨b, off, rfl, hlt, hc k x hx⟩

/-- where a method's two lists lie -/
structure MAddr where
  ca : Option Addr
  cc : Nat
  ha : Option Addr
  hc : Nat
def methCells (m : MethR) (p : MAddr) : List Value := [.string ⟨⟨m.nm⟩⟩, .string ⟨⟨m.ty⟩⟩, .bool m.stat, .bool m.abst, .bool m.priv, .int .i64 m.loc, .slice p.ca m.code.length p.cc, .slice p.ha m.hs.length p.hc]
def methV (m : MethR) (p : MAddr) : Value := .agg #[.string ⟨⟨m.nm⟩⟩, .string ⟨⟨m.ty⟩⟩, .bool m.stat, .bool m.abst, .bool m.priv, .int .i64 m.loc, .slice p.ca m.code.length p.cc, .slice p.ha m.hs.length p.hc]
/-- what a method's lists read as -/
def MethAt (w : World) (m : MethR) (p : MAddr) : Prop := CodeAt w p.ca p.cc m.code ∧ HandsAt w p.ha p.hc m.hs
theorem MethAt.below {w w' : World} {m : MethR} {p : MAddr} (h : MethAt w m p) (hb : Below w.heap.size w w') : MethAt w' m p := ⟨h.1.below hb, h.2.below hb⟩

def MethsAt (w : World) (a : Option Addr) (cap : Nat) (l : List MethR) (ps : List MAddr) : Prop :=
  ps.length = l.length ∧ RowsAt w 8 a cap (List.zipWith methCells l ps) ∧ ∀ (k : Nat) (m : MethR) (p : MAddr), l[k]? = some m → ps[k]? = some p → MethAt w m p
theorem MethsAt.below {w w' : World} {a : Option Addr} {cap : Nat} {l : List MethR} {ps : List MAddr} (h : MethsAt w a cap l ps) (hb : Below w.heap.size w w') : MethsAt w' a cap l ps :=
  ⟨h.1, h.2.1.below hb, fun k m p hm hp => (h.2.2 k m p hm hp).below hb⟩

theorem MethsAt.cells {w : World} {a : Option Addr} {cap : Nat} {l : List MethR} {ps : List MAddr} (h : MethsAt w a cap l ps) {k : Nat} {m : MethR} (hx : l[k]? = some m) : ∃ (b : Nat) (off : Nat) (p : MAddr), a = some ⟨b, off, none⟩ ∧ b < w.heap.size ∧ ps[k]? = some p ∧ MethAt w m p ∧
    w.cell? ⟨b, off + k * 8, none⟩ = some (.string ⟨⟨m.nm⟩⟩) ∧ w.cell? ⟨b, off + k * 8 + 1, none⟩ = some (.string ⟨⟨m.ty⟩⟩) ∧ w.cell? ⟨b, off + k * 8 + 2, none⟩ = some (.bool m.stat) ∧ w.cell? ⟨b, off + k * 8 + 3, none⟩ = some (.bool m.abst) ∧
    w.cell? ⟨b, off + k * 8 + 4, none⟩ = some (.bool m.priv) ∧ w.cell? ⟨b, off + k * 8 + 5, none⟩ = some (.int .i64 m.loc) ∧ w.cell? ⟨b, off + k * 8 + 6, none⟩ = some (.slice p.ca m.code.length p.cc) ∧ w.cell? ⟨b, off + k * 8 + 7, none⟩ = some (.slice p.ha m.hs.length p.hc) := by
  obtain ⟨hl, hr, hm⟩ := h
  obtain ⟨hk, hx'⟩ := List.getElem?_eq_some_iff.1 hx
  have hkp : k < ps.length := by omega
  obtain ⟨p, hp⟩ : ∃ p, ps[k]? = some p := ⟨_, List.getElem?_eq_getElem hkp⟩
  have hz : (List.zipWith methCells l ps)[k]? = some (methCells m p) := by
    rw [List.getElem?_zipWith, hx, hp]
  obtain ⟨_, h2 | ⟨b, off, rfl, hlt, hc⟩⟩ := hr
  · rw [h2] at hz; simp at hz
  · have hh := hc k _ hz
    exact ⟨b, off, p, rfl, hlt, hp, hm k m p hx hp, hh 0 _ rfl, hh 1 _ rfl, hh 2 _ rfl, hh 3 _ rfl, hh 4 _ rfl, hh 5 _ rfl, hh 6 _ rfl, hh 7 _ rfl⟩

/-- a method in a block of its own -/
def MBox (W : World) (g : Nat) (m : MethR) (p : MAddr) : Prop :=
  g < W.heap.size ∧ W.cell? ⟨g, 0, none⟩ = some (.string ⟨⟨m.nm⟩⟩) ∧ W.cell? ⟨g, 1, none⟩ = some (.string ⟨⟨m.ty⟩⟩) ∧ W.cell? ⟨g, 2, none⟩ = some (.bool m.stat) ∧ W.cell? ⟨g, 3, none⟩ = some (.bool m.abst) ∧
    W.cell? ⟨g, 4, none⟩ = some (.bool m.priv) ∧ W.cell? ⟨g, 5, none⟩ = some (.int .i64 m.loc) ∧ W.cell? ⟨g, 6, none⟩ = some (.slice p.ca m.code.length p.cc) ∧ W.cell? ⟨g, 7, none⟩ = some (.slice p.ha m.hs.length p.hc)
theorem MBox.below {W W' : World} {g : Nat} {m : MethR} {p : MAddr} (h : MBox W g m p) (hb : Below W.heap.size W W') : MBox W' g m p := by
  obtain ⟨h0, h1, h2, h3, h4, h5, h6, h7, h8⟩ := h
  refine ⟨Nat.lt_of_lt_of_le h0 hb.size, ?_, ?_, ?_, ?_, ?_, ?_, ?_, ?_⟩ <;> (rw [hb.cell (p := ⟨g, _, none⟩) h0]; assumption)
theorem mbox_new (w : World) (m : MethR) (p : MAddr) : MBox (w.alloc (.cells #[.string ⟨⟨m.nm⟩⟩, .string ⟨⟨m.ty⟩⟩, .bool m.stat, .bool m.abst, .bool m.priv, .int .i64 m.loc, .slice p.ca m.code.length p.cc, .slice p.ha m.hs.length p.hc] 43)) w.heap.size m p := by
  refine ⟨by simp, ?_, ?_, ?_, ?_, ?_, ?_, ?_, ?_⟩ <;> rw [World.cell?_alloc_new] <;> rfl

/-- where a class's three lists lie -/
structure CAddr where
  fa : Option Addr
  fc : Nat
  ga : Option Addr
  gc : Nat
  ma : Option Addr
  mc : Nat
  ps : List MAddr
def classCells (c : ClassR) (p : CAddr) : List Value := [.string ⟨⟨c.nm⟩⟩, .string ⟨⟨c.sup⟩⟩, .slice p.fa c.faces.length p.fc, .bool c.face, .slice p.ga c.fields.length p.gc, .slice p.ma c.meths.length p.mc]
def classV (c : ClassR) (p : CAddr) : Value := .agg #[.string ⟨⟨c.nm⟩⟩, .string ⟨⟨c.sup⟩⟩, .slice p.fa c.faces.length p.fc, .bool c.face, .slice p.ga c.fields.length p.gc, .slice p.ma c.meths.length p.mc]
def ClassAt (w : World) (c : ClassR) (p : CAddr) : Prop := SRow w p.fa p.fc c.faces ∧ FieldsAt w p.ga p.gc c.fields ∧ MethsAt w p.ma p.mc c.meths p.ps
theorem ClassAt.below {w w' : World} {c : ClassR} {p : CAddr} (h : ClassAt w c p) (hb : Below w.heap.size w w') : ClassAt w' c p := ⟨h.1.below hb, h.2.1.below hb, h.2.2.below hb⟩
/-- a class in a block of its own -/
def CBox (W : World) (g : Nat) (c : ClassR) (p : CAddr) : Prop :=
  g < W.heap.size ∧ W.cell? ⟨g, 0, none⟩ = some (.string ⟨⟨c.nm⟩⟩) ∧ W.cell? ⟨g, 1, none⟩ = some (.string ⟨⟨c.sup⟩⟩) ∧ W.cell? ⟨g, 2, none⟩ = some (.slice p.fa c.faces.length p.fc) ∧ W.cell? ⟨g, 3, none⟩ = some (.bool c.face) ∧
    W.cell? ⟨g, 4, none⟩ = some (.slice p.ga c.fields.length p.gc) ∧ W.cell? ⟨g, 5, none⟩ = some (.slice p.ma c.meths.length p.mc)
theorem CBox.below {W W' : World} {g : Nat} {c : ClassR} {p : CAddr} (h : CBox W g c p) (hb : Below W.heap.size W W') : CBox W' g c p := by
  obtain ⟨h0, h1, h2, h3, h4, h5, h6⟩ := h
  refine ⟨Nat.lt_of_lt_of_le h0 hb.size, ?_, ?_, ?_, ?_, ?_, ?_⟩ <;> (rw [hb.cell (p := ⟨g, _, none⟩) h0]; assumption)
theorem cbox_new (w : World) (c : ClassR) (p : CAddr) : CBox (w.alloc (.cells #[.string ⟨⟨c.nm⟩⟩, .string ⟨⟨c.sup⟩⟩, .slice p.fa c.faces.length p.fc, .bool c.face, .slice p.ga c.fields.length p.gc, .slice p.ma c.meths.length p.mc] 28)) w.heap.size c p := by
  refine ⟨by simp, ?_, ?_, ?_, ?_, ?_, ?_⟩ <;> rw [World.cell?_alloc_new] <;> rfl

end Go.Proofs.YtokomofjcnefaaaDoor
