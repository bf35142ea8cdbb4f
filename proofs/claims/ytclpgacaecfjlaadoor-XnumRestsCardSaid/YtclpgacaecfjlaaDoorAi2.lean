/- Small lemmas on worlds: a result's cells behind a call. -/
import Derived.Test.YtclpgacaecfjlaaDoorAid
namespace Go.Sten
open Go Go.RowKit

/-- a block that was laid, behind a growth -/
theorem Gw.new {w w1 : World} {o : Obj} (g : Gw (w.alloc o) w1) (i : Nat) : w1.cell? ⟨w.heap.size, i, none⟩ = (w.alloc o).cell? ⟨w.heap.size, i, none⟩ ∧ w1.frozen? ⟨w.heap.size, i, none⟩ = (w.alloc o).frozen? ⟨w.heap.size, i, none⟩ :=
  ⟨g.cell (by simp), g.below.frozen (p := ⟨w.heap.size, i, none⟩) (by simp)⟩
theorem Gw.undrew {w w1 : World} (g : Gw w.drew w1) : Gw w w1 := (Gw.refl w).drew.trans g
/-- a result of two cells, behind a growth: what the store and the read of the result want -/
theorem Gw.res2 {w w1 : World} {a b : Value} {T : TypeId} (g : Gw (w.alloc (.cells #[a, b] T)) w1) (k : Nat) (hk : k = w.heap.size) :
    w1.cell? ⟨k, 0, none⟩ = some a ∧ w1.cell? ⟨k, 1, none⟩ = some b ∧ w1.frozen? ⟨k, 0, none⟩ = false ∧ w1.frozen? ⟨k, 1, none⟩ = false ∧ k + 1 ≤ w1.heap.size ∧
    (∀ x, (w1.setCell ⟨k, 0, none⟩ x).cell? ⟨k, 0, none⟩ = some x) ∧ (∀ x y, ((w1.setCell ⟨k, 0, none⟩ x).setCell ⟨k, 1, none⟩ y).cell? ⟨k, 1, none⟩ = some y) := by
  subst hk
  have h0 : w1.cell? ⟨w.heap.size, 0, none⟩ = some a := (g.new 0).1.trans (by simp)
  have h1 : w1.cell? ⟨w.heap.size, 1, none⟩ = some b := (g.new 1).1.trans (by simp)
  refine ⟨h0, h1, (g.new 0).2.trans (by simp), (g.new 1).2.trans (by simp), ?_, fun x => World.cell?_setCell_same _ _ _ h0, fun x y => World.cell?_setCell_same _ _ _ ((World.cell?_setCell_other _ _ _ _ (by simp)).trans h1)⟩
  have := g.size
  simpa using this
/-- a growth, and the two cells of a result -/
theorem Gw.put2 {w w1 : World} (g : Gw w w1) (k : Nat) (hk : w.heap.size ≤ k) (x y : Value) : Gw w ((w1.setCell ⟨k, 0, none⟩ x).setCell ⟨k, 1, none⟩ y) := (g.setCell _ _ _ hk).setCell _ _ _ hk

/-- a block of two cells that can be written -/
def Box2 (W : World) (k : Nat) (a b : Value) : Prop := W.cell? ⟨k, 0, none⟩ = some a ∧ W.cell? ⟨k, 1, none⟩ = some b ∧ W.frozen? ⟨k, 0, none⟩ = false ∧ W.frozen? ⟨k, 1, none⟩ = false ∧ k < W.heap.size
theorem Box2.new (w : World) (a b : Value) (T : TypeId) : Box2 (w.alloc (.cells #[a, b] T)) w.heap.size a b := ⟨by simp, by simp, by simp, by simp, by simp⟩
theorem Box2.gw {W W' : World} {k : Nat} {a b : Value} (h : Box2 W k a b) (g : Gw W W') : Box2 W' k a b :=
  ⟨(g.cell h.2.2.2.2).trans h.1, (g.cell h.2.2.2.2).trans h.2.1, (g.below.frozen (p := ⟨k, 0, none⟩) h.2.2.2.2).trans h.2.2.1, (g.below.frozen (p := ⟨k, 1, none⟩) h.2.2.2.2).trans h.2.2.2.1, Nat.lt_of_lt_of_le h.2.2.2.2 g.size⟩
theorem Box2.old {W : World} {k : Nat} {a b : Value} (h : Box2 W k a b) (o : Obj) : Box2 (W.alloc o) k a b := h.gw ((Gw.refl _).alloc o)
theorem Box2.at {W : World} {k k' : Nat} {a b : Value} (h : Box2 W k a b) (e : k = k') : Box2 W k' a b := e ▸ h
/-- the two stores of a result, and what is read of it then -/
theorem Box2.put {W : World} {k : Nat} {a b : Value} (h : Box2 W k a b) : (∀ x, (W.setCell ⟨k, 0, none⟩ x).cell? ⟨k, 0, none⟩ = some x) ∧ (∀ x y, ((W.setCell ⟨k, 0, none⟩ x).setCell ⟨k, 1, none⟩ y).cell? ⟨k, 1, none⟩ = some y) :=
  ⟨fun x => World.cell?_setCell_same _ _ _ h.1, fun x y => World.cell?_setCell_same _ _ _ ((World.cell?_setCell_other _ _ _ _ (by simp)).trans h.2.1)⟩

section
variable {w w1 : World} {a b c d e f : Value} {T1 T2 T3 : TypeId}
/-- two parameters and a result, behind a growth -/
theorem Gw.fst3 (g : Gw (((w.alloc (.cells #[a, b] T1)).alloc (.cells #[c, d] T2)).alloc (.cells #[e, f] T3)) w1) : Box2 w1 w.heap.size a b := (((Box2.new w a b T1).old _).old _).gw g
theorem Gw.snd3 (g : Gw (((w.alloc (.cells #[a, b] T1)).alloc (.cells #[c, d] T2)).alloc (.cells #[e, f] T3)) w1) : Box2 w1 (w.heap.size + 1) c d := (((Box2.new _ c d T2).old _).gw g).at (by simp)
theorem Gw.res3 (g : Gw (((w.alloc (.cells #[a, b] T1)).alloc (.cells #[c, d] T2)).alloc (.cells #[e, f] T3)) w1) : Box2 w1 (w.heap.size + 2) e f := ((Box2.new _ e f T3).gw g).at (by simp)
theorem Gw.was3 (g : Gw (((w.alloc (.cells #[a, b] T1)).alloc (.cells #[c, d] T2)).alloc (.cells #[e, f] T3)) w1) : Gw w w1 := ((((Gw.refl w).alloc _).alloc _).alloc _).trans g
end
end Go.Sten
