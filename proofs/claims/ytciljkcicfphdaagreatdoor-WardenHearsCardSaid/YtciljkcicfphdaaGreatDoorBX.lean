/- Boxes of one or two cells, written and kept. No program. -/
import Derived.Test.YtciljkcicfphdaaGreatDoorV0
import Derived.RangeFuncBox
namespace Go.Proofs.YtciljkcicfphdaaGreatDoor
open Go Go.RowKit
def Box2 (W : World) (D : Nat) (t : TypeId) (x y : Value) : Prop := W.heap[D]? = some (.cells #[x, y] t (0, 0))
section
variable {W W' : World} {D : Nat} {t : TypeId} {x y : Value}
theorem Box2.new (W : World) (t : TypeId) (x y : Value) : Box2 (W.alloc (.cells #[x, y] t)) W.heap.size t x y := heap_alloc_new W _
theorem Box2.lt (h : Box2 W D t x y) : D < W.heap.size := (Array.getElem?_eq_some_iff.1 h).1
theorem Box2.c0 (h : Box2 W D t x y) : W.cell? ⟨D, 0, none⟩ = some x := by rw [cell_of_row W D 0 _ t _ h]; rfl
theorem Box2.c1 (h : Box2 W D t x y) : W.cell? ⟨D, 1, none⟩ = some y := by rw [cell_of_row W D 1 _ t _ h]; rfl
theorem Box2.f0 (h : Box2 W D t x y) : W.frozen? ⟨D, 0, none⟩ = false := frozen_of_row W D 0 _ t h
theorem Box2.f1 (h : Box2 W D t x y) : W.frozen? ⟨D, 1, none⟩ = false := frozen_of_row W D 1 _ t h
theorem Box2.below {C : Nat} (h : Box2 W D t x y) (hb : Below C W W') (hD : D < C) : Box2 W' D t x y := (hb.block D hD).trans h
theorem Box2.alloc (h : Box2 W D t x y) (o : Obj) : Box2 (W.alloc o) D t x y := (Below.heap_alloc W o D h.lt).trans h
theorem Box2.kept {row : Option Nat} (h : Box2 W D t x y) (hg : W.grownBy W' row) (hne : some D ≠ row) : Box2 W' D t x y := (hg.block D h.lt hne).trans h
theorem Box2.other (h : Box2 W D t x y) {b o : Nat} (hne : D ≠ b) (v : Value) : Box2 (W.setCell ⟨b, o, none⟩ v) D t x y := (Below.heap_setCell W ⟨b, o, none⟩ v D hne).trans h
theorem heap_setCell_same (W : World) (D o : Nat) (C : Array Value) (t : TypeId) (fr : Nat × Nat) (v : Value) (h : W.heap[D]? = some (.cells C t fr)) : (W.setCell ⟨D, o, none⟩ v).heap[D]? = some (.cells (C.setIfInBounds o v) t fr) := by
  obtain ⟨hlt, hk⟩ := Array.getElem?_eq_some_iff.1 h
  show (W.heap.modify D _)[D]? = _
  rw [Array.getElem?_eq_getElem (by rw [Array.size_modify]; exact hlt), Array.getElem_modify_self, hk]
  rfl
theorem Box2.set0 (h : Box2 W D t x y) (v : Value) : Box2 (W.setCell ⟨D, 0, none⟩ v) D t v y := heap_setCell_same W D 0 _ t _ v h
theorem Box2.set1 (h : Box2 W D t x y) (v : Value) : Box2 (W.setCell ⟨D, 1, none⟩ v) D t x v := heap_setCell_same W D 1 _ t _ v h
end
end Go.Proofs.YtciljkcicfphdaaGreatDoor
