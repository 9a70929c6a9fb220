/- Steps for the walks that fill the table of verbs: the cells of a block of 144 cells that is there, and what a store of six cells leaves; for every world. -/
import Derived.Test.YtciljkcicfphdaaGreatDoorW2
import Derived.Deep.RegionWith
import Derived.Deep.DeepCutAuto
import Derived.StillTailTactics
namespace Go.Proofs.YtciljkcicfphdaaGreatDoor
open Go.RowKit
theorem exactly_any (n : Int) (w : World) : Calls Tryz.prog 41 #[.int .i64 n] w fun e w' => e = .returned (.agg #[.int .i64 n, .int .i64 n, .int .i64 1]) ∧ w' = w.alloc (.cells #[.int .i64 n, .int .i64 n, .int .i64 1] 43) := by
  go_enter Tryz.func41, Tryz.ntmps41
  go_wp2
  exact bodyPost_ret (results_cell_row rfl _ _ w.heap.size 43 #[.int .i64 n, .int .i64 n, .int .i64 1] (0, 0) _ rfl (heap_alloc_new w _) Tryz.underlying43 rfl (by kernel_rfl)) rfl ⟨rfl, rfl⟩
theorem cells6 {w : World} {g : Nat} (h : w.there g 0 144) (i : Nat) (hi : i + 5 < 144) : ∃ u0 u1 u2 u3 u4 u5 : Value,
    (w.cell? ⟨g, i, none⟩ = some u0 ∧ w.cell? ⟨g, i + 1, none⟩ = some u1 ∧ w.cell? ⟨g, i + 2, none⟩ = some u2 ∧ w.cell? ⟨g, i + 3, none⟩ = some u3 ∧ w.cell? ⟨g, i + 4, none⟩ = some u4 ∧ w.cell? ⟨g, i + 5, none⟩ = some u5) ∧
    (w.frozen? ⟨g, i, none⟩ = false ∧ w.frozen? ⟨g, i + 1, none⟩ = false ∧ w.frozen? ⟨g, i + 2, none⟩ = false ∧ w.frozen? ⟨g, i + 3, none⟩ = false ∧ w.frozen? ⟨g, i + 4, none⟩ = false ∧ w.frozen? ⟨g, i + 5, none⟩ = false) := by
  have q : ∀ j, j < 144 → ∃ u, w.cell? ⟨g, j, none⟩ = some u ∧ w.frozen? ⟨g, j, none⟩ = false := fun j hj => by
    obtain ⟨h1, h2⟩ := h j hj
    rw [Nat.zero_add] at h1 h2
    obtain ⟨u, hu⟩ := Option.isSome_iff_exists.1 h1
    exact ⟨u, hu, h2⟩
  obtain ⟨u0, a0, b0⟩ := q i (by omega)
  obtain ⟨u1, a1, b1⟩ := q (i + 1) (by omega)
  obtain ⟨u2, a2, b2⟩ := q (i + 2) (by omega)
  obtain ⟨u3, a3, b3⟩ := q (i + 3) (by omega)
  obtain ⟨u4, a4, b4⟩ := q (i + 4) (by omega)
  obtain ⟨u5, a5, b5⟩ := q (i + 5) (by omega)
  exact ⟨u0, u1, u2, u3, u4, u5, ⟨a0, a1, a2, a3, a4, a5⟩, b0, b1, b2, b3, b4, b5⟩
theorem info46 : (Tryz.prog.info? 46).map (·.size) = some 6 := by kernel_rfl

theorem step_store_mid {P : Program} {ops : Array Oper} {op : Oper} {a : Act} {w : World} {K : Act → World → Prop} {Q : Exit → Act → World → Prop} {E : Prop} (hg : op.guard = none) (ty : TypeId) (x y : Operand) (ho : op.op = .store ty x y)
    (b o : Nat) (cells : Array Value) (hx : a.eval x = .pointer (some ⟨b, o, none⟩)) (hy : a.eval y = .agg cells) (ht : w.there b o cells.size) (hi : (P.info? ty).map (·.size) = some cells.size) (h1 : cells.all (·.oneCell') = true)
    (h : K (a.put op.dst undef) (w.setCells b o cells.toList)) : if Region.wanted op (yielded ops a.tmps) = true then Oper.wp P op a w K Q else E := by
  rw [if_pos (by simp [Region.wanted, hg])]
  exact wp_store_mid ty x y ho b o cells hx hy ht hi h1 h
end Go.Proofs.YtciljkcicfphdaaGreatDoor
