/- What the row's condition gives the walks: the two sentinels, the table of powers, and some integer in bytealg.MaxLen. -/
import Derived.Test.YtciljkcicfphdaaGreatDoorWS
import Derived.Test.YtciljkcicfphdaaGreatDoorRows
import Derived.LaidLaws
import Derived.LaidMore
import Derived.MakeChecks
import Derived.Lib.LaidTab
import Derived.Shelf.Vars
namespace Go.Proofs.YtciljkcicfphdaaGreatDoor
open Go Go.ChangeShapes Go.WideShapes Go.RowKit
theorem gSyn : Tryz.prog.globalNamed "strconv.ErrSyntax" = some 3 := by kernel_rfl
theorem gRng : Tryz.prog.globalNamed "strconv.ErrRange" = some 4 := by kernel_rfl
theorem gPow : Tryz.prog.globalNamed "internal/strconv.uint64pow10" = some 12 := by kernel_rfl
theorem tSyn : (Tryz.prog.globals[3]?).map (·.type) = some 65 := by kernel_rfl
theorem tRng : (Tryz.prog.globals[4]?).map (·.type) = some 65 := by kernel_rfl
theorem tPow : (Tryz.prog.globals[12]?).map (·.type) = some 444 := by kernel_rfl
theorem nGlob : 2 < Tryz.prog.globals.size := of_decide_eq_true (by kernel_rfl)
theorem zMax : ((begin Tryz.prog (fun _ _ => 0) default).world.heap[2]?).bind Obj.row? = some (#[.int .i64 0], 3) := by kernel_rfl
theorem bMax : Tryz.prog.buildable 3 = true := by kernel_rfl
theorem cMax : Tryz.prog.cellTypes Tryz.prog.depth 3 = some [3] := by kernel_rfl
theorem cArr : Tryz.prog.cellsOf 444 = 20 := by kernel_rfl
theorem cU64 : Tryz.prog.cellsOf 339 = 1 := by kernel_rfl
theorem powData : (Rows.laid_internal_strconv_uint64pow10 : DataW Unit) = Lib.tabData .u64 Lib.pow10Tab := by kernel_rfl
/-- the variables that the walks read -/
theorem glob_of {W : World} (h : laidMetH Tryz.prog Rows.wardenHearsRow.laid W) (hs : W.ShapedOpen Tryz.prog) : Glob W := by
  rw [MakeChecks.laidMetH_plain _ _ _ (by kernel_rfl)] at h
  obtain ⟨ps, ⟨g0, t0, cs0, f0, p0, q0, hg0, ht0, hv0, hd0, ⟨g1, t1, cs1, f1, p1, q1, hg1, ht1, hv1, hd1, ⟨g2, t2, cs2, f2, p2, q2, hg2, ht2, hv2, hd2, _, _⟩, _⟩, _⟩, _, _⟩ := h
  obtain rfl := Option.some.inj (gSyn.symm.trans hg0)
  obtain rfl := Option.some.inj (gRng.symm.trans hg1)
  obtain rfl := Option.some.inj (gPow.symm.trans hg2)
  obtain rfl := Option.some.inj (tSyn.symm.trans ht0)
  obtain rfl := Option.some.inj (tRng.symm.trans ht1)
  obtain rfl := Option.some.inj (tPow.symm.trans ht2)
  obtain ⟨_, u0, v0, e0, _, _⟩ := iface_of_trod Tryz.underlying65 hd0
  obtain ⟨_, u1, v1, e1, _, _⟩ := iface_of_trod Tryz.underlying65 hd1
  rw [powData] at hd2
  have e2 := Lib.cells_of_tab Tryz.underlying444 Tryz.underlying339 cU64 cArr hd2
  obtain ⟨m, hm⟩ := cell_of_shapedOpen_int hs nGlob zMax rfl bMax cMax Tryz.underlying3
  refine ⟨⟨u0, v0, ?_⟩, ⟨u1, v1, ?_⟩, ?_, m, hm⟩
  · rw [hv0, Array.eq_one_of_toList e0]
  · rw [hv1, Array.eq_one_of_toList e1]
  · unfold Lib.TabIs
    rw [hv2, ← e2]
end Go.Proofs.YtciljkcicfphdaaGreatDoor
