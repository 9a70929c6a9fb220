/- The program's list of all verbs, and the test of one verb's word; for every world and every word. -/
import Derived.Test.YtciljkcicfphdaaGreatDoorVF
namespace Go.Proofs.YtciljkcicfphdaaGreatDoor
open Go.RowKit
theorem size46 : (Tryz.prog.info? 46).map (·.size) = some 6 := info46
theorem there57 (w : World) : (w.alloc (.cells Z57 57)).there w.heap.size 0 144 := by have := there_block (heap_alloc_new w (.cells Z57 57)); rwa [Z57_size] at this
theorem size57L (L : Nat → Value × Value) : (Tryz.prog.info? 57).map (·.size) = some (verbAll L).toArray.size := by rw [List.size_toArray, verbAll_len]; exact size57
theorem there57L (w : World) (L : Nat → Value × Value) : (w.alloc (.cells Z57 57)).there w.heap.size 0 (verbAll L).toArray.size := by
  have e : (verbAll L).toArray.size = 144 := by simp [verbAll_len]
  rw [e]
  exact there57 w
set_option maxRecDepth 100000 in
set_option maxHeartbeats 400000 in
theorem allVerbs_any (w : World) : Calls Tryz.prog 12 #[] w fun e w' => ∃ g, e = .returned (.slice (some ⟨g, 0, none⟩) 24 24) ∧ VerbsIn w' g 0 24 ∧ g < w'.heap.size ∧ Below w.heap.size w w' := by
  have hz := (zero_of_info zero57).1
  go_enter Tryz.func12, Tryz.ntmps12
  go_upto_region 2 with (first
    | (go_at_call 21; refine (verbs_any _).mono ?_; rintro e w1 ⟨L, rfl, hL, hb⟩; have HL := Lib.hid hL; have HB := Lib.hid hb; have HT := Lib.hid (there57 w1); have HC := Lib.hid (verbAll_one hL); have HS := Lib.hid (size57L L); clear hL hb)
    | (refine wpList_store_mid rfl 57 (.tmp 1) (.tmp 2) rfl w1.heap.size 0 (verbAll L).toArray rfl rfl (there57L w1 L) HS.out HC.out ?_))
  obtain ⟨W, hW⟩ : ∃ W, W = (w1.alloc (.cells Z57 57)).setCells w1.heap.size 0 (verbAll L) := ⟨_, rfl⟩
  have H1 : Hid (VerbsIn W w1.heap.size 0 24) := by rw [hW]; exact verbsIn_all (World.rangeAt_setCells_same _ _ _ _ (by rw [verbAll_len]; exact HT.out)) HL.out
  have H2 : Hid (w1.heap.size < W.heap.size) := by rw [hW]; exact Nat.lt_of_lt_of_le (by simp) (grownBy_setCells _ _ _ _).size
  have H3 : Hid (Below w.heap.size w W) := by rw [hW]; exact (HB.out.alloc HB.out.size _).grown (grownBy_setCells _ _ _ _) (by have := HB.out.size; simp; omega) (fun k e => by cases e; exact HB.out.size)
  rw [← hW]
  clear hW hz HT HC HS HL HB
  go_wp2
  go_ret
  exact ⟨_, rfl, H1.out, H2.out, H3.out⟩
theorem str_eq (a b : List UInt8) : ((⟨a.toArray⟩ : ByteArray) = ⟨b.toArray⟩) ↔ a = b := by
  constructor
  · intro h
    have := congrArg (fun x => x.data.toList) h
    simpa using this
  · rintro rfl; rfl
set_option maxRecDepth 100000 in
set_option maxHeartbeats 2000000 in
theorem hear1_any (v : Nat) (ly d : Value) (h1 : ly.oneCell' = true) (h2 : d.oneCell' = true) (u : List UInt8) (bx : Nat) (w : World) (hx : w.cell? ⟨bx, 0, none⟩ = some (bstr u)) :
    Calls Tryz.prog 13 #[.agg #[.string ⟨(word v).toArray⟩, .int .i64 (lo v), .int .i64 (hi v), .int .i64 (st v), ly, d], .pointer (some ⟨bx, 0, none⟩)] w fun e w' => e = .returned (.bool (decide (word v = u) && !decide (u = []))) ∧ Below w.heap.size w w' := by
  have hlt := cell_lt hx
  by_cases h : word v = u
  · subst h
    go_enter Tryz.func13, Tryz.ntmps13
    go_wp2
    go_ret
    exact ⟨ret_b (by cases word v <;> simp), (Below.refl _ _).alloc (Nat.le_refl _) _⟩
  · have hb : (word v == u) = false := by simpa using h
    go_enter Tryz.func13, Tryz.ntmps13
    go_wp2
    go_ret
    exact ⟨ret_b (by simp [h]), (Below.refl _ _).alloc (Nat.le_refl _) _⟩
end Go.Proofs.YtciljkcicfphdaaGreatDoor
