/- The program's function that lays out the table of verbs returns an array of 24 verbs, each with its word and its counts; for every world. -/
import Derived.Test.YtciljkcicfphdaaGreatDoorVB
import Derived.Test.YtciljkcicfphdaaGreatDoorVC
import Derived.Test.YtciljkcicfphdaaGreatDoorVD
import Derived.Test.YtciljkcicfphdaaGreatDoorVE
namespace Go.Proofs.YtciljkcicfphdaaGreatDoor
open Go.RowKit
def zero6 : List Value := [.string ⟨#[]⟩, .int .i64 0, .int .i64 0, .int .i64 0, .slice none 0 0, .nilFunc]
def zeroAll : List Value := (List.range 24).flatMap fun _ => zero6
def Z57 : Array Value := zeroAll.toArray
theorem zero57 : (Tryz.prog.info? 57).map (fun i => (i.zero, i.size)) = some (some (.agg Z57), 144) := by kernel_rfl
theorem size57 : (Tryz.prog.info? 57).map (·.size) = some 144 := by kernel_rfl
theorem Z57_size : Z57.size = 144 := flat6_len (fun _ => zero6) (fun _ => rfl) 24
theorem there_block {w : World} {g : Nat} {C : Array Value} {t : TypeId} (h : w.heap[g]? = some (.cells C t (0, 0))) : w.there g 0 C.size := fun j hj => by
  rw [Nat.zero_add, cell_of_row w g j C t (0, 0) h, frozen_of_row w g j C t h]
  exact ⟨by simp [hj], rfl⟩
theorem verbsIn_all {w : World} {g : Nat} {L : Nat → Value × Value} (h : w.rangeAt g 0 (verbAll L)) (hL : ∀ v, v < 24 → (L v).1.oneCell' = true ∧ (L v).2.oneCell' = true) : VerbsIn w g 0 24 := fun v _ hv =>
  ⟨(L v).1, (L v).2, (hL v hv).1, (hL v hv).2, fun j u hu => by
    have hj : j < 6 := (List.getElem?_eq_some_iff.1 hu).1
    have := h (6 * v + j) u (by rw [verbAll_at L hv hj]; exact hu)
    rwa [Nat.zero_add] at this⟩
theorem verbAll_one {L : Nat → Value × Value} (hL : ∀ v, v < 24 → (L v).1.oneCell' = true ∧ (L v).2.oneCell' = true) : (verbAll L).toArray.all (·.oneCell') = true := by
  refine all_oneCell_toArray fun x hx => ?_
  obtain ⟨i, hi, rfl⟩ := List.getElem_of_mem hx
  rw [verbAll_len] at hi
  have e : 6 * (i / 6) + i % 6 = i := by omega
  have hv : i / 6 < 24 := by omega
  have h1 := verbAll_at L hv (show i % 6 < 6 by omega)
  rw [e, List.getElem?_eq_getElem (by rw [verbAll_len]; exact hi)] at h1
  have hm := List.mem_of_getElem? h1.symm
  simp only [verbRow, cell6, List.mem_cons, List.not_mem_nil, or_false] at hm
  rcases hm with h | h | h | h | h | h <;> rw [h]
  · rfl
  · rfl
  · rfl
  · rfl
  · exact (hL _ hv).1
  · exact (hL _ hv).2
theorem results_cell_mid {P : Program} {fn : Func} {p : Tmp} {ty : TypeId} (h : fn.results = #[.cell p ty]) (tmps : Array Value) (w : World) (g : Nat) (cs : List Value) (d : TypeDesc)
    (hp : tmps.getD p undef = .pointer (some ⟨g, 0, none⟩)) (hg : w.rangeAt g 0 cs) (hu : P.underlying ty = some d) (hd : d.isRow = true) (hi : (P.info? ty).map (·.size) = some cs.length) :
    (results fn tmps).run P w = .ok (.agg cs.toArray) w := by
  have hp' : tmps[p]?.getD undef = .pointer (some ⟨g, 0, none⟩) := by simpa using hp
  simp [results, h, hp', asAddr, run_loadVar_mid w g 0 ty cs d hg hu hd hi]
def bound : Nat → Nat
  | 0 => 1
  | 1 => 9
  | 2 => 15
  | 3 => 20
  | _ => 24
set_option maxRecDepth 100000 in
set_option maxHeartbeats 2000000 in
theorem verbs_any (w : World) : Calls Tryz.prog 21 #[] w fun e w' => ∃ L : Nat → Value × Value, e = .returned (.agg (verbAll L).toArray) ∧ (∀ v, v < 24 → (L v).1.oneCell' = true ∧ (L v).2.oneCell' = true) ∧ Below w.heap.size w w' := by
  have hz := (zero_of_info zero57).1
  obtain ⟨w1, hw1⟩ : ∃ w1, w1 = w.alloc (.cells Z57 57) := ⟨_, rfl⟩
  have hblk : w1.heap[w.heap.size]? = some (.cells Z57 57 (0, 0)) := by rw [hw1]; exact heap_alloc_new w _
  have ht : w1.there w.heap.size 0 144 := by have := there_block hblk; rwa [Z57_size] at this
  have h0 : w1.rangeAt w.heap.size 0 (cell6 0 (.slice none 0 0) .nilFunc) := fun j u hu => by
    rw [Nat.zero_add, cell_of_row w1 _ j Z57 57 (0, 0) hblk]
    have hj : j < 6 := (List.getElem?_eq_some_iff.1 hu).1
    rw [← hu]
    match j, hj with
    | 0, _ | 1, _ | 2, _ | 3, _ | 4, _ | 5, _ => rfl
    | n + 6, h => exact absurd h (by omega)
  have hB1 : Below w.heap.size w w1 := by rw [hw1]; exact (Below.refl _ w).alloc (Nat.le_refl _) _
  have hV0 := VStep.refl (a := 1) ht
  have HT := Lib.hid ht
  have H0 := Lib.hid h0
  have HB1 := Lib.hid hB1
  have HV0 := Lib.hid hV0
  clear hblk ht h0 hB1 hV0
  go_enter Tryz.func21, Tryz.ntmps21
  go_wp2
  rw [← hw1]
  clear hw1
  go_loopw [4] (fun i wr => ∃ k : Nat, k ≤ 4 ∧ i = .int .i64 k ∧ Hid (VStep w1 wr w.heap.size 1 (bound k))) (fun i _ => 4 - (intOf i).toNat)
  case atStart => exact ⟨0, by omega, rfl, HV0⟩
  case round =>
    obtain ⟨k, hk, rfl, HV⟩ := hrel
    match k, hk with
    | 0, _ =>
      have hi : ∀ w, (Instr.index 73 (.agg #[.func (.func 31) #[] #[], .func (.func 32) #[] #[], .func (.func 33) #[] #[], .func (.func 34) #[] #[]]) (.int .i64 0)).run Tryz.prog w = .ok (.func (.func 31) #[] #[]) w := fun _ => by kernel_rfl
      go_wp2_with (go_at_call 31; refine (waters_any _ _ HV.out.there).mono ?_; rintro e w' ⟨⟨v, rfl⟩, hv⟩; have HV2 := Lib.hid hv; clear hv)
      go_roundw
      case rel => exact ⟨1, by omega, rfl, Lib.hid (HV.out.trans HV2.out (by decide) (by decide))⟩
      case measure => simp [intOf]
    | 1, _ =>
      have hi : ∀ w, (Instr.index 73 (.agg #[.func (.func 31) #[] #[], .func (.func 32) #[] #[], .func (.func 33) #[] #[], .func (.func 34) #[] #[]]) (.int .i64 1)).run Tryz.prog w = .ok (.func (.func 32) #[] #[]) w := fun _ => by kernel_rfl
      go_wp2_with (go_at_call 32; refine (houses_any _ _ HV.out.there).mono ?_; rintro e w' ⟨⟨v, rfl⟩, hv⟩; have HV2 := Lib.hid hv; clear hv)
      go_roundw
      case rel => exact ⟨2, by omega, rfl, Lib.hid (HV.out.trans HV2.out (by decide) (by decide))⟩
      case measure => simp [intOf]
    | 2, _ =>
      have hi : ∀ w, (Instr.index 73 (.agg #[.func (.func 31) #[] #[], .func (.func 32) #[] #[], .func (.func 33) #[] #[], .func (.func 34) #[] #[]]) (.int .i64 2)).run Tryz.prog w = .ok (.func (.func 33) #[] #[]) w := fun _ => by kernel_rfl
      go_wp2_with (go_at_call 33; refine (streets_any _ _ HV.out.there).mono ?_; rintro e w' ⟨⟨v, rfl⟩, hv⟩; have HV2 := Lib.hid hv; clear hv)
      go_roundw
      case rel => exact ⟨3, by omega, rfl, Lib.hid (HV.out.trans HV2.out (by decide) (by decide))⟩
      case measure => simp [intOf]
    | 3, _ =>
      have hi : ∀ w, (Instr.index 73 (.agg #[.func (.func 31) #[] #[], .func (.func 32) #[] #[], .func (.func 33) #[] #[], .func (.func 34) #[] #[]]) (.int .i64 3)).run Tryz.prog w = .ok (.func (.func 34) #[] #[]) w := fun _ => by kernel_rfl
      go_wp2_with (go_at_call 34; refine (orders_any _ _ HV.out.there).mono ?_; rintro e w' ⟨⟨v, rfl⟩, hv⟩; have HV2 := Lib.hid hv; clear hv)
      go_roundw
      case rel => exact ⟨4, by omega, rfl, Lib.hid (HV.out.trans HV2.out (by decide) (by decide))⟩
      case measure => simp [intOf]
    | 4, _ =>
      have hv : VStep w1 wr w.heap.size 1 24 := HV.out
      have hall : VerbsIn wr w.heap.size 0 24 := fun v _ h2 => by
        by_cases hv1 : 1 ≤ v
        · exact hv.verbs v hv1 h2
        · obtain rfl : v = 0 := by omega
          exact ⟨_, _, rfl, rfl, hv.kept 0 _ H0.out (.inl (by decide))⟩
      obtain ⟨L, hL, hr⟩ := verbs_all hall
      have HL := Lib.hid hL
      have HR := Lib.hid hr
      have HVB := Lib.hid hv.there
      have HB := Lib.hid (HB1.out.grown hv.grown HB1.out.size (fun k e => by cases e; exact Nat.le_refl _))
      clear hL hr hv hall
      go_wp2_with (first | (refine wpList_load_mid rfl 57 (.tmp 0) rfl w.heap.size 0 rfl (verbAll L) (.array 24 46) HR.out Tryz.underlying57 rfl (by rw [verbAll_len]; exact size57) ?_) | (refine wpList_store_mid rfl 57 (.tmp 0) (.tmp 10) rfl w.heap.size 0 (verbAll L).toArray rfl rfl (by have := HVB.out; simpa [verbAll_len] using this) (by rw [List.size_toArray, verbAll_len]; exact size57) (verbAll_one HL.out) ?_))
      refine bodyPost_ret (results_cell_mid rfl _ _ w.heap.size (verbAll L) (.array 24 46) rfl (World.rangeAt_setCells_same _ _ _ _ (by rw [verbAll_len]; exact HVB.out)) Tryz.underlying57 rfl (by rw [verbAll_len]; exact size57)) rfl ?_
      exact ⟨L, rfl, HL.out, HB.out.grown (grownBy_setCells _ _ _ _) HB.out.size (fun k e => by cases e; exact Nat.le_refl _)⟩
    | n + 5, h => exact absurd h (by omega)
end Go.Proofs.YtciljkcicfphdaaGreatDoor
