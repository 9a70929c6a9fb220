/- The reference's test of a deed answers as deedOK does; for every verb and every list of at most 400 numbers. -/
import Derived.Test.YtciljkcicfphdaaGreatDoorW2
import Derived.Deep.RegionWith
namespace Go.Proofs.YtciljkcicfphdaaGreatDoor
open Go.RowKit
theorem deedOK_of {v : Int} {xs : List Int} (hv : wn v 1 23 = true) (ha : xs.all (fun n => wn n 0 999999999) = true) : deedOK v xs = countOK v xs := by simp only [deedOK, hv, ha, Bool.true_and]
theorem deedOK_bad {v : Int} {xs : List Int} (ha : xs.all (fun n => wn n 0 999999999) = false) : deedOK v xs = false := by simp only [deedOK, ha, Bool.and_false, Bool.false_and]
theorem countOK_10 (xs : List Int) : countOK 10 xs = (wn xs.length 4 8 && decide (xs.getD 2 0 ≤ 1)) := by simp [countOK]
theorem countOK_13 (xs : List Int) : countOK 13 xs = (wn xs.length 5 15 && decide (((xs.length : Int) - 3) % 2 = 0)) := by simp [countOK]
theorem countOK_17 (xs : List Int) : countOK 17 xs = (decide ((xs.length : Int) = 3) && decide (xs.getD 2 0 ≤ 1)) := by simp [countOK]
theorem countOK_else {v : Int} (xs : List Int) (h1 : v ≠ 10) (h2 : v ≠ 13) (h3 : v ≠ 17) : countOK v xs = decide ((xs.length : Int) = many v.toNat) := by simp [countOK, h1, h2, h3]
theorem all_bad {xs : List Int} {k : Nat} (hk : k < xs.length) (h : wn xs[k] 0 999999999 = false) : xs.all (fun n => wn n 0 999999999) = false := by
  rw [List.all_eq_false]
  exact ⟨_, List.getElem_mem hk, by simp [h]⟩
theorem many_atI (v : Int) (h : wn v 1 23 = true) (w : World) : (Instr.index 70 (.agg manyV) (.int .i64 v)).run Tryz.prog w = .ok (.int .i64 (many v.toNat)) w := by
  simp [wn] at h
  have := many_at v.toNat (by omega) w
  rwa [show ((v.toNat : Nat) : Int) = v by omega] at this
theorem below_alloc_drew {B : Nat} {w w' : World} {o : Obj} (h0 : B ≤ w.heap.size) (h : Below (w.alloc o).drew.heap.size (w.alloc o).drew w') : Below B w w' :=
  ((Below.refl B w).alloc h0 o).drew.trans (h.mono (by show B ≤ (w.alloc o).heap.size; simp; omega))
set_option maxRecDepth 100000 in
set_option maxHeartbeats 2000000 in
theorem Deed_in (v : Int) (ad : Option Addr) (cap : Nat) (xs : List Int) (w : World) (B : Nat) (hB : B ≤ w.heap.size) (hl : xs.length ≤ 400) (h : IntsAt w B ad xs) (hv : wn v 1 23 = true):
    Calls Tryz.prog 19 #[.agg #[.int .i64 v, .slice ad xs.length cap]] w fun e w' => e = .returned (.bool (deedOK v xs)) ∧ Below w.heap.size w w' := by
  have HV := Lib.hid hv
  clear hv
  have HB := Lib.hid hB
  clear hB
  go_enter Tryz.func19, Tryz.ntmps19
  go_wp2_with (go_at_call 28; refine (within_any v 1 23 _).mono ?_; rw [HV.out]; rintro e w' ⟨rfl, rfl⟩)
  go_loop [13] (fun i => ∃ k : Nat, k ≤ xs.length ∧ i = .int .i64 k ∧ Hid (∀ j (hj : j < xs.length), j < k → wn xs[j] 0 999999999 = true)) (fun i => xs.length - (intOf i).toNat)
  case atStart => exact ⟨0, Nat.zero_le _, rfl, Lib.hid fun j _ hj => absurd hj (Nat.not_lt_zero _)⟩
  case round =>
    obtain ⟨k, hk, rfl, HN⟩ := hrel
    by_cases hlt : k < xs.length
    · obtain ⟨b, off, rfl, hb, c0⟩ := h k hlt
      have hbw : b < w.heap.size := Nat.lt_of_lt_of_le hb HB.out
      generalize hr : wn xs[k] 0 999999999 = r
      have HR := Lib.hid hr
      clear hr
      have HH := Lib.hid h
      clear h
      cases r with
      | false =>
        go_wp2_with (go_at_call 28; refine (within_any xs[k] 0 999999999 _).mono ?_; rw [HR.out]; rintro e w' ⟨rfl, rfl⟩)
        go_ret
        exact ⟨ret_b (deedOK_bad (all_bad hlt HR.out)).symm, (Below.refl _ _).alloc (Nat.le_refl _) _⟩
      | true =>
        go_wp2_with (go_at_call 28; refine (within_any xs[k] 0 999999999 _).mono ?_; rw [HR.out]; rintro e w' ⟨rfl, rfl⟩)
        go_round
        case rel => exact ⟨k + 1, by omega, by go_num, Lib.hid fun j hj hjk => if e : j = k then by subst e; exact HR.out else HN.out j hj (by omega)⟩
        case measure => simp [intOf]; omega
    · obtain rfl : k = xs.length := by omega
      have HH := Lib.hid h
      clear h
      have hall : xs.all (fun n => wn n 0 999999999) = true := by
        rw [List.all_eq_true]
        intro x hx
        obtain ⟨j, hj, rfl⟩ := List.getElem_of_mem hx
        exact HN.out j hj hj
      have HALL := Lib.hid hall
      have HOK := Lib.hid (deedOK_of HV.out hall)
      clear hall
      by_cases hv10 : v = 10
      · subst hv10
        rw [countOK_10] at HOK
        have hi : ∀ w, (Instr.index 70 (.agg manyV) (.int .i64 10)).run Tryz.prog w = .ok (.int .i64 4) w := many_at10
        generalize hr : wn (xs.length : Int) 4 8 = r at HOK
        have HR := Lib.hid hr
        clear hr
        cases r with
        | false =>
          go_wp2_with fail
          go_region_with (go_at_call 29; refine (many_any _).mono ?_; rintro e w' ⟨rfl, hb⟩; obtain ⟨hc, hf⟩ := bcell hb; have HBB := Lib.hid hb; clear hb)
          all_goals go_wp2_with (go_at_call 28; refine (within_any xs.length 4 8 _).mono ?_; rw [HR.out]; rintro e w' ⟨rfl, rfl⟩)
          all_goals go_ret
          all_goals exact ⟨ret_b HOK.out.symm, below_alloc_drew (Nat.le_refl _) HBB.out⟩
        | true =>
          have h2 : 2 < xs.length := by have := HR.out; simp [wn] at this; omega
          obtain ⟨b, off, rfl, hb, c2⟩ := HH.out 2 h2
          have e2 : xs.getD 2 0 = xs[2] := by simp [List.getD, h2]
          rw [e2] at HOK
          clear e2
          have hbw : b < w.heap.size := Nat.lt_of_lt_of_le hb HB.out
          go_wp2_with fail
          go_region_with (go_at_call 29; refine (many_any _).mono ?_; rintro e w' ⟨rfl, hb⟩; obtain ⟨hc, hf⟩ := bcell hb; have c2' := cell_below hb (cell_alloc _ c2); have HBB := Lib.hid hb; clear hb)
          all_goals go_wp2_with (go_at_call 28; refine (within_any xs.length 4 8 _).mono ?_; rw [HR.out]; rintro e w' ⟨rfl, rfl⟩)
          all_goals go_ret
          all_goals exact ⟨ret_b HOK.out.symm, below_alloc_drew (Nat.le_refl _) HBB.out⟩
      by_cases hv13 : v = 13
      · subst hv13
        clear hv10
        rw [countOK_13] at HOK
        have hi : ∀ w, (Instr.index 70 (.agg manyV) (.int .i64 13)).run Tryz.prog w = .ok (.int .i64 3) w := many_at13
        generalize hr : wn (xs.length : Int) 5 15 = r at HOK
        have HR := Lib.hid hr
        clear hr
        cases r with
        | false =>
          go_wp2_with fail
          go_region_with (go_at_call 29; refine (many_any _).mono ?_; rintro e w' ⟨rfl, hb⟩; obtain ⟨hc, hf⟩ := bcell hb; have HBB := Lib.hid hb; clear hb)
          all_goals go_wp2_with (go_at_call 28; refine (within_any xs.length 5 15 _).mono ?_; rw [HR.out]; rintro e w' ⟨rfl, rfl⟩)
          all_goals go_ret
          all_goals exact ⟨ret_b HOK.out.symm, below_alloc_drew (Nat.le_refl _) HBB.out⟩
        | true =>
          have h5 : 5 ≤ (xs.length : Int) := by have := HR.out; simp [wn] at this; omega
          have h15 : (xs.length : Int) ≤ 15 := by have := HR.out; simp [wn] at this; omega
          go_wp2_with fail
          go_region_with (go_at_call 29; refine (many_any _).mono ?_; rintro e w' ⟨rfl, hb⟩; obtain ⟨hc, hf⟩ := bcell hb; have HBB := Lib.hid hb; clear hb)
          all_goals go_wp2_with (go_at_call 28; refine (within_any xs.length 5 15 _).mono ?_; rw [HR.out]; rintro e w' ⟨rfl, rfl⟩)
          all_goals go_ret
          all_goals refine ⟨ret_b ?_, below_alloc_drew (Nat.le_refl _) HBB.out⟩
          all_goals rw [HOK.out]
          all_goals simp [Bool.beq_eq_decide_eq]
      by_cases hv17 : v = 17
      · subst hv17
        clear hv10 hv13
        rw [countOK_17] at HOK
        have hi : ∀ w, (Instr.index 70 (.agg manyV) (.int .i64 17)).run Tryz.prog w = .ok (.int .i64 3) w := many_at17
        by_cases h3 : (xs.length : Int) = 3
        · have hq : ((xs.length : Int) == 3) = true := by simp [h3]
          have h2 : 2 < xs.length := by omega
          obtain ⟨b, off, rfl, hb, c2⟩ := HH.out 2 h2
          have e2 : xs.getD 2 0 = xs[2] := by simp [List.getD, h2]
          rw [e2, h3] at HOK
          have H3 := Lib.hid h3
          clear e2 h3
          have hbw : b < w.heap.size := Nat.lt_of_lt_of_le hb HB.out
          go_wp2_with fail
          go_region_with (go_at_call 29; refine (many_any _).mono ?_; rintro e w' ⟨rfl, hb⟩; obtain ⟨hc, hf⟩ := bcell hb; have c2' := cell_below hb (cell_alloc _ c2); have HBB := Lib.hid hb; clear hb)
          all_goals go_wp2_with fail
          all_goals go_ret
          all_goals exact ⟨ret_b (by rw [HOK.out]; simp), below_alloc_drew (Nat.le_refl _) HBB.out⟩
        · have hq : ((xs.length : Int) == 3) = false := by simpa using h3
          have hd : decide ((xs.length : Int) = 3) = false := by simpa using h3
          rw [hd] at HOK
          clear h3 hd
          go_wp2_with fail
          go_region_with (go_at_call 29; refine (many_any _).mono ?_; rintro e w' ⟨rfl, hb⟩; obtain ⟨hc, hf⟩ := bcell hb; have HBB := Lib.hid hb; clear hb)
          all_goals go_wp2_with fail
          all_goals go_ret
          all_goals exact ⟨ret_b HOK.out.symm, below_alloc_drew (Nat.le_refl _) HBB.out⟩
      rw [countOK_else xs hv10 hv13 hv17] at HOK
      have hi := many_atI v HV.out
      have q10 : (v == 10) = false := by simpa using hv10
      have q13 : (v == 13) = false := by simpa using hv13
      have q17 : (v == 17) = false := by simpa using hv17
      clear hv10 hv13 hv17
      go_wp2_with fail
      go_region_with (go_at_call 29; refine (many_any _).mono ?_; rintro e w' ⟨rfl, hb⟩; obtain ⟨hc, hf⟩ := bcell hb; have HBB := Lib.hid hb; clear hb)
      all_goals go_wp2_with fail
      all_goals go_ret
      all_goals exact ⟨ret_b (by rw [HOK.out, Bool.beq_eq_decide_eq]), below_alloc_drew (Nat.le_refl _) HBB.out⟩
set_option maxHeartbeats 400000 in
theorem Deed_any (v : Int) (ad : Option Addr) (cap : Nat) (xs : List Int) (w : World) (B : Nat) (hB : B ≤ w.heap.size) (hl : xs.length ≤ 400) (h : IntsAt w B ad xs) :
    Calls Tryz.prog 19 #[.agg #[.int .i64 v, .slice ad xs.length cap]] w fun e w' => e = .returned (.bool (deedOK v xs)) ∧ Below w.heap.size w w' := by
  cases hv : wn v 1 23 with
  | true => exact Deed_in v ad cap xs w B hB hl h hv
  | false =>
    have HV := Lib.hid hv
    have hok : deedOK v xs = false := by simp [deedOK, hv]
    have HOK := Lib.hid hok
    clear hv hok
    go_enter Tryz.func19, Tryz.ntmps19
    go_wp2_with (go_at_call 28; refine (within_any v 1 23 _).mono ?_; rw [HV.out]; rintro e w' ⟨rfl, rfl⟩)
    go_ret
    exact ⟨ret_b HOK.out.symm, (Below.refl _ _).alloc (Nat.le_refl _) _⟩
end Go.Proofs.YtciljkcicfphdaaGreatDoor
