/- The reference's reading of a number answers as numT says; for every word of at most 400 letters. -/
import Derived.Test.YtciljkcicfphdaaGreatDoorW4
import Derived.Laws.RangeAny
import Derived.IntWalk
import Derived.Laws.AppendOwnNone
namespace Go.Proofs.YtciljkcicfphdaaGreatDoor
open Go.RowKit
/-! ### the reference's number -/
def numT (l : List UInt8) : Value := .tuple #[.int .i64 ((numL l).getD 0), .bool (numL l).isSome]
theorem numT_none {l : List UInt8} (h : numL l = none) : numT l = .tuple #[.int .i64 0, .bool false] := by simp [numT, h]
theorem numT_some {l : List UInt8} {n : Int} (h : numL l = some n) : numT l = .tuple #[.int .i64 n, .bool true] := by simp [numT, h]
theorem numL_digs {l : List UInt8} (h0 : l ≠ []) (hb : ¬ (1 < l.length ∧ l.head? = some 48)) : numL l = digs 0 l := by rw [numL, if_neg h0, if_neg hb]
theorem wrap64_id (x : Int) (h0 : -9223372036854775808 ≤ x) (h1 : x ≤ 9223372036854775807) : wrap64 x = x := IntWalk.wrap64_in _ ⟨h0, h1⟩
set_option maxRecDepth 100000 in
set_option maxHeartbeats 2000000 in
theorem Rnumber_loop (l : List UInt8) (h0 : l ≠ []) (hl : l.length ≤ 400) (w : World) (hb : ¬ (1 < l.length ∧ l.head? = some 48)) (hx : ¬ (1 : Int) < l.length ∨ (1 : Int) < l.length ∧ ∀ h : 0 < (⟨l.toArray⟩ : ByteArray).size, (((⟨l.toArray⟩ : ByteArray)[0].toNat : Int) == 48) = false) :
    Calls Tryz.prog 18 #[.string ⟨l.toArray⟩] w fun e w' => e = .returned (numT l) ∧ w = w' := by
  have hE : l.isEmpty = false := by cases l <;> simp_all
  have HN := Lib.hid (numL_digs h0 hb)
  clear hb h0
  rcases hx with h1 | ⟨h1, h2⟩
  all_goals
    go_enter Tryz.func18, Tryz.ntmps18
    go_wp2
    go_loop [5, 4] (fun i m => ∃ (k : Nat) (n : Int), k ≤ l.length ∧ i = .int .i64 k ∧ m = .int .i64 n ∧ 0 ≤ n ∧ n ≤ 9223372036854775807 ∧ Hid (numL l = digs n (l.drop k))) (fun i _ => l.length - (intOf i).toNat)
    case atStart => exact ⟨0, 0, Nat.zero_le _, rfl, rfl, by omega, by omega, Lib.hid (by rw [HN.out]; rfl)⟩
    case round =>
      obtain ⟨k, n, hk, rfl, rfl, hn0, hn1, HR⟩ := hrel
      by_cases hlt : k < l.length
      · have HS0 := Lib.hid (HR.out.trans (digs_step hlt n))
        obtain ⟨c, hcl⟩ : ∃ c, c = l[k] := ⟨_, rfl⟩
        have hbk : ∀ h, (⟨l.toArray⟩ : ByteArray)[k]'h = c := fun _ => hcl.symm
        have HS := Lib.hid (show numL l = if isDig c = true ∧ 10 * n + ((c.toNat : Int) - 48) ≤ maxI then digs (10 * n + ((c.toNat : Int) - 48)) (l.drop (k + 1)) else none by rw [hcl]; exact HS0.out)
        have hc := UInt8.toNat_lt c
        have hw := isDig_wn c
        have hw1 : wrap64 (c.toNat : Int) = c.toNat := wrap64_id _ (by omega) (by omega)
        have hw2 : wrap64 ((c.toNat : Int) - 48) = (c.toNat : Int) - 48 := wrap64_id _ (by omega) (by omega)
        clear hcl HS0
        have HC := Lib.hid hw
        cases hg : isDig c with
        | false =>
          rw [hg] at hw
          have HF := Lib.hid (show numL l = none by rw [HS.out, if_neg (by simp [hg])])
          have HW := Lib.hid hw
          clear hw hg
          go_wp2_with (go_at_call 28; refine (within_any ((c.toNat : Int) - 48) 0 9 _).mono ?_; rw [HW.out]; rintro e w' ⟨rfl, rfl⟩)
          go_ret2
          rw [numT_none HF.out]
          exact ⟨rfl, rfl⟩
        | true =>
          rw [hg] at hw
          have hd0 : 48 ≤ (c.toNat : Int) ∧ (c.toNat : Int) ≤ 57 := by simp [wn] at hw; omega
          have HW := Lib.hid hw
          have HG := Lib.hid hg
          clear hw hg
          by_cases hq : 10 * n + ((c.toNat : Int) - 48) ≤ maxI
          · have hq1 : ¬ (9223372036854775807 - ((c.toNat : Int) - 48)).tdiv 10 < n := fun e => (quo_test (by omega) (by omega)).1 e hq
            have hq2 : 10 * n + ((c.toNat : Int) - 48) ≤ 9223372036854775807 := hq
            have HF := Lib.hid (show numL l = digs (10 * n + ((c.toNat : Int) - 48)) (l.drop (k + 1)) by rw [HS.out, if_pos ⟨HG.out, hq⟩])
            clear hq
            go_wp2_with (go_at_call 28; refine (within_any ((c.toNat : Int) - 48) 0 9 _).mono ?_; rw [HW.out]; rintro e w' ⟨rfl, rfl⟩)
            go_round
            case rel => exact ⟨k + 1, 10 * n + ((c.toNat : Int) - 48), by omega, by go_num, by go_num, by omega, by omega, HF⟩
            case measure => simp [intOf]; omega
          · have hq1 : (9223372036854775807 - ((c.toNat : Int) - 48)).tdiv 10 < n := (quo_test (by omega) (by omega)).2 hq
            have hq3 : (9223372036854775807 - ((c.toNat : Int) - 48)) / 10 < n := by unfold maxI at hq; omega
            have HF := Lib.hid (show numL l = none by rw [HS.out, if_neg (fun e => hq e.2)])
            clear hq
            go_wp2_with (go_at_call 28; refine (within_any ((c.toNat : Int) - 48) 0 9 _).mono ?_; rw [HW.out]; rintro e w' ⟨rfl, rfl⟩)
            go_ret2
            rw [numT_none HF.out]
            exact ⟨rfl, rfl⟩
      · obtain rfl : k = l.length := by omega
        have HF := Lib.hid (show numL l = some n by rw [HR.out, List.drop_length]; rfl)
        go_wp2
        go_ret2
        rw [numT_some HF.out]
        exact ⟨rfl, rfl⟩
set_option maxRecDepth 100000 in
set_option maxHeartbeats 2000000 in
theorem Rnumber_any (l : List UInt8) (hl : l.length ≤ 400) (w : World) : Calls Tryz.prog 18 #[.string ⟨l.toArray⟩] w fun e w' => e = .returned (numT l) ∧ w = w' := by
  by_cases h0 : l = []
  · subst h0
    go_enter Tryz.func18, Tryz.ntmps18
    go_wp2
    go_ret2
    exact ⟨rfl, rfl⟩
  by_cases hb : 1 < l.length ∧ l.head? = some 48
  · have HF := Lib.hid (show numL l = none by rw [numL, if_neg h0, if_pos hb])
    obtain ⟨c, r, rfl⟩ := List.exists_cons_of_ne_nil h0
    obtain ⟨h1, h2⟩ := hb
    obtain rfl : c = 48 := by simpa using h2
    have h3 : 0 < r.length := by simpa using h1
    have h4 : ¬ (r.length : Int) + 1 ≤ 1 := by omega
    have h5 : (1 : Int) < (r.length : Int) + 1 := by omega
    clear h0 h2
    go_enter Tryz.func18, Tryz.ntmps18
    go_wp2
    go_ret2
    rw [numT_none HF.out]
    exact ⟨rfl, rfl⟩
  · refine Rnumber_loop l h0 hl w hb ?_
    by_cases h1 : (1 : Int) < l.length
    · refine .inr ⟨h1, fun h => ?_⟩
      obtain ⟨c, r, rfl⟩ := List.exists_cons_of_ne_nil h0
      have hc : c ≠ 48 := fun e => hb ⟨by omega, by simp [e]⟩
      have : ¬ (c.toNat : Int) = 48 := fun e => hc (UInt8.toNat_inj.1 (by simpa using (by omega : c.toNat = 48)))
      exact decide_eq_false this
    · exact .inl h1
end Go.Proofs.YtciljkcicfphdaaGreatDoor
