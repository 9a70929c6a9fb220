/- The program's test that all numbers of a list lie between two bounds answers just that; for every list below the greatest length. -/
import Derived.Test.YtciljkcicfphdaaGreatDoorProg
import Derived.Test.YtciljkcicfphdaaGreatDoorP2
import Derived.WalkKit
import Derived.WalkSpells
import Derived.WalkLawsBesides
import Derived.Deep.QuietTactic
import Derived.BigQuiet
import Derived.Lib.Hide
namespace Go.Proofs.YtciljkcicfphdaaGreatDoor
open Go.RowKit

theorem ret_i {a b : Int} (h : a = b) : Ending.returned (.int .i64 a) = .returned (.int .i64 b) := by rw [h]
theorem ret_b {a b : Bool} (h : a = b) : Ending.returned (.bool a) = .returned (.bool b) := by rw [h]
/-- the cells of a list of numbers lie from an address on, in blocks below B -/
def IntsAt (w : World) (B : Nat) (ad : Option Addr) (l : List Int) : Prop :=
  ∀ i (h : i < l.length), ∃ b off, ad = some ⟨b, off, none⟩ ∧ b < B ∧ w.cell? ⟨b, off + i, none⟩ = some (.int .i64 l[i])
theorem IntsAt.below {w w' : World} {B C : Nat} {ad : Option Addr} {l : List Int} (h : IntsAt w B ad l) (hb : Below C w w') (hC : B ≤ C) : IntsAt w' B ad l := by
  intro i hi
  obtain ⟨b, off, e, hlt, hc⟩ := h i hi
  exact ⟨b, off, e, hlt, (hb.cell (p := ⟨b, _, none⟩) (Nat.lt_of_lt_of_le hlt hC)).trans hc⟩
theorem below_alloc {B : Nat} {w w' : World} {o : Obj} (h0 : B ≤ w.heap.size) (h : Below (w.alloc o).heap.size (w.alloc o) w') : Below B w w' :=
  ((Below.refl B w).alloc h0 o).trans (h.mono (by simp; omega))
theorem bcell {W w1 : World} (hb : Below W.heap.size W w1) : (∀ b o, b < W.heap.size → w1.cell? ⟨b, o, none⟩ = W.cell? ⟨b, o, none⟩) ∧ (∀ b o, b < W.heap.size → w1.frozen? ⟨b, o, none⟩ = W.frozen? ⟨b, o, none⟩) :=
  ⟨fun b o h => hb.cell (p := ⟨b, o, none⟩) h, fun b o h => hb.frozen (p := ⟨b, o, none⟩) h⟩
theorem cell_lt {w : World} {b o : Nat} {v : Value} (h : w.cell? ⟨b, o, none⟩ = some v) : b < w.heap.size := by
  unfold World.cell? at h
  split at h
  · rename_i hq; exact (Array.getElem?_eq_some_iff.1 hq).1
  · cases h
theorem cell_below {w w' : World} {b o : Nat} {v : Value} (hb : Below w.heap.size w w') (h : w.cell? ⟨b, o, none⟩ = some v) : w'.cell? ⟨b, o, none⟩ = some v :=
  (hb.cell (p := ⟨b, o, none⟩) (cell_lt h)).trans h
theorem cell_alloc {w : World} {b o : Nat} {v : Value} (x : Obj) (h : w.cell? ⟨b, o, none⟩ = some v) : (w.alloc x).cell? ⟨b, o, none⟩ = some v :=
  cell_below ((Below.refl _ _).alloc (Nat.le_refl _) x) h
theorem ints_at1 {W : World} {k : Nat} {x : Int} (h : W.cell? ⟨k, 0, none⟩ = some (.int .i64 x)) : IntsAt W (k + 1) (some ⟨k, 0, none⟩) [x] := by
  intro i hi
  simp at hi; subst hi
  exact ⟨_, 0, rfl, by omega, by simpa using h⟩

set_option maxHeartbeats 400000 in
theorem within_any (n lo hi : Int) (w : World) :
    Calls Tryz.prog 28 #[.int .i64 n, .int .i64 lo, .int .i64 hi] w fun e w' => e = .returned (.bool (wn n lo hi)) ∧ w = w' := by
  by_cases h1 : lo ≤ n
  · have h1' : decide (lo ≤ n) = true := by simpa using h1
    go_enter Tryz.func28, Tryz.ntmps28
    go_wp2
    go_ret
    exact ⟨ret_b (by simp [wn, h1]), rfl⟩
  · have h1' : decide (lo ≤ n) = false := by simpa using h1
    go_enter Tryz.func28, Tryz.ntmps28
    go_wp2
    go_ret
    exact ⟨ret_b (by simp [wn]; omega), rfl⟩

set_option maxHeartbeats 400000 in
theorem in1_any (n lo hi : Int) (a b : Addr) (w : World) (h1 : w.cell? a = some (.int .i64 lo)) (h2 : w.cell? b = some (.int .i64 hi)) :
    Calls Tryz.prog 39 #[.int .i64 n, .pointer (some a), .pointer (some b)] w fun e w' => e = .returned (.bool (!wn n lo hi)) ∧ w = w' := by
  by_cases h : n < lo
  · have h' : decide (n < lo) = true := by simpa using h
    go_enter Tryz.func39, Tryz.ntmps39
    go_wp2
    go_ret
    exact ⟨ret_b (by simp [wn]; omega), rfl⟩
  · have h' : decide (n < lo) = false := by simpa using h
    have h2' : lo ≤ n := by omega
    have e : (!wn n lo hi) = decide (hi < n) := by
      by_cases q : n ≤ hi
      · have : ¬ hi < n := by omega
        simp [wn, h2', q]
      · have : hi < n := by omega
        simp [wn, h2', q, this]
    have HE := Lib.hid e
    clear e
    go_enter Tryz.func39, Tryz.ntmps39
    go_wp2
    go_ret
    exact ⟨ret_b (by rw [HE.out]), rfl⟩
def idxBad (l : List Int) (lo hi : Int) : Int := match l.findIdx? (fun n => !wn n lo hi) with | some i => i | none => -1
theorem idxBad_hit {l : List Int} {lo hi : Int} {k : Nat} (h : k < l.length) (hk : (!wn l[k] lo hi) = true) (hno : ∀ j (hj : j < l.length), j < k → (!wn l[j] lo hi) = false) : idxBad l lo hi = k := by
  have : l.findIdx? (fun n => !wn n lo hi) = some k := by
    rw [List.findIdx?_eq_some_iff_getElem]
    exact ⟨h, hk, fun j hj => by simpa using hno j (by omega) hj⟩
  simp [idxBad, this]
theorem idxBad_miss {l : List Int} {lo hi : Int} (hno : ∀ j (hj : j < l.length), (!wn l[j] lo hi) = false) : idxBad l lo hi = -1 := by
  have : l.findIdx? (fun n => !wn n lo hi) = none := by
    rw [List.findIdx?_eq_none_iff]
    intro x hx
    obtain ⟨j, hj, rfl⟩ := List.getElem_of_mem hx
    exact hno j hj
  simp [idxBad, this]
theorem idxBad_neg (l : List Int) (lo hi : Int) : decide (0 ≤ idxBad l lo hi) = !l.all (fun n => wn n lo hi) := by
  unfold idxBad
  cases h : l.findIdx? (fun n => !wn n lo hi) with
  | none =>
    rw [List.findIdx?_eq_none_iff] at h
    have : l.all (fun n => wn n lo hi) = true := by rw [List.all_eq_true]; intro x hx; simpa using h x hx
    simp [this]
  | some i =>
    rw [List.findIdx?_eq_some_iff_getElem] at h
    obtain ⟨hii, hb, _⟩ := h
    have : l.all (fun n => wn n lo hi) = false := by rw [List.all_eq_false]; exact ⟨_, List.getElem_mem hii, by simpa using hb⟩
    rw [this]; simp
set_option maxHeartbeats 400000 in
theorem IndexFuncIn_any (lo hi : Int) (a b : Addr) (ad : Option Addr) (cap : Nat) (l : List Int) (w : World) (B : Nat) (hl : l.length ≤ 9223372036854775807) (h : IntsAt w B ad l)
    (h1 : w.cell? a = some (.int .i64 lo)) (h2 : w.cell? b = some (.int .i64 hi)) :
    Calls Tryz.prog 126 #[.slice ad l.length cap, .func (.func 39) #[] #[.pointer (some a), .pointer (some b)]] w fun e w' => e = .returned (.int .i64 (idxBad l lo hi)) ∧ w = w' := by
  go_enter Tryz.func126, Tryz.ntmps126
  go_wp2
  go_loop [8] (fun i => ∃ k : Nat, k ≤ l.length ∧ i = .int .i64 k ∧ Hid (∀ j (hj : j < l.length), j < k → (!wn l[j] lo hi) = false)) (fun i => l.length - (intOf i).toNat)
  case atStart => exact ⟨0, Nat.zero_le _, rfl, Lib.hid fun j _ hj => absurd hj (Nat.not_lt_zero _)⟩
  case round =>
    obtain ⟨k, hk, rfl, HN⟩ := hrel
    by_cases hlt : k < l.length
    · obtain ⟨bb, off, rfl, hb, c0⟩ := h k hlt
      cases hw : wn l[k] lo hi with
      | true =>
        have HW := Lib.hid hw
        clear hw
        go_wp2_with (go_at_call 39; refine (in1_any _ lo hi a b _ h1 h2).mono ?_; rw [HW.out]; rintro e w' ⟨rfl, rfl⟩)
        go_round
        case rel => exact ⟨k + 1, by omega, by go_num, Lib.hid fun j hj hjk => if e : j = k then by subst e; simp [HW.out] else HN.out j hj (by omega)⟩
        case measure => simp [intOf]; omega
      | false =>
        have HW := Lib.hid hw
        clear hw
        go_wp2_with (go_at_call 39; refine (in1_any _ lo hi a b _ h1 h2).mono ?_; rw [HW.out]; rintro e w' ⟨rfl, rfl⟩)
        go_ret
        exact ⟨ret_i (idxBad_hit hlt (by simp [HW.out]) HN.out).symm, rfl⟩
    · go_wp2
      go_ret
      exact ⟨ret_i (idxBad_miss fun j hj => HN.out j hj (by omega)).symm, rfl⟩
set_option maxHeartbeats 400000 in
theorem ContainsFuncIn_any (lo hi : Int) (a b : Addr) (ad : Option Addr) (cap : Nat) (l : List Int) (w : World) (B : Nat) (hl : l.length ≤ 9223372036854775807) (h : IntsAt w B ad l)
    (h1 : w.cell? a = some (.int .i64 lo)) (h2 : w.cell? b = some (.int .i64 hi)) :
    Calls Tryz.prog 38 #[.slice ad l.length cap, .func (.func 39) #[] #[.pointer (some a), .pointer (some b)]] w fun e w' => e = .returned (.bool (!l.all fun n => wn n lo hi)) ∧ w = w' := by
  have hneg := Lib.hid (idxBad_neg l lo hi)
  go_enter Tryz.func38, Tryz.ntmps38
  go_wp2_with (go_at_call 126; refine (IndexFuncIn_any lo hi a b ad cap l _ B hl h h1 h2).mono ?_; rintro e w' ⟨rfl, rfl⟩)
  go_ret
  exact ⟨ret_b hneg.out, rfl⟩
set_option maxHeartbeats 400000 in
theorem in_any (lo hi : Int) (ad : Option Addr) (cap : Nat) (l : List Int) (w : World) (B : Nat) (hB : B ≤ w.heap.size) (hl : l.length ≤ 9223372036854775807) (h : IntsAt w B ad l) :
    Calls Tryz.prog 27 #[.int .i64 lo, .int .i64 hi, .slice ad l.length cap] w fun e w' => e = .returned (.bool (l.all fun n => wn n lo hi)) ∧ Below w.heap.size w w' := by
  have hb := ((Below.refl w.heap.size w).alloc (Nat.le_refl _) (.cells #[.int .i64 lo] 3)).alloc (by simp) (.cells #[.int .i64 hi] 3)
  have hh := Lib.hid (h.below (C := B) (hb.mono hB) (Nat.le_refl _))
  have hbb := Lib.hid hb
  clear hb
  generalize hr : (l.all fun n => wn n lo hi) = r
  have HR := Lib.hid hr
  clear hr
  go_enter Tryz.func27, Tryz.ntmps27
  go_wp2_with (go_at_call 38; refine (ContainsFuncIn_any lo hi _ _ ad cap l _ B hl hh.out (by simp) (by simp)).mono ?_; rw [HR.out]; rintro e w' ⟨rfl, rfl⟩)
  go_ret
  exact ⟨ret_b (by simp), hbb.out⟩
def in1 (lo hi x : Int) : Bool := wn x lo hi
theorem in_one (lo hi x : Int) (k : Nat) (w : World) (hB : k + 1 ≤ w.heap.size) (h : w.cell? ⟨k, 0, none⟩ = some (.int .i64 x)) :
    Calls Tryz.prog 27 #[.int .i64 lo, .int .i64 hi, .slice (some ⟨k, 0, none⟩) 1 1] w fun e w' => e = .returned (.bool (in1 lo hi x)) ∧ Below w.heap.size w w' :=
  (in_any lo hi (some ⟨k, 0, none⟩) 1 [x] w (k + 1) hB (by simp) (ints_at1 h)).mono fun e w' ⟨he, hb⟩ => ⟨he.trans (ret_b (by simp [in1])), hb⟩

end Go.Proofs.YtciljkcicfphdaaGreatDoor
