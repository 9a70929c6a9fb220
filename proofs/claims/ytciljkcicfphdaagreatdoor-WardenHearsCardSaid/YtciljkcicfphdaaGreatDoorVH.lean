/- The program's search for a verb by its word answers the place of the word in the table, or less than zero; for every word. -/
import Derived.Test.YtciljkcicfphdaaGreatDoorVG
namespace Go.Proofs.YtciljkcicfphdaaGreatDoor
open Go.RowKit
def isW (u : List UInt8) (k : Nat) : Bool := decide (word k = u) && !decide (u = [])
theorem verbP_hit {u : List UInt8} {k : Nat} (hk : k < 24) (h : isW u k = true) (hno : ∀ j, j < k → isW u j = false) : verbP u = k := by
  have hl : k < wordL.length := hk
  have : wordL.findIdx? (fun x => decide (x = u) && !decide (u = [])) = some k := by
    rw [List.findIdx?_eq_some_iff_getElem]
    refine ⟨hl, by rw [word_get hl]; exact h, fun j hj => ?_⟩
    have hjl : j < wordL.length := Nat.lt_trans hj hl
    have := hno j hj
    rw [isW, ← word_get hjl] at this
    simpa using this
  simp [verbP, this]
theorem verbP_miss {u : List UInt8} (hno : ∀ j, j < 24 → isW u j = false) : verbP u = -1 := by
  have : wordL.findIdx? (fun x => decide (x = u) && !decide (u = [])) = none := by
    rw [List.findIdx?_eq_none_iff]
    intro x hx
    obtain ⟨j, hj, rfl⟩ := List.getElem_of_mem hx
    have := hno j hj
    rw [isW, ← word_get hj] at this
    exact this
  simp [verbP, this]
theorem VerbsIn.below {w w' : World} {g a b C : Nat} (h : VerbsIn w g a b) (hb : Below C w w') (hg : g < C) : VerbsIn w' g a b := fun v h1 h2 => by
  obtain ⟨ly, d, q1, q2, q3⟩ := h v h1 h2
  exact ⟨ly, d, q1, q2, fun j u hu => (hb.cell (p := ⟨g, _, none⟩) hg).trans (q3 j u hu)⟩
set_option maxRecDepth 100000 in
set_option maxHeartbeats 2000000 in
theorem IndexVerb_any (g bx : Nat) (u : List UInt8) (w : World) (hv : VerbsIn w g 0 24) (hg : g < w.heap.size) (hx : w.cell? ⟨bx, 0, none⟩ = some (bstr u)) :
    Calls Tryz.prog 11 #[.slice (some ⟨g, 0, none⟩) 24 24, .func (.func 13) #[] #[.pointer (some ⟨bx, 0, none⟩)]] w fun e w' => e = .returned (.int .i64 (verbP u)) ∧ Below w.heap.size w w' := by
  have HV := Lib.hid hv
  have HX := Lib.hid hx
  clear hv hx
  go_enter Tryz.func11, Tryz.ntmps11
  go_wp2
  go_loopw [8] (fun i wr => ∃ k : Nat, k ≤ 24 ∧ i = .int .i64 k ∧ Hid (∀ j, j < k → isW u j = false) ∧ Below w.heap.size w wr) (fun i _ => 24 - (intOf i).toNat)
  case atStart => exact ⟨0, Nat.zero_le _, rfl, Lib.hid fun j hj => absurd hj (Nat.not_lt_zero _), Below.refl _ _⟩
  case round =>
    obtain ⟨k, hk, rfl, HN, hwr⟩ := hrel
    have HV2 := Lib.hid (HV.out.below hwr hg)
    have HX2 := Lib.hid (cell_below hwr HX.out)
    have HWR := Lib.hid hwr
    clear hwr
    by_cases hlt : k < 24
    · obtain ⟨ly, d, h1, h2, hr⟩ := HV2.out k (Nat.zero_le _) hlt
      have HR : Hid (wr.rangeAt g (k * 6) (cell6 k ly d)) := by rw [Nat.mul_comm]; exact hr
      have HL1 := Lib.hid h1
      have HL2 := Lib.hid h2
      clear hr h1 h2
      generalize hq : isW u k = q
      have HQ := Lib.hid hq
      clear hq
      have HC := Lib.hid (hear1_any k ly d HL1.out HL2.out u bx wr HX2.out)
      unfold isW at HQ
      rw [HQ.out] at HC
      cases q with
      | true =>
        go_wp2_with (first | (refine wpList_load_mid rfl 46 (.tmp 14) rfl g (k * 6) rfl (cell6 k ly d) _ HR.out Tryz.underlying46 rfl info46 ?_) | (go_at_call 13; refine HC.out.mono ?_; rintro e w' ⟨rfl, hb⟩; have HB := Lib.hid hb; clear hb))
        go_ret
        exact ⟨ret_i (verbP_hit hlt HQ.out HN.out).symm, HWR.out.trans (HB.out.mono HWR.out.size)⟩
      | false =>
        go_wp2_with (first | (refine wpList_load_mid rfl 46 (.tmp 14) rfl g (k * 6) rfl (cell6 k ly d) _ HR.out Tryz.underlying46 rfl info46 ?_) | (go_at_call 13; refine HC.out.mono ?_; rintro e w' ⟨rfl, hb⟩; have HB := Lib.hid hb; clear hb))
        go_roundw
        case rel => exact ⟨k + 1, by omega, by go_num, Lib.hid fun j hj => if e : j = k then by subst e; exact HQ.out else HN.out j (by omega), HWR.out.trans (HB.out.mono HWR.out.size)⟩
        case measure => simp [intOf]; omega
    · obtain rfl : k = 24 := by omega
      go_wp2
      go_ret
      exact ⟨ret_i (verbP_miss HN.out).symm, HWR.out⟩
end Go.Proofs.YtciljkcicfphdaaGreatDoor
