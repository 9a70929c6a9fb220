/- Plain Lean, no program: the program's table of verbs, what it makes of a deed's numbers and of a word, against the document's. -/
import Derived.Test.YtciljkcicfphdaaGreatDoorP0
namespace Go.Proofs.YtciljkcicfphdaaGreatDoor

def loL : List Int := [0, 6, 4, 4, 3, 3, 2, 1, 6, 5, 4, 1, 1, 5, 3, 4, 3, 3, 1, 1, 2, 4, 1, 3]
def hiL : List Int := [0, 6, 4, 4, 3, 3, 2, 1, 6, 5, 8, 1, 1, 15, 3, 4, 3, 3, 1, 1, 2, 4, 1, 3]
def stL : List Int := [0, 1, 1, 1, 1, 1, 1, 1, 1, 1, 1, 1, 1, 2, 1, 1, 1, 1, 1, 1, 1, 1, 1, 1]
def lo (v : Nat) : Int := loL.getD v 0
def hi (v : Nat) : Int := hiL.getD v 0
def st (v : Nat) : Int := stL.getD v 0
/-- how many numbers, as the program asks it behind the table -/
def fitOK (v : Nat) (as : List Int) : Bool :=
  if lo v = hi v ∧ st v = 1 then decide ((as.length : Int) = lo v) && (!decide (v = 17) || decide (as.getD 2 0 ≤ 1))
  else wn as.length (lo v) (hi v) && (decide (((as.length : Int) - lo v).tmod (st v) = 0) && (!decide (v = 10) || decide (as.getD 2 0 ≤ 1)))
def validOK (v : Int) (as : List Int) : Bool := wn v 1 23 && (as.all (fun n => wn n 0 999999999) && fitOK v.toNat as)

theorem fit_count (v : Nat) (h1 : 1 ≤ v) (h2 : v ≤ 23) (as : List Int) : fitOK v as = countOK v as := by
  match v, h1, h2 with
  | 10, _, _ =>
    show (wn as.length 4 8 && (decide (((as.length : Int) - 4).tmod 1 = 0) && (!decide (10 = 10) || decide (as.getD 2 0 ≤ 1)))) = (wn as.length 4 8 && decide (as.getD 2 0 ≤ 1))
    simp
  | 13, _, _ =>
    show (wn as.length 5 15 && (decide (((as.length : Int) - 5).tmod 2 = 0) && (!decide (13 = 10) || decide (as.getD 2 0 ≤ 1)))) = (wn as.length 5 15 && decide (((as.length : Int) - 3) % 2 = 0))
    cases hw : wn as.length 5 15 with
    | false => rfl
    | true =>
      simp [wn] at hw
      have e : ((as.length : Int) - 5).tmod 2 = ((as.length : Int) - 5) % 2 := Int.tmod_eq_emod_of_nonneg (by omega)
      have e2 : (((as.length : Int) - 5) % 2 = 0) ↔ (((as.length : Int) - 3) % 2 = 0) := by omega
      rw [e]
      simp [e2]
  | 17, _, _ => rfl
  | 1, _, _ | 2, _, _ | 3, _, _ | 4, _, _ | 5, _, _ | 6, _, _ | 7, _, _ | 8, _, _ | 9, _, _ | 11, _, _ | 12, _, _ | 14, _, _ | 15, _, _ | 16, _, _ | 18, _, _ | 19, _, _ | 20, _, _ | 21, _, _ | 22, _, _ | 23, _, _ =>
    simp [fitOK, countOK, lo, hi, st, loL, hiL, stL, many, manyL]
  | 0, h, _ => exact absurd h (by omega)
  | n + 24, _, h => exact absurd h (by omega)
theorem valid_deed (v : Int) (as : List Int) : validOK v as = deedOK v as := by
  unfold validOK deedOK
  cases hw : wn v 1 23 with
  | false => rfl
  | true =>
    simp [wn] at hw
    have := fit_count v.toNat (by omega) (by omega) as
    rw [show ((v.toNat : Nat) : Int) = v by omega] at this
    rw [this]
    simp

/-! ### the verb of a word -/
def verbP (w : List UInt8) : Int := match wordL.findIdx? (fun x => decide (x = w) && !decide (w = [])) with | some i => i | none => -1
theorem word_inj : ∀ i, i < 24 → ∀ j, j < 24 → word i = word j → i = j := by decide +kernel
theorem word_ne : ∀ i, i < 24 → 0 < i → word i ≠ [] := by decide +kernel
theorem verbF_none {w : List UInt8} : ∀ n, (∀ k, 0 < k → k < n → word k ≠ w) → verbF w n = 0
  | 0, _ => rfl
  | n + 1, h => by
    rw [verbF, if_neg (fun q => h n q.1 (by omega) q.2), verbF_none n (fun k h0 hk => h k h0 (by omega))]
theorem verbF_some {w : List UInt8} {k : Nat} (h0 : 0 < k) (hw : word k = w) : ∀ n, k < n → n ≤ 24 → verbF w n = k
  | 0, h, _ => absurd h (by omega)
  | n + 1, h, hn => by
    by_cases e : n = k
    · subst e
      rw [verbF, if_pos ⟨h0, hw⟩]
    · rw [verbF, if_neg (fun q => e (word_inj n (by omega) k (by omega) (q.2.trans hw.symm))), verbF_some h0 hw n (by omega) (by omega)]
theorem word_get {i : Nat} (h : i < wordL.length) : wordL[i] = word i := by simp [word, List.getD, h]
theorem verbP_cases (w : List UInt8) : (verbP w = -1 ∧ verbOf w = 0) ∨ verbP w = verbOf w := by
  unfold verbP
  cases h : wordL.findIdx? (fun x => decide (x = w) && !decide (w = [])) with
  | none =>
    rw [List.findIdx?_eq_none_iff] at h
    refine .inl ⟨rfl, verbF_none 24 fun k h0 hk e => ?_⟩
    have hl : k < wordL.length := hk
    have := h wordL[k] (List.getElem_mem hl)
    rw [word_get hl] at this
    simp [e] at this
    exact word_ne k hk h0 (e.trans this)
  | some i =>
    rw [List.findIdx?_eq_some_iff_getElem] at h
    obtain ⟨hl, hb, _⟩ := h
    rw [word_get hl] at hb
    simp at hb
    have h0 : 0 < i := by
      rcases Nat.eq_zero_or_pos i with rfl | q
      · exact absurd hb.1.symm (by simpa [word, wordL] using hb.2)
      · exact q
    exact .inr (verbF_some h0 hb.1 24 hl (by omega)).symm
/-- the deed of a line, as the program makes it -/
def hearP (l : List UInt8) : Option (Int × List Int) :=
  match splitL l with
  | [] => none
  | w :: r => match r.mapM numL with
    | none => none
    | some as => if validOK (verbP w) as then some (verbP w, as) else none
theorem hearP_eq (l : List UInt8) : hearP l = hearL l := by
  unfold hearP hearL
  cases splitL l with
  | nil => rfl
  | cons w r =>
    simp only []
    cases r.mapM numL with
    | none => rfl
    | some as =>
      simp only [valid_deed]
      rcases verbP_cases w with ⟨h1, h2⟩ | h1
      · rw [h1, h2]
        have e1 : deedOK (-1) as = false := by simp [deedOK, wn]
        have e2 : deedOK 0 as = false := by simp [deedOK, wn]
        rw [e1, e2]
        rfl
      · rw [h1]
end Go.Proofs.YtciljkcicfphdaaGreatDoor
