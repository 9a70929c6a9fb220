/- Plain Lean, no program's text: steps of the loops. -/
import Derived.Test.YtciljkcicfphdaaGreatDoorV0
import Derived.Laws.Runes
import Derived.Laws.Concat
import Derived.Laws.AppendOwn
namespace Go.Proofs.YtciljkcicfphdaaGreatDoor
open Go Go.RowKit
abbrev bstr (l : List UInt8) : Value := .string ⟨l.toArray⟩
theorem bstr_data (s : ByteArray) : (⟨s.data.toList.toArray⟩ : ByteArray) = s := by simp
theorem extract_list (l : List UInt8) (i j : Nat) : (⟨l.toArray⟩ : ByteArray).extract i j = ⟨((l.drop i).take (j - i)).toArray⟩ := by
  apply ByteArray.ext
  simp [ByteArray.data_extract, List.extract_toArray, List.extract_eq_take_drop]
theorem enc_digit (d : Nat) (h : d < 10) : Utf8.encode ((48 : Int) + d) = ⟨#[UInt8.ofNat (48 + d)]⟩ := by
  match d, h with
  | 0, _ | 1, _ | 2, _ | 3, _ | 4, _ | 5, _ | 6, _ | 7, _ | 8, _ | 9, _ => rfl
  | n + 10, h => exact absurd h (by omega)
theorem isDig_wn (c : UInt8) : wn ((c.toNat : Int) - 48) 0 9 = isDig c := by
  unfold wn isDig
  congr 1 <;> exact decide_eq_decide.2 (by omega)
theorem digs_step {l : List UInt8} {k : Nat} (hk : k < l.length) (n : Int) :
    digs n (l.drop k) = if isDig l[k] = true ∧ 10 * n + ((l[k].toNat : Int) - 48) ≤ maxI then digs (10 * n + ((l[k].toNat : Int) - 48)) (l.drop (k + 1)) else none := by
  rw [List.drop_eq_getElem_cons hk, digs]
theorem quo_test {n d : Int} (h0 : 0 ≤ d) (h9 : d ≤ 9) : (9223372036854775807 - d).tdiv 10 < n ↔ ¬ 10 * n + d ≤ maxI := by
  rw [Int.tdiv_eq_ediv_of_nonneg (by omega)]
  unfold maxI
  omega
theorem tell_step {as : List Int} {k : Nat} (hk : k < as.length) : tellL (as.take (k + 1)) = tellL (as.take k) ++ 32 :: Lib.decDigits as[k].toNat := by
  rw [List.take_succ_eq_append_getElem hk]
  simp only [tellL, List.flatMap_append, List.flatMap_cons, List.flatMap_nil, List.append_nil]
theorem dec_len : ∀ (f u : Nat), u < 10 ^ (f + 1) → (Lib.decDigits u).length ≤ f + 1
  | f, u, h => by
    rw [Lib.decDigits]
    split
    · simp
    · rename_i hu
      match f, h with
      | 0, h => exact absurd (by simpa using h) hu
      | f + 1, h =>
        have := dec_len f (u / 10) (by rw [Nat.pow_succ] at h; omega)
        simp
        omega
theorem tell_len {as : List Int} (h : as.all (fun n => wn n 0 999999999) = true) : (tellL as).length ≤ 10 * as.length := by
  induction as with
  | nil => simp [tellL]
  | cons a r ih =>
    simp [wn] at h
    have h1 := ih (by rw [List.all_eq_true]; intro x hx; simp [wn]; exact h.2 x hx)
    have h2 := dec_len 8 a.toNat (by show a.toNat < 1000000000; omega)
    simp [tellL] at h1 ⊢
    omega
theorem word_len (v : Nat) : (word v).length ≤ 7 := by
  by_cases h : v < 24
  · revert v
    decide +kernel
  · have : word v = [] := by
      unfold word
      rw [List.getD_eq_getElem?_getD, List.getElem?_eq_none (show 24 ≤ v by omega)]
      rfl
    simp [this]

/-! ### slices as lists -/
/-- the cells of a list of strings lie from an address on, in blocks below B -/
def StrsAt (w : World) (B : Nat) (ad : Option Addr) (l : List (List UInt8)) : Prop :=
  ∀ i (h : i < l.length), ∃ b off, ad = some ⟨b, off, none⟩ ∧ b < B ∧ w.cell? ⟨b, off + i, none⟩ = some (bstr l[i])
theorem StrsAt.below {w w' : World} {B C : Nat} {ad : Option Addr} {l : List (List UInt8)} (h : StrsAt w B ad l) (hb : Below C w w') (hC : B ≤ C) : StrsAt w' B ad l := by
  intro i hi
  obtain ⟨b, off, e, hlt, hc⟩ := h i hi
  exact ⟨b, off, e, hlt, (hb.cell (p := ⟨b, _, none⟩) (Nat.lt_of_lt_of_le hlt hC)).trans hc⟩
theorem row_cells {w : World} {base e n : Nat} {v : Value} {xs : List Value} (h : w.ownsRow base e 1 v n xs) :
    ∃ ad cap, v = .slice ad xs.length cap ∧ n = xs.length ∧ ∀ i (hi : i < xs.length), ∃ b off, ad = some ⟨b, off, none⟩ ∧ b < w.heap.size ∧ base ≤ b ∧ w.cell? ⟨b, off + i, none⟩ = some xs[i] := by
  have hn : n = xs.length := by have := h.1; omega
  rcases h.2 with ⟨rfl, h0⟩ | ⟨g, cap, cur, rfl, hb, hg, hrest⟩
  · have h0' : xs.length = 0 := by omega
    exact ⟨none, 0, by rw [h0'], hn, fun i hi => absurd hi (by omega)⟩
  · refine ⟨some ⟨g, 0, none⟩, cap, by rw [hn], hn, fun i hi => ⟨g, 0, rfl, (h.lt g rfl).2, hb, ?_⟩⟩
    have := h.cells (g := g) rfl i xs[i] (by simp [hi])
    rwa [Addr.add_mid] at this
end Go.Proofs.YtciljkcicfphdaaGreatDoor
