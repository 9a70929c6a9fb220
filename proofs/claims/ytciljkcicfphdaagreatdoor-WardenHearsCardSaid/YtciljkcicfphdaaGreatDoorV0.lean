/- The program's table of verbs as cells of a block: 24 verbs of six cells. No program. -/
import Derived.Test.YtciljkcicfphdaaGreatDoorP1
import Derived.Deep.MidRow
import Derived.OwnWalk
import Derived.Below
namespace Go.Proofs.YtciljkcicfphdaaGreatDoor
open Go Go.RowKit
def wordB (v : Nat) : ByteArray := ⟨(word v).toArray⟩
/-- a verb's six cells: word, how many numbers, and the two that no statement here reads -/
def cell6 (v : Nat) (ly d : Value) : List Value := [.string (wordB v), .int .i64 (lo v), .int .i64 (hi v), .int .i64 (st v), ly, d]
theorem cell6_len (v : Nat) (ly d : Value) : (cell6 v ly d).length = 6 := rfl

theorem grown_trans {a b c : World} {g : Option Nat} (h : a.grownBy b g) (k : b.grownBy c g) : a.grownBy c g :=
  ⟨k.os.trans h.os, k.tape.trans h.tape, k.output.trans h.output, Nat.le_trans h.size k.size, fun i hi hne => (k.block i (Nat.lt_of_lt_of_le hi h.size) hne).trans (h.block i hi hne)⟩
theorem grownBy_drew (w : World) (g : Option Nat) : w.grownBy w.drew g := ⟨rfl, rfl, rfl, Nat.le_refl _, fun _ _ _ => rfl⟩
theorem size_setCell (w : World) (p : Addr) (v : Value) : (w.setCell p v).heap.size = w.heap.size := by simp [World.setCell]
theorem grownBy_setCell (w : World) (b o : Nat) (v : Value) : w.grownBy (w.setCell ⟨b, o, none⟩ v) (some b) :=
  ⟨rfl, rfl, rfl, by rw [size_setCell]; exact Nat.le_refl _, fun k _ hk => Below.heap_setCell _ _ _ k (fun e => hk (by rw [e]))⟩
theorem grownBy_setCells (b : Nat) : ∀ (vs : List Value) (o : Nat) (w : World), w.grownBy (w.setCells b o vs) (some b)
  | [], _, w => World.grownBy.refl w _
  | v :: r, o, w => by rw [World.setCells]; exact grown_trans (grownBy_setCell w b o v) (grownBy_setCells b r (o + 1) _)

/-- the verbs from number a up to number b lie in block g -/
def VerbsIn (w : World) (g a b : Nat) : Prop := ∀ v, a ≤ v → v < b → ∃ ly d, ly.oneCell' = true ∧ d.oneCell' = true ∧ w.rangeAt g (6 * v) (cell6 v ly d)
/-- a stretch of the run lays the verbs from a up to b into block g -/
structure VStep (w w' : World) (g a b : Nat) : Prop where
  grown : w.grownBy w' (some g)
  there : w'.there g 0 144
  verbs : VerbsIn w' g a b
  kept : ∀ o cs, w.rangeAt g o cs → (o + cs.length ≤ 6 * a ∨ 6 * b ≤ o) → w'.rangeAt g o cs
theorem VStep.refl {w : World} {g a : Nat} (h : w.there g 0 144) : VStep w w g a a :=
  ⟨World.grownBy.refl w _, h, fun v h1 h2 => absurd h1 (by omega), fun _ _ h _ => h⟩
theorem VStep.trans {w w1 w2 : World} {g a b c : Nat} (h : VStep w w1 g a b) (k : VStep w1 w2 g b c) (hab : a ≤ b) (hbc : b ≤ c) : VStep w w2 g a c := by
  refine ⟨grown_trans h.grown k.grown, k.there, fun v h1 h2 => ?_, fun o cs ho hap => ?_⟩
  · by_cases hv : v < b
    · obtain ⟨ly, d, q1, q2, q3⟩ := h.verbs v h1 hv
      exact ⟨ly, d, q1, q2, k.kept _ _ q3 (.inl (by rw [cell6_len]; omega))⟩
    · exact k.verbs v (by omega) h2
  · refine k.kept o cs (h.kept o cs ho ?_) ?_
    · rcases hap with q | q
      · exact .inl q
      · exact .inr (by omega)
    · rcases hap with q | q
      · exact .inl (by omega)
      · exact .inr q
theorem VStep.alloc {w w1 : World} {g a b : Nat} (h : VStep w w1 g a b) (o : Obj) : VStep w (w1.alloc o) g a b :=
  ⟨grown_trans h.grown (World.grownBy_alloc _ _ _), World.there_alloc h.there o, fun v h1 h2 => by
    obtain ⟨ly, d, q1, q2, q3⟩ := h.verbs v h1 h2
    exact ⟨ly, d, q1, q2, World.rangeAt_alloc q3 o⟩, fun q cs hq hap => World.rangeAt_alloc (h.kept q cs hq hap) o⟩
theorem VStep.drew {w w1 : World} {g a b : Nat} (h : VStep w w1 g a b) : VStep w w1.drew g a b :=
  ⟨grown_trans h.grown (grownBy_drew _ _), (World.there_drew _ _ _ _).2 h.there, fun v h1 h2 => by
    obtain ⟨ly, d, q1, q2, q3⟩ := h.verbs v h1 h2
    exact ⟨ly, d, q1, q2, (World.rangeAt_drew _ _ _ _).2 q3⟩, fun q cs hq hap => (World.rangeAt_drew _ _ _ _).2 (h.kept q cs hq hap)⟩
theorem there6 {w : World} {g : Nat} (h : w.there g 0 144) {v : Nat} (hv : v < 24) : w.there g (6 * v) 6 := fun j hj => by
  have := h (6 * v + j) (by omega)
  rwa [Nat.zero_add] at this
theorem VStep.set {w w1 : World} {g a v : Nat} (h : VStep w w1 g a v) (hv : v < 24) (hav : a ≤ v) (ly d : Value) (h1 : ly.oneCell' = true) (h2 : d.oneCell' = true) :
    VStep w (w1.setCells g (6 * v) (cell6 v ly d)) g a (v + 1) := by
  refine h.trans (b := v) ?_ hav (by omega)
  have ht := there6 h.there hv
  refine ⟨grownBy_setCells g _ _ _, World.there_setCells h.there _ _ _, fun u q1 q2 => ?_, fun o cs ho hap => World.rangeAt_setCells_apart ho _ _ _ (.inr ?_)⟩
  · obtain rfl : u = v := by omega
    exact ⟨ly, d, h1, h2, World.rangeAt_setCells_same _ _ _ _ ht⟩
  · rw [cell6_len]
    omega
theorem VStep.below {w0 w w' : World} {g a b : Nat} (hb : Below w0.heap.size w0 w) (h : VStep w w' g a b) (hg : w0.heap.size ≤ g) : Below w0.heap.size w0 w' :=
  hb.grown h.grown hb.size (fun k e => by cases e; exact hg)

/-- the list of all verbs, by value: 144 values, six for each verb -/
def verbRow (L : Nat → Value × Value) (v : Nat) : List Value := cell6 v (L v).1 (L v).2
def verbAll (L : Nat → Value × Value) : List Value := (List.range 24).flatMap (verbRow L)
theorem flat6_len (f : Nat → List Value) (hf : ∀ v, (f v).length = 6) : ∀ n, ((List.range n).flatMap f).length = 6 * n
  | 0 => rfl
  | n + 1 => by
    rw [List.range_succ, List.flatMap_append, List.length_append, flat6_len f hf n]
    simp [hf]
    omega
theorem verbAll_len (L : Nat → Value × Value) : (verbAll L).length = 144 := flat6_len (verbRow L) (fun _ => rfl) 24
theorem flat6 (f : Nat → List Value) (hf : ∀ v, (f v).length = 6) : ∀ (n v j : Nat), v < n → j < 6 → ((List.range n).flatMap f)[6 * v + j]? = (f v)[j]?
  | 0, v, j, h, _ => absurd h (by omega)
  | n + 1, v, j, h, hj => by
    have hl := flat6_len f hf n
    rw [List.range_succ, List.flatMap_append, List.getElem?_append]
    by_cases hv : v < n
    · rw [if_pos (by omega), flat6 f hf n v j hv hj]
    · obtain rfl : v = n := by omega
      rw [if_neg (by omega), hl, show 6 * v + j - 6 * v = j by omega]
      simp
theorem verbAll_at (L : Nat → Value × Value) {v j : Nat} (hv : v < 24) (hj : j < 6) : (verbAll L)[6 * v + j]? = (verbRow L v)[j]? :=
  flat6 (verbRow L) (fun _ => rfl) 24 v j hv hj
/-- the verbs that lie in a block, as one value -/
theorem verbs_all {w : World} {g : Nat} (h : VerbsIn w g 0 24) : ∃ L : Nat → Value × Value, (∀ v, v < 24 → (L v).1.oneCell' = true ∧ (L v).2.oneCell' = true) ∧ w.rangeAt g 0 (verbAll L) := by
  have hq : ∀ v, ∃ x : Value × Value, v < 24 → x.1.oneCell' = true ∧ x.2.oneCell' = true ∧ w.rangeAt g (6 * v) (cell6 v x.1 x.2) := fun v => by
    by_cases hv : v < 24
    · obtain ⟨ly, d, h1, h2, h3⟩ := h v (Nat.zero_le _) hv
      exact ⟨(ly, d), fun _ => ⟨h1, h2, h3⟩⟩
    · exact ⟨(.bool true, .bool true), fun q => absurd q hv⟩
  refine ⟨fun v => (hq v).choose, fun v hv => ⟨((hq v).choose_spec hv).1, ((hq v).choose_spec hv).2.1⟩, fun i u hu => ?_⟩
  have hi : i < 144 := by have := (List.getElem?_eq_some_iff.1 hu).1; rwa [verbAll_len] at this
  have e : 6 * (i / 6) + i % 6 = i := by omega
  have hv : i / 6 < 24 := by omega
  rw [← e, verbAll_at _ hv (by omega)] at hu
  have := ((hq (i / 6)).choose_spec hv).2.2 (i % 6) u hu
  rwa [e, ← Nat.zero_add i] at this
end Go.Proofs.YtciljkcicfphdaaGreatDoor
