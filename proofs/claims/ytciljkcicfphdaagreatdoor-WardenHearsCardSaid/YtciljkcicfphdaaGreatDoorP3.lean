/- Plain Lean, no program: what has come of a line when some of its words have. -/
import Derived.Test.YtciljkcicfphdaaGreatDoorP1
namespace Go.Proofs.YtciljkcicfphdaaGreatDoor
theorem mapM_snoc {α β : Type} (f : α → Option β) (x : α) : ∀ l : List α, (l ++ [x]).mapM f = (l.mapM f).bind fun a => (f x).map fun b => a ++ [b]
  | [] => by cases h : f x <;> simp [List.mapM_cons, h]
  | y :: l => by
    rw [List.cons_append, List.mapM_cons, List.mapM_cons, mapM_snoc f x l]
    cases f y with
    | none => rfl
    | some b => cases l.mapM f with
      | none => rfl
      | some a => cases f x <;> rfl
theorem mapM_prefix_none {α β : Type} (f : α → Option β) : ∀ l r : List α, l.mapM f = none → (l ++ r).mapM f = none
  | [], _, h => by simp at h
  | y :: l, r, h => by
    rw [List.mapM_cons] at h
    rw [List.cons_append, List.mapM_cons]
    cases hy : f y with
    | none => rfl
    | some b =>
      rw [hy] at h
      cases hl : l.mapM f with
      | none => rw [mapM_prefix_none f l r hl]; rfl
      | some a => rw [hl] at h; cases h
/-- whether the first word is still to come, the verb, the numbers -/
def stateOf : List (List UInt8) → Option (Bool × Int × List Int)
  | [] => some (true, 0, [])
  | w :: r => (r.mapM numL).map fun ns => (false, verbP w, ns)
theorem stateOf_first (w : List UInt8) : stateOf [w] = some (false, verbP w, []) := rfl
theorem stateOf_true {ws : List (List UInt8)} {v : Int} {ns : List Int} (h : stateOf ws = some (true, v, ns)) : ws = [] ∧ v = 0 ∧ ns = [] := by
  cases ws with
  | nil => simp [stateOf] at h; exact ⟨rfl, h.1.symm, h.2⟩
  | cons w r => simp [stateOf] at h
theorem stateOf_snoc {ws : List (List UInt8)} {v : Int} {ns : List Int} (h : stateOf ws = some (false, v, ns)) (w : List UInt8) : stateOf (ws ++ [w]) = (numL w).map fun n => (false, v, ns ++ [n]) := by
  cases ws with
  | nil => simp [stateOf] at h
  | cons x r =>
    simp only [stateOf, Option.map_eq_some_iff, Prod.mk.injEq, true_and] at h
    obtain ⟨ns', h1, h2, h3⟩ := h
    subst h3
    rw [List.cons_append, stateOf, mapM_snoc, h1, h2]
    cases numL w <;> rfl
theorem stateOf_prefix {ws vs : List (List UInt8)} (h : ws <+: vs) (hn : stateOf ws = none) : stateOf vs = none := by
  obtain ⟨r, rfl⟩ := h
  cases ws with
  | nil => cases hn
  | cons x l =>
    simp only [stateOf, Option.map_eq_none_iff] at hn
    rw [List.cons_append, stateOf, mapM_prefix_none _ _ _ hn]
    rfl
/-- verb, numbers and error number of a line -/
def hearT (l : List UInt8) : Int × List Int × Int := match hearL l with | some (v, as) => (v, as, 0) | none => (0, [], 121)
theorem hearT_state (l : List UInt8) : hearT l = match stateOf (splitL l) with | some (_, v, ns) => if validOK v ns then (v, ns, 0) else (0, [], 121) | none => (0, [], 121) := by
  unfold hearT
  rw [← hearP_eq]
  unfold hearP
  cases hs : splitL l with
  | nil => exact absurd hs (splitAcc_ne l [])
  | cons w r =>
    simp only [stateOf]
    cases r.mapM numL with
    | none => rfl
    | some as =>
      simp only [Option.map_some]
      cases validOK (verbP w) as <;> simp
/-- a deed's line and error number -/
def speakT (v : Int) (as : List Int) : List UInt8 × Int := if deedOK v as then (speakL v as, 0) else ([], 121)
end Go.Proofs.YtciljkcicfphdaaGreatDoor
