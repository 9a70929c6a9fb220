/- Plain Lean, no program: words of a line, numbers of a word, what a deed needs; for the statement WardenHears. -/
import Derived.Lib.AtoiAll
import Derived.Lib.IndexMore
import Derived.Lib.ItoaNum
namespace Go.Proofs.YtciljkcicfphdaaGreatDoor

/-- the words between single spaces: 'cur' is what has come of the word under way -/
def splitAcc (cur : List UInt8) : List UInt8 → List (List UInt8)
  | [] => [cur]
  | c :: r => if c = 32 then cur :: splitAcc [] r else splitAcc (cur ++ [c]) r
def splitL (l : List UInt8) : List (List UInt8) := splitAcc [] l

theorem splitAcc_free : ∀ (a cur : List UInt8), (∀ c ∈ a, c ≠ 32) → splitAcc cur a = [cur ++ a]
  | [], cur, _ => by simp [splitAcc]
  | c :: r, cur, h => by
    have hc : c ≠ 32 := h c (by simp)
    rw [splitAcc, if_neg hc, splitAcc_free r _ (fun x hx => h x (by simp [hx]))]
    simp
theorem splitAcc_hit : ∀ (a cur b : List UInt8), (∀ c ∈ a, c ≠ 32) → splitAcc cur (a ++ 32 :: b) = (cur ++ a) :: splitAcc [] b
  | [], cur, b, _ => by simp [splitAcc]
  | c :: r, cur, b, h => by
    have hc : c ≠ 32 := h c (by simp)
    rw [List.cons_append, splitAcc, if_neg hc, splitAcc_hit r _ b (fun x hx => h x (by simp [hx]))]
    simp
theorem splitAcc_ne : ∀ (l cur : List UInt8), splitAcc cur l ≠ []
  | [], cur => by simp [splitAcc]
  | c :: r, cur => by
    rw [splitAcc]
    split
    · simp
    · exact splitAcc_ne r _
theorem splitAcc_len : ∀ (l cur : List UInt8), (splitAcc cur l).length ≤ l.length + 1
  | [], cur => by simp [splitAcc]
  | c :: r, cur => by
    rw [splitAcc]
    split
    · have := splitAcc_len r []
      simp
      omega
    · have := splitAcc_len r (cur ++ [c])
      simp
      omega

theorem index1_cons (b : UInt8) (l : List UInt8) : Lib.index (b :: l) [32] = if b = 32 then 0 else if Lib.index l [32] = -1 then -1 else Lib.index l [32] + 1 := by
  have e : ([32] : List UInt8).isPrefixOf (b :: l) = decide (b = 32) := by
    simp [List.isPrefixOf, Bool.beq_eq_decide_eq, eq_comm]
  rw [Lib.index, e]
  by_cases h : b = 32 <;> simp [h]
theorem cut_split : ∀ (l : List UInt8), (Lib.index l [32] = -1 ∧ ∀ c ∈ l, c ≠ 32) ∨ ∃ a b, l = a ++ 32 :: b ∧ (∀ c ∈ a, c ≠ 32) ∧ Lib.index l [32] = a.length
  | [] => .inl ⟨by simp [Lib.index], by simp⟩
  | c :: r => by
    rw [index1_cons]
    by_cases h : c = 32
    · subst h
      exact .inr ⟨[], r, rfl, by simp, by simp⟩
    · rw [if_neg h]
      rcases cut_split r with ⟨h1, h2⟩ | ⟨a, b, h1, h2, h3⟩
      · rw [h1, if_pos rfl]
        refine .inl ⟨rfl, ?_⟩
        intro x hx
        rcases List.mem_cons.1 hx with rfl | hx
        · exact h
        · exact h2 x hx
      · rw [h3, if_neg (by omega)]
        refine .inr ⟨c :: a, b, by rw [h1]; rfl, ?_, by simp⟩
        intro x hx
        rcases List.mem_cons.1 hx with rfl | hx
        · exact h
        · exact h2 x hx
/-- what strings.Cut at a space gives, and the words of a text -/
theorem cut_words (l : List UInt8) : ((Lib.cut l [32]).2.2 = false ∧ (Lib.cut l [32]).1 = l ∧ splitL l = [l]) ∨
    ((Lib.cut l [32]).2.2 = true ∧ splitL l = (Lib.cut l [32]).1 :: splitL (Lib.cut l [32]).2.1 ∧ (Lib.cut l [32]).2.1.length < l.length) := by
  rcases cut_split l with ⟨h1, h2⟩ | ⟨a, b, h1, h2, h3⟩
  · left
    have e : Lib.cut l [32] = (l, [], false) := by unfold Lib.cut; rw [h1, if_neg (by omega)]
    rw [e]
    exact ⟨rfl, rfl, by rw [splitL, splitAcc_free l [] h2]; simp⟩
  · right
    have e : Lib.cut l [32] = (a, b, true) := by
      unfold Lib.cut
      rw [h3, if_pos (by omega), h1]
      simp
    rw [e]
    exact ⟨rfl, by rw [splitL, h1, splitAcc_hit a [] b h2]; simp [splitL], by rw [h1]; simp; omega⟩

/-! ### numbers -/
def maxI : Int := 9223372036854775807
def isDig (c : UInt8) : Bool := decide (48 ≤ c.toNat) && decide (c.toNat ≤ 57)
def digs (n : Int) : List UInt8 → Option Int
  | [] => some n
  | c :: r => if isDig c = true ∧ 10 * n + ((c.toNat : Int) - 48) ≤ maxI then digs (10 * n + ((c.toNat : Int) - 48)) r else none
/-- the number of a word -/
def numL (l : List UInt8) : Option Int := if l = [] then none else if 1 < l.length ∧ l.head? = some 48 then none else digs 0 l
/-- the scan that the program makes ahead of strconv.Atoi -/
def scanOK (l : List UInt8) : Bool := l.all isDig && !(decide (l.head? = some 48) && decide (1 < l.length))

theorem digs_bad : ∀ (l : List UInt8) (n : Int), l.all isDig = false → digs n l = none
  | [], _, h => by simp at h
  | c :: r, n, h => by
    rw [digs]
    split
    · rename_i h1
      exact digs_bad r _ (by simpa [h1.1] using h)
    · rfl
theorem digs_atoi : ∀ (l : List UInt8) (acc : Nat), l.all isDig = true →
    (match Lib.parseUint10 acc l with | .ok u => if (u : Int) ≤ maxI then some (u : Int) else none | _ => none) = if (acc : Int) ≤ maxI then digs acc l else none
  | [], acc, _ => by simp [Lib.parseUint10, digs]
  | c :: r, acc, h => by
    have hc : isDig c = true := by simp at h; exact h.1
    have hr : r.all isDig = true := by simp at h; simpa using h.2
    have hd : 48 ≤ c.toNat ∧ c.toNat ≤ 57 := by simpa [isDig] using hc
    have ih := digs_atoi r (acc * 10 + (c.toNat - 48)) hr
    have e : ((acc * 10 + (c.toNat - 48) : Nat) : Int) = 10 * (acc : Int) + ((c.toNat : Int) - 48) := by omega
    rw [Lib.parseUint10, if_pos hd, digs]
    rw [e] at ih
    by_cases hacc : (acc : Int) ≤ maxI
    · rw [if_pos hacc]
      by_cases h3 : 10 * (acc : Int) + ((c.toNat : Int) - 48) ≤ maxI
      · have h1 : ¬ 1844674407370955162 ≤ acc := by unfold maxI at *; omega
        have h2 : ¬ 18446744073709551616 ≤ acc * 10 + (c.toNat - 48) := by unfold maxI at *; omega
        rw [if_neg h1, if_neg h2, ih, if_pos h3, if_pos ⟨hc, h3⟩]
      · have h4 : ¬ (isDig c = true ∧ 10 * (acc : Int) + ((c.toNat : Int) - 48) ≤ maxI) := fun q => h3 q.2
        rw [if_neg h4]
        rw [if_neg h3] at ih
        by_cases h1 : 1844674407370955162 ≤ acc
        · rw [if_pos h1]
        · rw [if_neg h1]
          by_cases h2 : 18446744073709551616 ≤ acc * 10 + (c.toNat - 48)
          · rw [if_pos h2]
          · rw [if_neg h2, ih]
    · rw [if_neg hacc]
      have h3 : ¬ 10 * (acc : Int) + ((c.toNat : Int) - 48) ≤ maxI := by unfold maxI at *; omega
      rw [if_neg h3] at ih
      by_cases h1 : 1844674407370955162 ≤ acc
      · rw [if_pos h1]
      · rw [if_neg h1]
        by_cases h2 : 18446744073709551616 ≤ acc * 10 + (c.toNat - 48)
        · rw [if_pos h2]
        · rw [if_neg h2, ih]

/-- what the program answers for a word: the scan, then strconv.Atoi -/
def numP (l : List UInt8) : Option Int := if scanOK l = true then (match Lib.atoiAll l with | .ok v => some v | _ => none) else none
theorem numP_eq (l : List UInt8) : numP l = numL l := by
  unfold numP numL scanOK
  cases l with
  | nil => simp [Lib.atoiAll]
  | cons c r =>
    rw [if_neg (by simp : ¬ (c :: r) = [])]
    by_cases h0 : 1 < (c :: r).length ∧ (c :: r).head? = some 48
    · have hb : ((c :: r).all isDig && !(decide ((c :: r).head? = some 48) && decide (1 < (c :: r).length))) = false := by simp only [h0.1, h0.2]; simp
      rw [if_pos h0, hb]
      rfl
    · rw [if_neg h0]
      have e0 : (decide ((c :: r).head? = some 48) && decide (1 < (c :: r).length)) = false := by
        rw [Bool.and_eq_false_iff]
        by_cases q : 1 < (c :: r).length
        · exact .inl (by simpa using fun e => h0 ⟨q, by simpa using e⟩)
        · exact .inr (by simpa using q)
      rw [e0]
      cases ha : (c :: r).all isDig with
      | false => simp [digs_bad _ _ ha]
      | true =>
        have hd : 48 ≤ c.toNat ∧ c.toNat ≤ 57 := by simp [isDig] at ha; exact ha.1
        have hn : ¬ (c.toNat = 43 ∨ c.toNat = 45) := by omega
        have hn2 : ¬ c.toNat = 45 := by omega
        have hda := digs_atoi (c :: r) 0 ha
        rw [if_pos (by unfold maxI; omega)] at hda
        have hz : ((0 : Nat) : Int) = 0 := rfl
        rw [hz] at hda
        simp only [Bool.not_false, Bool.and_true, if_true]
        rw [← hda]
        have n43 : ¬ c.toNat = 43 := by omega
        have n45 : ¬ c.toNat = 45 := by omega
        have hE : Lib.atoiAll (c :: r) = match Lib.parseUint10 0 (c :: r) with | .ok u => if 9223372036854775808 ≤ u then .range else .ok (u : Int) | .range => .range | _ => Lib.atoiAll [] := by
          unfold Lib.atoiAll Lib.parseMag
          simp only [n43, n45, or_self, if_false, not_false_eq_true, true_and, false_and, List.cons_ne_nil]
          cases Lib.parseUint10 0 (c :: r) <;> rfl
        rw [hE]
        cases Lib.parseUint10 0 (c :: r) with
        | ok u =>
          by_cases hu : 9223372036854775808 ≤ u
          · have : ¬ (u : Int) ≤ maxI := by unfold maxI; omega
            simp [hu, this]
          · have : (u : Int) ≤ maxI := by unfold maxI; omega
            simp [hu, this]
        | range => rfl
        | _ => rfl

/-! ### deeds -/
def wn (n lo hi : Int) : Bool := decide (lo ≤ n) && decide (n ≤ hi)
def wordL : List (List UInt8) := [[], [114,101,97,100], [110,111,116,101], [99,111,109,101], [102,105,108,108], [112,111,117,114], [108,111,115,101], [114,105,110,115,101], [116,97,115,116,101], [115,101,101], [104,105,114,101], [100,105,115,109,105,115,115], [110,111,116,99,104], [98,105,108,108], [112,97,121], [110,101,101,100], [99,108,97,105,109], [106,111,105,110], [115,116,111,112], [99,108,111,115,101], [103,117,97,114,100], [111,114,100,101,114], [100,114,111,112], [97,115,107]]
def manyL : List Int := [0, 6, 4, 4, 3, 3, 2, 1, 6, 5, 4, 1, 1, 3, 3, 4, 3, 3, 1, 1, 2, 4, 1, 3]
def word (v : Nat) : List UInt8 := wordL.getD v []
def many (v : Nat) : Int := manyL.getD v 0
/-- how many numbers, behind the test of the verb -/
def countOK (v : Int) (as : List Int) : Bool :=
  if v = 10 then wn as.length 4 8 && decide (as.getD 2 0 ≤ 1)
  else if v = 13 then wn as.length 5 15 && decide (((as.length : Int) - 3) % 2 = 0)
  else if v = 17 then decide ((as.length : Int) = 3) && decide (as.getD 2 0 ≤ 1)
  else decide ((as.length : Int) = many v.toNat)
def deedOK (v : Int) (as : List Int) : Bool := wn v 1 23 && as.all (fun n => wn n 0 999999999) && countOK v as
/-- a deed's line -/
def tellL (as : List Int) : List UInt8 := as.flatMap fun n => 32 :: Lib.decDigits n.toNat
def speakL (v : Int) (as : List Int) : List UInt8 := word v.toNat ++ tellL as
/-- the verb of a word, of those up to a number: 0 where there is none -/
def verbF (w : List UInt8) : Nat → Int
  | 0 => 0
  | k + 1 => if 0 < k ∧ word k = w then (k : Int) else verbF w k
def verbOf (w : List UInt8) : Int := verbF w 24
/-- the deed of a line -/
def hearL (l : List UInt8) : Option (Int × List Int) :=
  match splitL l with
  | [] => none
  | w :: r => match r.mapM numL with
    | none => none
    | some as => if deedOK (verbOf w) as then some (verbOf w, as) else none

end Go.Proofs.YtciljkcicfphdaaGreatDoor
