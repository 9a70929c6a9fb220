/- The reference's comparisons of lists and of deeds, and its decimal numeral; for lists of at most 400 numbers, and for numbers up to 999999999. -/
import Derived.Test.YtciljkcicfphdaaGreatDoorW2
import Derived.Test.YtciljkcicfphdaaGreatDoorP3
namespace Go.Proofs.YtciljkcicfphdaaGreatDoor
open Go.RowKit
theorem ret_s {a b : List UInt8} (h : a = b) : Ending.returned (bstr a) = .returned (bstr b) := by rw [h]
theorem ret_v {a b : Value} (h : a = b) : Ending.returned a = .returned b := by rw [h]
theorem below_drewN {B : Nat} {w w' : World} (h : Below B w w') (n : Nat) : Below B w (w'.drewN n) := ⟨h.os, h.tape, h.output, h.size, h.block⟩
theorem below_drew {w w' : World} (h : Below w.drew.heap.size w.drew w') : Below w.heap.size w w' := (Below.refl _ _).drew.trans h

set_option maxHeartbeats 400000 in
theorem SameInts_any (ad bd : Option Addr) (ac bc A B : Nat) (xs ys : List Int) (w : World) (ha : IntsAt w A ad xs) (hb : IntsAt w B bd ys) (la : xs.length ≤ 400) (lb : ys.length ≤ 400) (hA : A ≤ w.heap.size) (hB : B ≤ w.heap.size) :
    Calls Tryz.prog 23 #[.slice ad xs.length ac, .slice bd ys.length bc] w fun e w' => e = .returned (.bool (decide (xs = ys))) ∧ Below w.heap.size w w' := by
  by_cases hn : xs.length = ys.length
  · have HN0 := Lib.hid hn
    have hn' : ((xs.length : Int) == ys.length) = true := by simp [hn]
    have hle : xs.length ≤ ys.length := by omega
    clear hn
    go_enter Tryz.func23, Tryz.ntmps23
    go_wp2
    go_loopw [5] (fun i wr => ∃ k : Nat, k ≤ xs.length ∧ i = .int .i64 k ∧ Hid (∀ j (h1 : j < xs.length) (h2 : j < ys.length), j < k → xs[j] = ys[j]) ∧ Below w.heap.size w wr) (fun i _ => xs.length - (intOf i).toNat)
    case atStart => exact ⟨0, Nat.zero_le _, rfl, Lib.hid fun j _ _ hj => absurd hj (Nat.not_lt_zero _), Below.refl _ _⟩
    case round =>
      obtain ⟨k, hk, rfl, HN, hwr⟩ := hrel
      have HA := Lib.hid (ha.below hwr hA)
      have HB := Lib.hid (hb.below hwr hB)
      have HWR := Lib.hid hwr
      clear ha hb hwr
      by_cases hlt : k < xs.length
      · have hlt2 : k < ys.length := by omega
        obtain ⟨b, off, rfl, hb1, c0⟩ := HA.out k hlt
        obtain ⟨b', off', rfl, hb2, c1⟩ := HB.out k hlt2
        by_cases hq : xs[k] = ys[k]
        · have hq' : (xs[k] == ys[k]) = true := by simp [hq]
          have HQ := Lib.hid hq
          clear hq
          go_wp2
          go_quiet (fail)
          go_wp2
          go_roundw
          case rel => exact ⟨k + 1, by omega, by go_num, Lib.hid fun j h1 h2 hjk => if e : j = k then by subst e; exact HQ.out else HN.out j h1 h2 (by omega), below_drewN HWR.out _⟩
          case measure => simp [intOf]; omega
        · have hq' : (xs[k] == ys[k]) = false := by simpa using hq
          have HQ := Lib.hid hq
          clear hq
          go_wp2
          go_quiet (fail)
          go_wp2
          go_ret
          exact ⟨ret_b (by symm; simp; rintro rfl; exact HQ.out rfl), below_drewN HWR.out _⟩
      · go_wp2
        go_ret
        exact ⟨ret_b (by symm; simp; exact List.ext_getElem HN0.out fun j h1 h2 => HN.out j h1 h2 (by omega)), HWR.out⟩
  · have hn' : ((xs.length : Int) == ys.length) = false := by simpa using (fun e => hn (by omega) : ¬ (xs.length : Int) = ys.length)
    go_enter Tryz.func23, Tryz.ntmps23
    go_wp2
    go_ret
    exact ⟨ret_b (by symm; simp; rintro rfl; exact hn rfl), Below.refl _ _⟩
set_option maxHeartbeats 400000 in
theorem SameDeeds_any (u v : Int) (ad bd : Option Addr) (ac bc A B : Nat) (xs ys : List Int) (w : World) (ha : IntsAt w A ad xs) (hb : IntsAt w B bd ys) (la : xs.length ≤ 400) (lb : ys.length ≤ 400) (hA : A ≤ w.heap.size) (hB : B ≤ w.heap.size) :
    Calls Tryz.prog 9 #[.agg #[.int .i64 u, .slice ad xs.length ac], .agg #[.int .i64 v, .slice bd ys.length bc]] w fun e w' => e = .returned (.bool (decide (u = v ∧ xs = ys))) ∧ Below w.heap.size w w' := by
  have HB2 := Lib.hid (((Below.refl w.heap.size w).alloc (Nat.le_refl _) (.cells #[.int .i64 u, .slice ad xs.length ac] 24)).alloc (by simp) (.cells #[.int .i64 v, .slice bd ys.length bc] 24))
  by_cases h : u = v
  · subst h
    go_enter Tryz.func9, Tryz.ntmps9
    go_wp2_with (go_at_call 23; refine (SameInts_any ad bd ac bc _ _ xs ys _ (ha.below HB2.out hA) (hb.below HB2.out hB) la lb (by simp; omega) (by simp; omega)).mono ?_; rintro e w' ⟨rfl, hbb⟩)
    go_ret
    exact ⟨ret_b (by simp), HB2.out.trans (hbb.mono (by simp; omega))⟩
  · have h' : (u == v) = false := by simpa using h
    go_enter Tryz.func9, Tryz.ntmps9
    go_wp2
    go_ret
    exact ⟨ret_b (by simp [h]), HB2.out⟩

/-! ### decimal -/
set_option maxRecDepth 100000 in
set_option maxHeartbeats 400000 in
theorem decimal_any : ∀ (n : Nat) (w : World), n ≤ 999999999 → Calls Tryz.prog 22 #[.int .i64 n] w fun e w' => e = .returned (bstr (Lib.decDigits n)) ∧ Below w.heap.size w w' := by
  intro n
  induction n using Nat.strongRecOn with
  | _ n ih =>
  intro w hn
  by_cases h : n < 10
  · have h' : decide ((n : Int) < 10) = true := by simpa using (by omega : (n : Int) < 10)
    have HE := Lib.hid (enc_digit n h)
    have hd : Lib.decDigits n = [UInt8.ofNat (48 + n)] := by rw [Lib.decDigits, dif_pos h]
    have HD := Lib.hid hd
    clear hd
    go_enter Tryz.func22, Tryz.ntmps22
    go_wp2
    go_ret
    have hv : Value.string (Utf8.encode (48 + (n : Int))) = bstr (Lib.decDigits n) := by rw [HE.out, HD.out]
    refine ⟨?_, Below.refl _ _⟩
    rw [← hv]
    rfl
  · have h' : decide ((n : Int) < 10) = false := by simpa using (by omega : ¬ (n : Int) < 10)
    obtain ⟨q, hq⟩ : ∃ q, q = n / 10 := ⟨_, rfl⟩
    obtain ⟨r, hr⟩ : ∃ r, r = n % 10 := ⟨_, rfl⟩
    have HD := Lib.hid (show Lib.decDigits n = Lib.decDigits q ++ [UInt8.ofNat (48 + r)] by rw [Lib.decDigits, dif_neg h, hq, hr])
    have HE := Lib.hid (enc_digit r (by omega))
    have hl : (Lib.decDigits q).length ≤ 9 := dec_len 8 q (by show q < 1000000000; omega)
    have e1 : (n : Int).tdiv 10 = (q : Int) := by rw [Int.tdiv_eq_ediv_of_nonneg (by omega)]; omega
    have e2 : (n : Int).tmod 10 = (r : Int) := by rw [Int.tmod_eq_emod_of_nonneg (by omega)]; omega
    have IH := ih q (by omega)
    have hq9 : q ≤ 999999999 := by omega
    have hr9 : r ≤ 9 := by omega
    clear ih h hq hr
    go_enter Tryz.func22, Tryz.ntmps22
    have he := HE.out
    go_wp2_with (go_at_call 22; refine (IH _ hq9).mono ?_; rintro e w' ⟨rfl, hb⟩)
    go_ret
    refine ⟨?_, by assumption⟩
    have hv : Value.string ((⟨(Lib.decDigits q).toArray⟩ : ByteArray) ++ ⟨#[48 + UInt8.ofNat r]⟩) = bstr (Lib.decDigits n) := by
      rw [HD.out, show UInt8.ofNat (48 + r) = 48 + UInt8.ofNat r by simp]
      exact congrArg Value.string (ByteArray.mk_append_mk _ _)
    rw [← hv]
    rfl
end Go.Proofs.YtciljkcicfphdaaGreatDoor
