/- The program's reading of a number answers as numL says; for every word of at most 400 letters, in a world that holds the library's variables. -/
import Derived.Test.YtciljkcicfphdaaGreatDoorWS
import Derived.Test.YtciljkcicfphdaaGreatDoorW6
namespace Go.Proofs.YtciljkcicfphdaaGreatDoor
open Go.RowKit
/-! ### the program's number -/
theorem bytes_below (w : World) (e : TypeId) (s : ByteArray) : Below w.heap.size w (Lib.bytesWorld w e s) := Lib.bytesWorld_below w e s
theorem scan_bad {l : List UInt8} (h : scanOK l = false) : numL l = none := by rw [← numP_eq, numP, if_neg (by simp [h])]
theorem scan_digit {l : List UInt8} {k : Nat} (hk : k < l.length) (h : isDig l[k] = false) : numL l = none := by
  refine scan_bad ?_
  have : l.all isDig = false := by rw [List.all_eq_false]; exact ⟨_, List.getElem_mem hk, by simp [h]⟩
  simp [scanOK, this]
theorem scan_zero {l : List UInt8} (h : l.head? = some 48) (h1 : 1 < l.length) : numL l = none := by
  refine scan_bad ?_
  simp only [scanOK, h, h1, decide_true, Bool.and_true, Bool.not_true, Bool.and_false]
theorem scan_good {l : List UInt8} (h : l.all isDig = true) (hz : ¬ (l.head? = some 48 ∧ 1 < l.length)) : numL l = match Lib.atoiAll l with | .ok v => some v | _ => none := by
  have : (decide (l.head? = some 48) && decide (1 < l.length)) = false := by
    rw [Bool.and_eq_false_iff]
    by_cases q : l.head? = some 48
    · exact .inr (by simpa using fun e => hz ⟨q, e⟩)
    · exact .inl (by simpa using q)
  have hs : scanOK l = true := by rw [scanOK, h, this]; rfl
  rw [← numP_eq, numP, if_pos hs]
  cases Lib.atoiAll l <;> rfl
theorem iter_below (w : World) (s : ByteArray) (pos : Nat) : Below w.heap.size w (w.iter s pos) := (Below.refl _ w).alloc (Nat.le_refl _) _
/-- how the program's number answers -/
def NumR (l : List UInt8) (e : Ending) : Prop := ∃ x, e = .returned (.tuple #[.int .i64 x, .bool (numL l).isSome]) ∧ ∀ n, numL l = some n → x = n
theorem numR_none {l : List UInt8} (h : numL l = none) (x : Int) : NumR l (.returned (.tuple #[.int .i64 x, .bool false])) := ⟨x, by rw [h]; rfl, fun n e => by rw [h] at e; cases e⟩
theorem numR_some {l : List UInt8} {n : Int} (h : numL l = some n) : NumR l (.returned (.tuple #[.int .i64 n, .bool true])) := ⟨n, by rw [h]; rfl, fun m e => by rw [h] at e; cases e; rfl⟩
theorem atoi_any (l : List UInt8) (hl : l.length ≤ 400) (w : World) (hG : Glob w) : Calls Tryz.prog 26 #[.string ⟨l.toArray⟩] w fun e w' => ∃ x ev, e = .returned (.tuple #[.int .i64 x, ev]) ∧ ((∃ v, Lib.atoiAll l = .ok v ∧ x = v ∧ ev = .nilIface) ∨ ((∀ v, Lib.atoiAll l ≠ .ok v) ∧ ∃ p, ev = .iface 244 p)) ∧ Below w.heap.size w w' := by
  obtain ⟨⟨t1, p1, g1⟩, ⟨t2, p2, g2⟩, _, _⟩ := hG
  have hsz : (⟨l.toArray⟩ : ByteArray).size ≤ 400 := hl
  cases h : Lib.atoiAll l with
  | ok v =>
    refine (Tryz.strconv_Atoi_ok ⟨l.toArray⟩ (by omega) v h w).mono ?_
    rintro e w' ⟨rfl, hw⟩
    refine ⟨v, _, rfl, .inl ⟨v, rfl, rfl, rfl⟩, ?_⟩
    rcases hw with rfl | ⟨t, rfl⟩
    · exact Below.refl _ _
    · exact bytes_below _ _ _
  | range =>
    refine (Tryz.strconv_Atoi_range_var ⟨l.toArray⟩ (by omega) h t2 p2 w g2).mono ?_
    rintro e w' ⟨N, rfl, _, _, hb⟩
    exact ⟨_, _, rfl, .inr ⟨fun v e => (by cases e), _, rfl⟩, hb⟩
  | _ =>
    refine (Tryz.strconv_Atoi_syntax_var ⟨l.toArray⟩ (by omega) (h.trans rfl) t1 p1 w g1).mono ?_
    rintro e w' ⟨N, rfl, _, _, hb⟩
    exact ⟨0, _, rfl, .inr ⟨fun v e => (by cases e), _, rfl⟩, hb⟩
set_option maxRecDepth 100000 in
set_option maxHeartbeats 2000000 in
theorem number_any (l : List UInt8) (hl : l.length ≤ 400) (w : World) (hG : Glob w) : Calls Tryz.prog 14 #[.string ⟨l.toArray⟩] w fun e w' => NumR l e ∧ Below w.heap.size w w' := by
  have HG := Lib.hid hG
  clear hG
  have hsz : (⟨l.toArray⟩ : ByteArray).size = l.length := rfl
  go_enter Tryz.func14, Tryz.ntmps14
  go_wp2
  go_loopw [] (fun wr => ∃ pos : Nat, pos ≤ l.length ∧ wr = w.iter ⟨l.toArray⟩ pos ∧ Hid (∀ k (h : k < l.length), k < pos → isDig l[k] = true) ∧ Hid (0 < pos → ¬ (l.head? = some 48 ∧ 1 < l.length))) (fun wr => l.length - wr.iterPos w.heap.size)
  case atStart => exact ⟨0, Nat.zero_le _, rfl, Lib.hid fun k _ hk => absurd hk (by omega), Lib.hid fun q => absurd q (by omega)⟩
  case round =>
    obtain ⟨pos, hp, rfl, HD, HZ⟩ := hrel
    by_cases hlt : pos < l.length
    · obtain ⟨c, hcl⟩ : ∃ c, c = l[pos] := ⟨_, rfl⟩
      have hbk : ∀ h, (⟨l.toArray⟩ : ByteArray)[pos]'h = c := fun _ => hcl.symm
      by_cases h128 : c.toNat < 128
      · have hnx : ∀ ty, (Instr.next (.pointer (some ⟨w.heap.size, 0, none⟩)) true ty).run Tryz.prog (w.iter ⟨l.toArray⟩ pos) = .ok (.tuple #[.bool true, .int .i64 pos, .int .i32 c.toNat]) (w.iter ⟨l.toArray⟩ (pos + 1)) := fun ty => by
          have := run_next_ascii (P := Tryz.prog) w ⟨l.toArray⟩ pos ty hlt (by rw [hbk]; exact h128)
          rw [hbk] at this
          exact this
        by_cases hg : isDig c = true
        · have hd : 48 ≤ c.toNat ∧ c.toNat ≤ 57 := by simpa [isDig] using hg
          have hd1 : ¬ (c.toNat : Int) < 48 := by omega
          have hd2 : ¬ (57 : Int) < c.toNat := by omega
          have HD2 := Lib.hid (show ∀ k (h : k < l.length), k < pos + 1 → isDig l[k] = true from fun k h hk => if e : k = pos then by subst e; rw [← hcl]; exact hg else HD.out k h (by omega))
          by_cases hz : pos = 0 ∧ c.toNat = 48 ∧ 1 < l.length
          · obtain ⟨rfl, hz1, hz2⟩ := hz
            have HN := Lib.hid (numR_none (scan_zero (l := l) (by rw [List.head?_eq_getElem?, List.getElem?_eq_getElem (by omega), ← hcl]; exact congrArg some (UInt8.toNat_inj.1 (by simpa using hz1))) hz2) 0)
            have hz1' : ((c.toNat : Int) == 48) = true := by simp [hz1]
            have hz3 : (l == [48]) = false := by
              have : ¬ l = [48] := fun e => by rw [e] at hz2; simp at hz2
              simpa using this
            clear hcl hg
            go_wp2
            go_ret2
            exact ⟨HN.out, iter_below _ _ _⟩
          · have HZ2 := Lib.hid (show 0 < pos + 1 → ¬ (l.head? = some 48 ∧ 1 < l.length) from fun _ q => by
              by_cases q0 : 0 < pos
              · exact HZ.out q0 q
              · obtain rfl : pos = 0 := by omega
                refine hz ⟨rfl, ?_, q.2⟩
                have := q.1
                rw [List.head?_eq_getElem?, List.getElem?_eq_getElem (by omega), ← hcl] at this
                cases this
                rfl)
            by_cases q0 : pos = 0
            · by_cases q1 : c.toNat = 48
              · have q2 : (l == [48]) = true := by
                  have h1 : ¬ 1 < l.length := fun e => hz ⟨q0, q1, e⟩
                  subst q0
                  have : l = [48] := by
                    match l, hlt, h1, hcl with
                    | [x], _, _, hcl => exact congrArg (fun y => [y]) (UInt8.toNat_inj.1 (show x.toNat = (48 : UInt8).toNat from (show x = c from hcl.symm) ▸ q1))
                    | _ :: _ :: _, _, h1, _ => exact absurd (by simp) h1
                  simpa using this
                have q1' : ((c.toNat : Int) == 48) = true := by simp [q1]
                subst q0
                clear hcl hg hz
                go_wp2
                go_roundw
                case rel => exact ⟨1, by omega, rfl, HD2, HZ2⟩
                case measure => simp; omega
              · have q1' : ((c.toNat : Int) == 48) = false := decide_eq_false (by omega)
                subst q0
                clear hcl hg hz
                go_wp2
                go_roundw
                case rel => exact ⟨1, by omega, rfl, HD2, HZ2⟩
                case measure => simp; omega
            · have q0' : ((pos : Int) == 0) = false := decide_eq_false (by omega)
              clear hcl hg hz
              go_wp2
              go_roundw
              case rel => exact ⟨pos + 1, by omega, rfl, HD2, HZ2⟩
              case measure => simp; omega
        · have HN := Lib.hid (numR_none (scan_digit hlt (by rw [← hcl]; simpa using hg)) 0)
          have hd : c.toNat < 48 ∨ 57 < c.toNat := by
            have : ¬ (48 ≤ c.toNat ∧ c.toNat ≤ 57) := fun e => hg (by simp [isDig, e])
            omega
          clear hcl hg
          rcases hd with hd | hd
          · have hd1 : (c.toNat : Int) < 48 := by omega
            go_wp2
            go_ret2
            exact ⟨HN.out, iter_below _ _ _⟩
          · have hd1 : ¬ (c.toNat : Int) < 48 := by omega
            have hd2 : (57 : Int) < c.toNat := by omega
            go_wp2
            go_ret2
            exact ⟨HN.out, iter_below _ _ _⟩
      · have hnx : ∀ ty, (Instr.next (.pointer (some ⟨w.heap.size, 0, none⟩)) true ty).run Tryz.prog (w.iter ⟨l.toArray⟩ pos) = _ := fun ty => run_next_any w ⟨l.toArray⟩ pos ty hlt
        have hh := (decode_high ⟨l.toArray⟩ pos hlt (by rw [hbk]; omega)).1
        have HN := Lib.hid (numR_none (scan_digit hlt (by rw [← hcl]; simp [isDig]; omega)) 0)
        obtain ⟨r, hr⟩ : ∃ r, r = Utf8.decode ⟨l.toArray⟩ pos := ⟨_, rfl⟩
        rw [← hr] at hh
        simp only [← hr] at hnx
        clear hr
        have hd1 : ¬ (r.1 : Int) < 48 := by omega
        have hd2 : (57 : Int) < r.1 := by omega
        clear hcl
        go_wp2
        go_ret2
        exact ⟨HN.out, iter_below _ _ _⟩
    · have hnx : ∀ ty, (Instr.next (.pointer (some ⟨w.heap.size, 0, none⟩)) true ty).run Tryz.prog (w.iter ⟨l.toArray⟩ pos) = _ := fun ty => run_next_end w ⟨l.toArray⟩ pos ty hlt
      have HA := Lib.hid (atoi_any l hl (w.iter ⟨l.toArray⟩ pos) (HG.out.below (iter_below w ⟨l.toArray⟩ pos)))
      have HGD := Lib.hid (scan_good (l := l) (by
        rw [List.all_eq_true]
        intro x hx
        obtain ⟨k, hk, rfl⟩ := List.getElem_of_mem hx
        exact HD.out k hk (by omega)) (by
        by_cases q : 0 < pos
        · exact HZ.out q
        · intro e; omega))
      go_wp2_with (go_at_call 26; refine HA.out.mono ?_; rintro e w2 ⟨x, ev, rfl, hc, hb⟩; rcases hc with ⟨v, h1, rfl, rfl⟩ | ⟨h1, p, rfl⟩)
      · have HN := Lib.hid (numR_some (l := l) (n := x) (by rw [HGD.out, h1]))
        have HB := Lib.hid ((iter_below w ⟨l.toArray⟩ pos).trans (hb.mono (iter_below w ⟨l.toArray⟩ pos).size))
        go_quiet (fail)
        go_wp2
        go_ret2
        exact ⟨HN.out, below_drewN HB.out _⟩
      · have HN := Lib.hid (numR_none (l := l) (HGD.out.trans (by cases hq : Lib.atoiAll l with | ok v => exact absurd hq (h1 v) | _ => rfl)) x)
        have HB := Lib.hid ((iter_below w ⟨l.toArray⟩ pos).trans (hb.mono (iter_below w ⟨l.toArray⟩ pos).size))
        go_quiet (fail)
        go_wp2
        go_ret2
        exact ⟨HN.out, below_drewN HB.out _⟩
end Go.Proofs.YtciljkcicfphdaaGreatDoor
