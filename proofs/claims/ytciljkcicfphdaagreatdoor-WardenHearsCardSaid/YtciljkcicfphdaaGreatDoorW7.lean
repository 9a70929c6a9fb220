/- The reference's split of a line at its spaces answers the words of the line; for every line of at most 400 letters. -/
import Derived.Test.YtciljkcicfphdaaGreatDoorW4
import Derived.Laws.AppendOwnNone
namespace Go.Proofs.YtciljkcicfphdaaGreatDoor
open Go.RowKit
/-! ### the reference's split -/
theorem info9 : (Tryz.prog.info? 9).map (fun i => (i.zero, i.size, i.bytes)) = some (some (.string ⟨#[]⟩), 1, 16) := by kernel_rfl
theorem info3 : (Tryz.prog.info? 3).map (fun i => (i.zero, i.size, i.bytes)) = some (some (.int .i64 0), 1, 8) := by kernel_rfl
/-- what has come of a line when k bytes have been looked at: the words ws; from f on the word under way -/
def splitAt (l : List UInt8) (k f : Nat) (ws : List (List UInt8)) : Prop :=
  (k ≤ l.length ∧ f ≤ k ∧ splitL l = ws ++ splitAcc ((l.drop f).take (k - f)) (l.drop k)) ∨ (k = l.length + 1 ∧ ws = splitL l)
theorem splitAt_start (l : List UInt8) : splitAt l 0 0 [] := .inl ⟨Nat.zero_le _, Nat.le_refl _, by simp [splitL]⟩
theorem take_step {l : List UInt8} {k f : Nat} (hk : k < l.length) (hf : f ≤ k) : (l.drop f).take (k - f) ++ [l[k]] = (l.drop f).take (k + 1 - f) := by
  have hl : k - f < (l.drop f).length := by rw [List.length_drop]; omega
  rw [show k + 1 - f = (k - f) + 1 by omega, List.take_succ_eq_append_getElem hl]
  congr 2
  simp [show f + (k - f) = k by omega]
theorem splitAt_hit {l : List UInt8} {k f : Nat} {ws : List (List UInt8)} (h : splitAt l k f ws) (hk : k < l.length) (hc : l[k] = 32) : splitAt l (k + 1) (k + 1) (ws ++ [(l.drop f).take (k - f)]) := by
  rcases h with ⟨_, hf, hs⟩ | ⟨rfl, _⟩
  · refine .inl ⟨by omega, Nat.le_refl _, ?_⟩
    rw [hs, List.drop_eq_getElem_cons hk, splitAcc, if_pos hc]
    simp
  · omega
theorem splitAt_pass {l : List UInt8} {k f : Nat} {ws : List (List UInt8)} (h : splitAt l k f ws) (hk : k < l.length) (hc : l[k] ≠ 32) : splitAt l (k + 1) f ws := by
  rcases h with ⟨_, hf, hs⟩ | ⟨rfl, _⟩
  · refine .inl ⟨by omega, by omega, ?_⟩
    rw [hs, List.drop_eq_getElem_cons hk, splitAcc, if_neg hc, take_step hk hf]
  · omega
theorem splitAt_end {l : List UInt8} {f : Nat} {ws : List (List UInt8)} (h : splitAt l l.length f ws) : splitAt l (l.length + 1) (l.length + 1) (ws ++ [(l.drop f).take (l.length - f)]) := by
  rcases h with ⟨_, hf, hs⟩ | ⟨h, _⟩
  · refine .inr ⟨rfl, ?_⟩
    rw [hs, List.drop_length, splitAcc]
  · omega
theorem splitAt_from {l : List UInt8} {k f : Nat} {ws : List (List UInt8)} (h : splitAt l k f ws) (hk : k ≤ l.length) : f ≤ k := by
  rcases h with ⟨_, hf, _⟩ | ⟨rfl, _⟩
  · exact hf
  · omega
theorem splitAt_done {l : List UInt8} {f : Nat} {ws : List (List UInt8)} (h : splitAt l (l.length + 1) f ws) : ws = splitL l := by
  rcases h with ⟨h, _⟩ | ⟨_, h⟩
  · omega
  · exact h
theorem new1 (w : World) (x : Value) (t : TypeId) : ∀ j u, ([x] : List Value)[j]? = some u → (w.alloc (.cells #[x] t)).cell? ((⟨w.heap.size, 0, none⟩ : Addr).add j) = some u := by
  intro j u hu
  rw [Addr.add_mid, cell_of_row _ _ _ _ _ _ (heap_alloc_new w _)]
  simpa using hu
theorem one1 {x : Value} (h : x.oneCell' = true) : ∀ u ∈ ([x] : List Value), u.oneCell' = true := by
  intro u hu
  simp at hu
  subst hu
  exact h
theorem row_push {w : World} {base e : TypeId} {v : Value} {α : Type} {f : α → Value} {xs : List α} {x : α} (h : w.ownsRow base e 1 v (xs.length + 1) (xs.map f ++ [f x])) : w.ownsRow base e 1 v (xs ++ [x]).length ((xs ++ [x]).map f) := by
  have : (xs ++ [x]).length = xs.length + 1 := by simp
  rw [this, List.map_append]
  exact h
theorem below_grown {B : Nat} {a w w' : World} {base e size n : Nat} {v : Value} {xs : List Value} {o : Obj} (h : Below B a w) (hB : B ≤ w.heap.size) (ho : (w.alloc o).ownsRow base e size v n xs) (hb : B ≤ base) (hg : (w.alloc o).grownBy w' v.ownBlock) : Below B a w' :=
  (h.alloc hB o).grown hg (by simp; omega) (fun k e => Nat.le_trans hb (ho.lt k e).1)
set_option maxRecDepth 100000 in
set_option maxHeartbeats 2000000 in
theorem split_any (l : List UInt8) (hl : l.length ≤ 400) (w : World) : Calls Tryz.prog 16 #[.string ⟨l.toArray⟩, .int .u8 32] w fun e w' => ∃ v, e = .returned v ∧ w'.ownsRow w.heap.size 9 1 v (splitL l).length ((splitL l).map bstr) ∧ Below w.heap.size w w' := by
  obtain ⟨i0, hi, hz0, hz1, hz2⟩ := info_parts info9
  go_enter Tryz.func16, Tryz.ntmps16
  go_wp2
  go_loopw [7, 6, 5] (fun i f v wr => ∃ (k : Nat) (n : Nat) (ws : List (List UInt8)), k ≤ l.length + 1 ∧ i = .int .i64 k ∧ f = .int .i64 n ∧ n ≤ l.length + 1 ∧ ws.length ≤ k ∧ Hid (splitAt l k n ws) ∧ Hid (wr.ownsRow w.heap.size 9 1 v ws.length (ws.map bstr)) ∧ Hid (Below w.heap.size w wr)) (fun i _ _ _ => l.length + 1 - (intOf i).toNat)
  case atStart => exact ⟨0, 0, [], Nat.zero_le _, rfl, rfl, Nat.zero_le _, Nat.zero_le _, Lib.hid (splitAt_start l), Lib.hid (World.ownsRow_nil _ _ _ _), Lib.hid (Below.refl _ _)⟩
  case round =>
    obtain ⟨k, n, ws, hk, rfl, rfl, hn, hws, HA, HO, HB⟩ := hrel
    by_cases h1 : k ≤ l.length
    · have hnk := splitAt_from HA.out h1
      by_cases h2 : k = l.length
      · subst h2
        have HE := Lib.hid (splitAt_end HA.out)
        have hx := extract_list l n l.length
        go_wp2_with (at_builtin; refine wpList_append_own _ rfl _ _ 52 rfl w.heap.size 9 i0 (.string ⟨#[]⟩) 1 16 Tryz.underlying52 hi hz0 hz1 hz2 rfl (by decide) _ _ _ rfl (HO.out.alloc _) ⟨wr.heap.size, 0, none⟩ 1 1 [bstr ((l.drop n).take (l.length - n))] rfl rfl (new1 _ _ _) (one1 rfl) (by simp [maxLen]; omega) (by omega) (by have := HB.out.size; simp; omega) ?_; intro v' w1 hown' hgrow _; have HO2 := Lib.hid (row_push hown'); have HB2 := Lib.hid (below_grown HB.out HB.out.size (HO.out.alloc _) (Nat.le_refl _) hgrow); clear hown' hgrow)
        go_roundw
        case rel => exact ⟨l.length + 1, l.length + 1, _, by omega, by go_num, by go_num, by omega, by simp; omega, HE, HO2, HB2⟩
        case measure => simp [intOf]
      · have hlt : k < l.length := by omega
        obtain ⟨c, hcl⟩ : ∃ c, c = l[k] := ⟨_, rfl⟩
        have hbk : ∀ h, (⟨l.toArray⟩ : ByteArray)[k]'h = c := fun _ => hcl.symm
        have h2' : ((k : Int) == l.length) = false := by simpa using (by omega : ¬ (k : Int) = l.length)
        by_cases h3 : c = 32
        · have HE := Lib.hid (splitAt_hit HA.out hlt (hcl ▸ h3))
          have hx := extract_list l n k
          subst h3
          clear hcl
          go_wp2_with (at_builtin; refine wpList_append_own _ rfl _ _ 52 rfl w.heap.size 9 i0 (.string ⟨#[]⟩) 1 16 Tryz.underlying52 hi hz0 hz1 hz2 rfl (by decide) _ _ _ rfl (HO.out.alloc _) ⟨wr.heap.size, 0, none⟩ 1 1 [bstr ((l.drop n).take (k - n))] rfl rfl (new1 _ _ _) (one1 rfl) (by simp [maxLen]; omega) (by omega) (by have := HB.out.size; simp; omega) ?_; intro v' w1 hown' hgrow _; have HO2 := Lib.hid (row_push hown'); have HB2 := Lib.hid (below_grown HB.out HB.out.size (HO.out.alloc _) (Nat.le_refl _) hgrow); clear hown' hgrow)
          go_roundw
          case rel => exact ⟨k + 1, k + 1, _, by omega, by go_num, by go_num, by omega, by simp; omega, HE, HO2, HB2⟩
          case measure => simp [intOf]; omega
        · have HE := Lib.hid (splitAt_pass HA.out hlt (hcl ▸ h3))
          have h3' : ((c.toNat : Int) == 32) = false := by
            have : ¬ (c.toNat : Int) = 32 := fun e => h3 (UInt8.toNat_inj.1 (by simpa using (by omega : c.toNat = 32)))
            exact decide_eq_false this
          clear hcl h3
          go_wp2
          go_roundw
          case rel => exact ⟨k + 1, n, ws, by omega, by go_num, rfl, by omega, by omega, HE, HO, HB⟩
          case measure => simp [intOf]; omega
    · obtain rfl : k = l.length + 1 := by omega
      have HE := Lib.hid (splitAt_done HA.out)
      go_wp2
      go_ret
      exact ⟨_, rfl, by rw [← HE.out]; exact HO.out, HB.out⟩
end Go.Proofs.YtciljkcicfphdaaGreatDoor
