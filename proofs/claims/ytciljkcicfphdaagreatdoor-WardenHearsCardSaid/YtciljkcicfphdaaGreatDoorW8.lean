/- Steps for rows of integers, and the reference's copying of a deed; for every verb and every list of at most 20 numbers. -/
import Derived.Test.YtciljkcicfphdaaGreatDoorW7
import Derived.Deep.RegionHeld
import Derived.RangeFuncBox
import Derived.Deep.DeepCutAuto
import Derived.Laws.AppendOwnNone
namespace Go.Proofs.YtciljkcicfphdaaGreatDoor
open Go.RowKit
/-! ### the reference's TwinDeeds, at one deed -/
theorem info24 : (Tryz.prog.info? 24).map (fun i => (i.zero, i.size, i.bytes)) = some (some (.agg #[.int .i64 0, .slice none 0 0]), 2, 32) := by kernel_rfl
section
variable {P : Program} {ops : Array Oper} {o : Oper} {a : Act} {w : World} {K : Act → World → Prop} {Q : Exit → Act → World → Prop} {E : Prop}
theorem step_append_own (hg : o.guard = none) (s x : Operand) (t : TypeId) (ho : o.op = .call { callee := .builtin .append, args := #[s, x], argTypes := #[t, t] })
    (base : Nat) (e : TypeId) (i : TypeInfo) (z : Value) (size bytes : Nat) (ht : P.underlying t = some (.slice e)) (hi : P.info? e = some i) (hz : i.zero = some z)
    (hsize : i.size = size) (hby : i.bytes = bytes) (hzs : z.cells.size = size) (hsz : 0 < size)
    (v : Value) (n : Nat) (xs : List Value) (hs : a.eval s = v) (hown : w.ownsRow base e size v n xs)
    (ad : Addr) (m c : Nat) (news : List Value) (hx : a.eval x = .slice (some ad) m c) (hl : news.length = m * size) (hnews : ∀ j u, news[j]? = some u → w.cell? (ad.add j) = some u) (h1 : ∀ u ∈ news, u.oneCell' = true)
    (h63 : n + m ≤ maxLen) (hbytes : (n + m) * bytes ≤ 140737488355328) (hbase : base ≤ w.heap.size)
    (h : ∀ v' w', w'.ownsRow base e size v' (n + m) (xs ++ news) → w.grownBy w' v.ownBlock → (v' = .slice none 0 0 ↔ v = .slice none 0 0 ∧ m = 0) → K (a.put o.dst v') w') :
    if Region.wanted o (yielded ops a.tmps) = true then Oper.wp P o a w K Q else E := by
  rw [if_pos (by simp [Region.wanted, hg])]
  exact wp_append_own w s x t ho base e i z size bytes ht hi hz hsize hby hzs hsz v n xs hs hown ad m c news hx hl hnews h1 h63 hbytes hbase h
theorem step_append_none (hg : o.guard = none) (s x : Operand) (t : TypeId) (ho : o.op = .call { callee := .builtin .append, args := #[s, x], argTypes := #[t, t] })
    (base : Nat) (e : TypeId) (i : TypeInfo) (size : Nat) (ht : P.underlying t = some (.slice e)) (hi : P.info? e = some i)
    (v : Value) (n : Nat) (xs : List Value) (hs : a.eval s = v) (hown : w.ownsRow base e size v n xs) (hx : a.eval x = .slice none 0 0)
    (h : K (a.put o.dst v) w) : if Region.wanted o (yielded ops a.tmps) = true then Oper.wp P o a w K Q else E := by
  rw [if_pos (by simp [Region.wanted, hg])]
  have hrun := run_append_owned_none (P := P) (w := w) base t o.type e i size ht hi v n xs hown
  unfold Oper.wp
  simp [execOp, ho, resolve, invoke, builtin, hs, hx, hrun, Result.andThen]
  exact h
end
/-- a list of numbers at an address, as append's laws ask it -/
theorem ints_cells {w : World} {B : Nat} {ad : Option Addr} {xs : List Int} (h : IntsAt w B ad xs) : (ad = none ∧ xs = []) ∨ ∃ a, ad = some a ∧ ∀ j u, (xs.map (Value.int .i64))[j]? = some u → w.cell? (a.add j) = some u := by
  cases ad with
  | none =>
    left
    refine ⟨rfl, ?_⟩
    cases xs with
    | nil => rfl
    | cons x r =>
      obtain ⟨b, off, e, _⟩ := h 0 (by simp)
      cases e
  | some a =>
    right
    refine ⟨a, rfl, fun j u hu => ?_⟩
    have hj : j < xs.length := by have := (List.getElem?_eq_some_iff.1 hu).1; simpa using this
    obtain ⟨b, off, e, _, hc⟩ := h j hj
    cases e
    rw [Addr.add_mid, hc, ← hu]
    simp [hj]
theorem ints_one {xs : List Int} : ∀ u ∈ xs.map (Value.int .i64), u.oneCell' = true := by
  intro u hu
  obtain ⟨x, _, rfl⟩ := List.mem_map.1 hu
  rfl
theorem step_append_ints {P : Program} {ops : Array Oper} {o : Oper} {a : Act} {w : World} {K : Act → World → Prop} {Q : Exit → Act → World → Prop} {E : Prop}
    (hg : o.guard = none) (s x : Operand) (t : TypeId) (ho : o.op = .call { callee := .builtin .append, args := #[s, x], argTypes := #[t, t] })
    (base : Nat) (e : TypeId) (i : TypeInfo) (z : Value) (ht : P.underlying t = some (.slice e)) (hi : P.info? e = some i) (hz : i.zero = some z)
    (hsize : i.size = 1) (hby : i.bytes = 8) (hzs : z.cells.size = 1)
    (v : Value) (hs : a.eval s = v) (hown : w.ownsRow base e 1 v 0 []) (ad : Option Addr) (cap : Nat) (xs : List Int) (hl : xs.length ≤ 400) (hnil : ad = none → cap = 0) (hx : a.eval x = .slice ad xs.length cap) {B : Nat} (hh : IntsAt w B ad xs)
    (hbase : base ≤ w.heap.size)
    (h : ∀ ad' cap' w', w'.ownsRow base e 1 (.slice ad' xs.length cap') xs.length (xs.map (Value.int .i64)) → w.grownBy w' v.ownBlock → K (a.put o.dst (.slice ad' xs.length cap')) w') :
    if Region.wanted o (yielded ops a.tmps) = true then Oper.wp P o a w K Q else E := by
  rcases ints_cells hh with ⟨rfl, rfl⟩ | ⟨b, rfl, hc⟩
  · obtain rfl : cap = 0 := hnil rfl
    obtain ⟨ad', cap', rfl, _, _⟩ := row_cells hown
    exact step_append_none hg s x t ho base e i 1 ht hi _ 0 [] hs hown hx (h ad' cap' w hown (World.grownBy.refl _ _))
  · refine step_append_own hg s x t ho base e i z 1 8 ht hi hz hsize hby hzs (by decide) v 0 [] hs hown b xs.length cap (xs.map (Value.int .i64)) hx (by simp) hc ints_one (by simp [maxLen]; omega) (by omega) hbase ?_
    intro v' w' h1 h2 _
    rw [Nat.zero_add, List.nil_append] at h1
    obtain ⟨ad', cap', rfl, _, _⟩ := row_cells h1
    rw [List.length_map] at h1 ⊢
    exact h ad' cap' w' h1 h2
theorem new2 (w : World) (x y : Value) (t : TypeId) : ∀ j u, ([x, y] : List Value)[j]? = some u → (w.alloc (.cells #[x, y] t)).cell? ((⟨w.heap.size, 0, none⟩ : Addr).add j) = some u := by
  intro j u hu
  rw [Addr.add_mid, cell_of_row _ _ _ _ _ _ (heap_alloc_new w _)]
  simpa using hu
theorem one2 {x y : Value} (h : x.oneCell' = true) (h2 : y.oneCell' = true) : ∀ u ∈ ([x, y] : List Value), u.oneCell' = true := by
  intro u hu
  simp at hu
  rcases hu with rfl | rfl
  · exact h
  · exact h2
theorem ints_of_row {w : World} {base e : Nat} {v : Value} {n : Nat} {xs : List Int} (h : w.ownsRow base e 1 v n (xs.map (Value.int .i64))) : ∃ ad cap, v = .slice ad xs.length cap ∧ IntsAt w w.heap.size ad xs := by
  obtain ⟨ad, cap, rfl, _, hc⟩ := row_cells h
  refine ⟨ad, cap, by simp, fun i hi => ?_⟩
  obtain ⟨b, off, e1, e2, _, e3⟩ := hc i (by simpa using hi)
  exact ⟨b, off, e1, e2, by simpa using e3⟩
set_option maxRecDepth 100000 in
set_option maxHeartbeats 2000000 in
theorem Twin_any (v : Int) (ad : Option Addr) (cap : Nat) (xs : List Int) (g : Nat) (w : World) (B : Nat) (hB : B ≤ w.heap.size) (hl : xs.length ≤ 20) (hnil : ad = none → cap = 0) (h : IntsAt w B ad xs)
    (c0 : w.cell? ⟨g, 0, none⟩ = some (.int .i64 v)) (c1 : w.cell? ⟨g, 1, none⟩ = some (.slice ad xs.length cap)) :
    Calls Tryz.prog 4 #[.slice (some ⟨g, 0, none⟩) 1 1] w fun e w' => ∃ g' cp ad' cap', e = .returned (.slice (some ⟨g', 0, none⟩) 1 cp) ∧ w'.cell? ⟨g', 0, none⟩ = some (.int .i64 v) ∧ w'.cell? ⟨g', 1, none⟩ = some (.slice ad' xs.length cap') ∧ IntsAt w' w'.heap.size ad' xs ∧ Below w.heap.size w w' := by
  obtain ⟨i3, p3, q30, q31, q32⟩ := info_parts info3
  obtain ⟨i24, p24, q40, q41, q42⟩ := info_parts info24
  go_enter Tryz.func4, Tryz.ntmps4
  go_wp2
  go_loopw [8, 3] (fun i out wr => (i = .int .i64 0 ∧ out = .slice none 0 0 ∧ Below w.heap.size w wr) ∨ (i = .int .i64 1 ∧ ∃ g' cp ad' cap', out = .slice (some ⟨g', 0, none⟩) 1 cp ∧ wr.cell? ⟨g', 0, none⟩ = some (.int .i64 v) ∧ wr.cell? ⟨g', 1, none⟩ = some (.slice ad' xs.length cap') ∧ IntsAt wr wr.heap.size ad' xs ∧ Below w.heap.size w wr)) (fun i _ _ => 1 - (intOf i).toNat)
  case atStart => exact .inl ⟨rfl, rfl, Below.refl _ _⟩
  case round =>
    rcases hrel with ⟨rfl, rfl, hb⟩ | ⟨rfl, g', cp, ad', cap', rfl, d0, d1, hi, hb⟩
    · have e0 := cell_below hb c0
      have e1 := cell_below hb c1
      have HI := Lib.hid (h.below hb hB)
      have HB := Lib.hid hb
      clear c0 c1 hb
      go_upto_region 5 with fail
      have hS : (fun W : World => W.cell? ⟨wr.heap.size, 0, none⟩ = some (.int .i64 v) ∧ W.cell? ⟨wr.heap.size, 1, none⟩ = some (.slice ad xs.length cap)) (World.drew (wr.alloc (.cells #[.int .i64 v, .slice ad xs.length cap] 24))) := ⟨by simp, by simp⟩
      refine wp_region_held_drew (S := fun W => W.cell? ⟨wr.heap.size, 0, none⟩ = some (.int .i64 v) ∧ W.cell? ⟨wr.heap.size, 1, none⟩ = some (.slice ad xs.length cap)) (by kernel_rfl) hS (fun _ => ?_)
      refine wpAnyH_take (i := 0) (v := ?_) rfl (by kernel_rfl) (by kernel_rfl) (by kernel_rfl) (fun _ _ _ h => h) (Or.inl ⟨by rfl, ?_⟩) hS ?_
      rotate_left 1
      · rintro w ⟨s0, s1⟩
        go_simp
        with_reducible rfl
      refine wpAnyH_take (i := 1) (v := ?_) rfl (by kernel_rfl) (by kernel_rfl) (by kernel_rfl) (fun _ _ _ h => h) (Or.inl ⟨by rfl, ?_⟩) hS ?_
      rotate_left 1
      · rintro w ⟨s0, s1⟩
        go_simp
        with_reducible rfl
      refine wpAnyH_take (i := 2) (v := ?_) rfl (by kernel_rfl) (by kernel_rfl) (by kernel_rfl) (fun _ _ _ h => h) (Or.inl ⟨by rfl, ?_⟩) hS ?_
      rotate_left 1
      · rintro w ⟨s0, s1⟩
        go_simp
        with_reducible rfl
      refine wpAnyH_take (i := 4) (v := ?_) rfl (by kernel_rfl) (by kernel_rfl) (by kernel_rfl) (fun _ _ _ h => h) (Or.inl ⟨by rfl, ?_⟩) hS ?_
      rotate_left 1
      · rintro w ⟨s0, s1⟩
        go_simp
        with_reducible rfl
      refine wpAnyH_take (i := 5) (v := ?_) rfl (by kernel_rfl) (by kernel_rfl) (by kernel_rfl) (fun _ _ _ h => h) (Or.inl ⟨by rfl, ?_⟩) hS ?_
      rotate_left 1
      · rintro w ⟨s0, s1⟩
        go_simp
        with_reducible rfl
      refine wpAnyH_ready (rs := [3]) (by kernel_rfl) (by simp) ?_
      refine AllReadyH.cons rfl (fun K hK => ?_) AllReadyH.nil
      go_simp
      have hW2 : Below w.heap.size w ((wr.alloc (.cells #[.int .i64 v, .slice ad xs.length cap] 24)).alloc (.cells #[] 3)).drew := ((HB.out.alloc HB.out.size _).alloc (by have := HB.out.size; simp; omega) _).drew
      have hO2 : ((wr.alloc (.cells #[.int .i64 v, .slice ad xs.length cap] 24)).alloc (.cells #[] 3)).drew.ownsRow (wr.heap.size + 1) 3 1 (.slice (some ⟨wr.heap.size + 1, 0, none⟩) 0 0) 0 [] := by
        have := World.ownsRow_made (base := wr.heap.size + 1) (e := 3) (size := 1) (wr.alloc (.cells #[.int .i64 v, .slice ad xs.length cap] 24)) #[] 0 (by simp) (by simp [maxLen]) (by simp)
        rw [World.size_alloc] at this
        exact this
      have hI2 : IntsAt ((wr.alloc (.cells #[.int .i64 v, .slice ad xs.length cap] 24)).alloc (.cells #[] 3)).drew B ad xs := h.below hW2 hB
      have hS2 : (fun W : World => W.cell? ⟨wr.heap.size, 0, none⟩ = some (.int .i64 v) ∧ W.cell? ⟨wr.heap.size, 1, none⟩ = some (.slice ad xs.length cap)) ((wr.alloc (.cells #[.int .i64 v, .slice ad xs.length cap] 24)).alloc (.cells #[] 3)).drew := ⟨by simp, by simp⟩
      have hsz2 : wr.heap.size + 2 = (((wr.alloc (.cells #[.int .i64 v, .slice ad xs.length cap] 24)).alloc (.cells #[] 3)).drew).heap.size := by show _ = ((wr.alloc _).alloc _).heap.size; simp
      obtain ⟨W2, hW⟩ : ∃ W2, W2 = ((wr.alloc (.cells #[.int .i64 v, .slice ad xs.length cap] 24)).alloc (.cells #[] 3)).drew := ⟨_, rfl⟩
      rw [← hW] at hW2 hO2 hI2 hS2 hsz2 ⊢
      clear hW hS
      refine hK.out _ _ hS2 (fun hS => ?_)
      clear hK K
      refine wpAnyH_ready (rs := [6]) (by kernel_rfl) (by simp) ?_
      refine AllReadyH.cons rfl (fun K hK => ?_) AllReadyH.nil
      refine step_append_ints rfl (.tmp 15) (.tmp 17) 22 rfl (wr.heap.size + 1) 3 i3 (.int .i64 0) Tryz.underlying22 p3 q30 q31 q32 rfl (.slice (some ⟨wr.heap.size + 1, 0, none⟩) 0 0) rfl hO2 ad cap xs (by omega) hnil rfl hI2 (by omega) ?_
      intro ad' cap' W3 hO3 hg3
      have hS3 : (fun W : World => W.cell? ⟨wr.heap.size, 0, none⟩ = some (.int .i64 v) ∧ W.cell? ⟨wr.heap.size, 1, none⟩ = some (.slice ad xs.length cap)) W3 := ⟨hg3.cell hS2.1 (by simp [Value.ownBlock]), hg3.cell hS2.2 (by simp [Value.ownBlock])⟩
      have hb3 : Below w.heap.size w W3 := hW2.grown hg3 hW2.size (fun k e => by cases e; have := HB.out.size; show w.heap.size ≤ wr.heap.size + 1; omega)
      have hsz3 := hg3.size
      clear hO2 hI2 hS2 hg3 hS
      refine hK.out _ _ hS3 (fun hS => ?_)
      clear hK K
      refine wpAnyH_take (i := 7) (v := ?_) rfl (by kernel_rfl) (by kernel_rfl) (by kernel_rfl) (fun _ _ _ h => h) (Or.inl ⟨by rfl, ?_⟩) hS ?_
      rotate_left 1
      · rintro w ⟨s0, s1⟩
        go_simp
        with_reducible rfl
      refine wpAnyH_ready (rs := [8]) (by kernel_rfl) (by simp) ?_
      refine AllReadyH.cons rfl (fun K hK => ?_) AllReadyH.nil
      go_simp
      have hS4 : (fun W : World => W.cell? ⟨wr.heap.size, 0, none⟩ = some (.int .i64 v) ∧ W.cell? ⟨wr.heap.size, 1, none⟩ = some (.slice ad xs.length cap)) (W3.alloc (.cells #[.int .i64 v, .slice ad' xs.length cap'] 24)) := ⟨cell_alloc _ hS3.1, cell_alloc _ hS3.2⟩
      refine hK.out _ _ hS4 (fun hS => ?_)
      clear hK K
      refine wpAnyH_ready (rs := [9]) (by kernel_rfl) (by simp) ?_
      refine AllReadyH.cons rfl (fun K hK => ?_) AllReadyH.nil
      refine step_append_own rfl (.tmp 12) (.tmp 20) 25 rfl (W3.heap.size) 24 i24 _ 2 32 Tryz.underlying25 p24 q40 q41 q42 rfl (by decide) (.slice none 0 0) 0 [] rfl (World.ownsRow_nil _ _ _ _) ⟨W3.heap.size, 0, none⟩ 1 1 [.int .i64 v, .slice ad' xs.length cap'] rfl rfl (new2 _ _ _ _) (one2 rfl rfl) (by simp [maxLen]) (by decide) (by simp) ?_
      intro v' W5 hO5 hg5 _
      obtain ⟨g', cp, rfl⟩ := ownsRow_succ hO5
      have hS5 : (fun W : World => W.cell? ⟨wr.heap.size, 0, none⟩ = some (.int .i64 v) ∧ W.cell? ⟨wr.heap.size, 1, none⟩ = some (.slice ad xs.length cap)) W5 := ⟨hg5.cell hS4.1 (by simp [Value.ownBlock]), hg5.cell hS4.2 (by simp [Value.ownBlock])⟩
      have hb5 : Below w.heap.size w W5 := (hb3.alloc hb3.size _).grown hg5 (by have := hb3.size; simp; omega) (fun k e => by cases e)
      obtain ⟨ad2, cap2, hv2, hI3⟩ := ints_of_row hO3
      cases hv2
      have hI5 : IntsAt W5 W5.heap.size ad' xs := by
        have h34 : Below W3.heap.size W3 W5 := ((Below.refl _ W3).alloc (Nat.le_refl _) _).grown hg5 (by simp) (fun k e => by cases e)
        intro i hi
        obtain ⟨b, off, e1, e2, e3⟩ := hI3.below h34 (Nat.le_refl _) i hi
        exact ⟨b, off, e1, Nat.lt_of_lt_of_le e2 h34.size, e3⟩
      have d0 : W5.cell? ⟨g', 0, none⟩ = some (.int .i64 v) := by have := hO5.cells (g := g') rfl 0 (.int .i64 v) rfl; rwa [Addr.add_mid] at this
      have d1 : W5.cell? ⟨g', 1, none⟩ = some (.slice ad' xs.length cap') := by have := hO5.cells (g := g') rfl 1 (.slice ad' xs.length cap') rfl; rwa [Addr.add_mid] at this
      have HI5 := Lib.hid hI5
      have HB5 := Lib.hid hb5
      have HD0 := Lib.hid d0
      have HD1 := Lib.hid d1
      refine hK.out _ _ hS5 (fun hS => ?_)
      clear hK K hO5 hg5 hI5 hI3 hO3 hb5 hb3 hS4 hS3 d0 d1
      refine wpAnyH_ready (rs := [10]) (by kernel_rfl) (by simp) ?_
      refine AllReadyH.cons rfl (fun K hK => ?_) AllReadyH.nil
      go_simp
      refine hK.out _ _ hS5 (fun hS => ?_)
      clear hK K
      refine wpAnyH_done (by kernel_rfl) ?_ _
      go_wp2_with fail
      go_roundw
      case rel => exact .inr ⟨rfl, g', cp, ad', cap', rfl, HD0.out, HD1.out, HI5.out, HB5.out⟩
      case measure => simp [intOf]
    · go_wp2
      go_ret
      exact ⟨g', cp, ad', cap', rfl, d0, d1, hi, hb⟩
end Go.Proofs.YtciljkcicfphdaaGreatDoor
