/- The law answers true; for every line of at most 400 letters and every list of at most 20 numbers, in a world that holds the library's variables. -/
import Derived.Test.YtciljkcicfphdaaGreatDoorWH
import Derived.Test.YtciljkcicfphdaaGreatDoorW9
import Derived.Deep.DeepCutAuto
import Derived.Deep.RegionWith
import Derived.Deep.RegionHeld
namespace Go.Proofs.YtciljkcicfphdaaGreatDoor
open Go.RowKit
theorem IntsAt.mono {w : World} {B C : Nat} {ad : Option Addr} {l : List Int} (h : IntsAt w B ad l) (hC : B ≤ C) : IntsAt w C ad l := fun i hi => by
  obtain ⟨b, off, e, hlt, hc⟩ := h i hi
  exact ⟨b, off, e, Nat.lt_of_lt_of_le hlt hC, hc⟩
theorem IntsAt.next {w w' : World} {ad : Option Addr} {l : List Int} (h : IntsAt w w.heap.size ad l) (hb : Below w.heap.size w w') : IntsAt w' w'.heap.size ad l := (h.below hb (Nat.le_refl _)).mono hb.size
structure LF (w W : World) (g : Nat) (v : Int) (xs : List Int) (ad ad' : Option Addr) (cap cap' : Nat) : Prop where
  d : Box2 W w.heap.size 24 (.int .i64 v) (.slice ad xs.length cap)
  m0 : W.cell? ⟨g, 0, none⟩ = some (.int .i64 v)
  m1 : W.cell? ⟨g, 1, none⟩ = some (.slice ad' xs.length cap')
  i : IntsAt W W.heap.size ad xs
  i' : IntsAt W W.heap.size ad' xs
  gl : Glob W
  b : Below w.heap.size w W
theorem LF.next {w W W' : World} {g : Nat} {v : Int} {xs : List Int} {ad ad' : Option Addr} {cap cap' : Nat} (h : LF w W g v xs ad ad' cap cap') (hb : Below W.heap.size W W') : LF w W' g v xs ad ad' cap cap' :=
  ⟨h.d.below hb h.d.lt, cell_below hb h.m0, cell_below hb h.m1, h.i.next hb, h.i'.next hb, h.gl.below hb, h.b.trans (hb.mono h.b.size)⟩
theorem Hear_fix (l : List UInt8) (hl : l.length ≤ 400) {v : Int} {ys : List Int} {n : Int} (hT : hearT l = (v, ys, n)) (w : World) (hG : Glob w) : Calls Tryz.prog 5 #[.string ⟨l.toArray⟩] w fun e w' => ∃ ad cap, e = .returned (.tuple #[.agg #[.int .i64 v, .slice ad ys.length cap], .int .i64 n]) ∧ ys.length ≤ 400 ∧ IntsAt w' w'.heap.size ad ys ∧ Below w.heap.size w w' := by
  refine (Hear_any l hl w hG).mono ?_
  rintro e w' ⟨v', xs, ad, cap, n', rfl, h1, h2, h3, h4⟩
  rw [hT] at h1
  cases h1
  exact ⟨ad, cap, rfl, h2, h3, h4⟩
theorem RHear_fix (l : List UInt8) (hl : l.length ≤ 400) {v : Int} {ys : List Int} {n : Int} (hT : hearT l = (v, ys, n)) (w : World) : Calls Tryz.prog 6 #[.string ⟨l.toArray⟩] w fun e w' => ∃ ad cap, e = .returned (.tuple #[.agg #[.int .i64 v, .slice ad ys.length cap], .int .i64 n]) ∧ ys.length ≤ 400 ∧ IntsAt w' w'.heap.size ad ys ∧ Below w.heap.size w w' := by
  refine (RHear_any l hl w).mono ?_
  rintro e w' ⟨v', xs, ad, cap, n', rfl, h1, h2, h3, h4⟩
  rw [hT] at h1
  cases h1
  exact ⟨ad, cap, rfl, h2, h3, h4⟩
set_option maxRecDepth 100000 in
set_option maxHeartbeats 8000000 in
theorem law_in (l : List UInt8) (hl : l.length ≤ 400) (v : Int) (ad : Option Addr) (cap : Nat) (xs : List Int) (hx : xs.length ≤ 20) (hnil : ad = none → cap = 0) (w : World) (h : IntsAt w w.heap.size ad xs) (hG : Glob w) :
    Calls Tryz.prog 3 #[.string ⟨l.toArray⟩, .agg #[.int .i64 v, .slice ad xs.length cap]] w fun e w' => e = .returned (.bool true) ∧ Below w.heap.size w w' := by
  obtain ⟨hv, ys, hn, hT⟩ : ∃ hv ys hn, hearT l = (hv, ys, hn) := ⟨_, _, _, rfl⟩
  obtain ⟨st, sn, hS⟩ : ∃ st sn, speakT v xs = (st, sn) := ⟨_, _, rfl⟩
  have HT := Lib.hid hT
  have HS := Lib.hid hS
  have hlen : ((⟨l.toArray⟩ : ByteArray).size : Int) ≤ 400 := by show (l.length : Int) ≤ 400; omega
  have hb1 : Below w.heap.size w ((w.alloc (.cells #[.int .i64 v, .slice ad xs.length cap] 24)).alloc (.cells #[.int .i64 v, .slice ad xs.length cap] 24)) := ((Below.refl _ w).alloc (Nat.le_refl _) _).alloc (by simp) _
  have HB1 := Lib.hid hb1
  have HI1 := Lib.hid (h.next hb1)
  have HG1 := Lib.hid (hG.below hb1)
  have HD1 := Lib.hid ((Box2.new w 24 (.int .i64 v) (.slice ad xs.length cap)).alloc (.cells #[.int .i64 v, .slice ad xs.length cap] 24))
  clear hb1 h hG hT hS
  go_enter Tryz.func3, Tryz.ntmps3
  go_upto_region 8 with (first
    | (go_at_call 4; refine (Twin_any v ad cap xs (w.heap.size + 1) _ _ (Nat.le_refl _) hx hnil HI1.out (by simp) (by simp)).mono ?_; rintro e w4 ⟨g, cp, ad', cap', rfl, m0, m1, hi, hb⟩; have hF4 : LF w w4 g v xs ad ad' cap cap' := ⟨HD1.out.below hb (by simp; omega), m0, m1, HI1.out.next hb, hi, HG1.out.below hb, HB1.out.trans (hb.mono HB1.out.size)⟩; have F4 := Lib.hid hF4; clear m0 m1 hi hb hF4)
    | (go_at_call 5; refine (Hear_fix l hl HT.out _ F4.out.gl).mono ?_; rintro e w5 ⟨ad1, cp1, rfl, hy1, hi, hb⟩; have F5 := Lib.hid (F4.out.next (hb.trans (((Below.refl _ w5).alloc (Nat.le_refl _) (.cells #[.int .i64 hv, .slice ad1 ys.length cp1] 24)).mono hb.size))); have I5 := Lib.hid (hi.next ((Below.refl _ w5).alloc (Nat.le_refl _) (.cells #[.int .i64 hv, .slice ad1 ys.length cp1] 24))); have A5 := Lib.hid (Box2.new w5 24 (.int .i64 hv) (.slice ad1 ys.length cp1)); clear hi hb)
    | (go_at_call 6; refine (RHear_fix l hl HT.out _).mono ?_; rintro e w6 ⟨ad2, cp2, rfl, hy2, hi, hb⟩; have hbb := hb.trans (((Below.refl _ w6).alloc (Nat.le_refl _) (.cells #[.int .i64 hv, .slice ad2 ys.length cp2] 24)).mono hb.size); have hF6 := F5.out.next hbb; have F6 := Lib.hid hF6; have I6 := Lib.hid (I5.out.next hbb); have J6 := Lib.hid (hi.next ((Below.refl _ w6).alloc (Nat.le_refl _) (.cells #[.int .i64 hv, .slice ad2 ys.length cp2] 24))); have A6 := Lib.hid (A5.out.below hbb A5.out.lt); have B6 := Lib.hid (Box2.new w6 24 (.int .i64 hv) (.slice ad2 ys.length cp2)); have c0 := hF6.m0; have c1 := hF6.m1; clear hi hb hbb hF6)
    | (go_at_call 7; refine (Speak_any v ad' cap' xs _ _ (Nat.le_refl _) (by omega) F6.out.i' F6.out.gl).mono ?_; rw [HS.out]; rintro e w7 ⟨rfl, hb⟩; have hF7 := F6.out.next hb; have F7 := Lib.hid hF7; have I7 := Lib.hid (I6.out.next hb); have J7 := Lib.hid (J6.out.next hb); have A7 := Lib.hid (A6.out.below hb A6.out.lt); have B7 := Lib.hid (B6.out.below hb B6.out.lt); have d0 := hF7.d.c0; have d1 := hF7.d.c1; clear hb hF7 c0 c1)
    | (go_at_call 8; refine (RSpeak_any v ad cap xs _ _ (Nat.le_refl _) (by omega) F7.out.i).mono ?_; rw [HS.out]; rintro e w8 ⟨rfl, hb⟩; have hF8 := F7.out.next hb; have F8 := Lib.hid hF8; have I8 := Lib.hid (I7.out.next hb); have J8 := Lib.hid (J7.out.next hb); have A8 := Lib.hid (A7.out.below hb A7.out.lt); have B8 := Lib.hid (B7.out.below hb B7.out.lt); clear hb hF8 d0 d1))
  have hF8 : LF w w8.drew g v xs ad ad' cap cap' := F8.out.next (Below.refl _ w8).drew
  have HI8 : Hid (IntsAt w8.drew w8.drew.heap.size ad1 ys) := I8
  have HJ8 : Hid (IntsAt w8.drew w8.drew.heap.size ad2 ys) := J8
  have HA8 : Hid (Box2 w8.drew w5.heap.size 24 (.int .i64 hv) (.slice ad1 ys.length cp1)) := A8
  have HB8 : Hid (Box2 w8.drew w6.heap.size 24 (.int .i64 hv) (.slice ad2 ys.length cp2)) := B8
  have HF8 := Lib.hid hF8
  have HC1 := Lib.hid (SameDeeds_any hv hv ad1 ad2 cp1 cp2 _ _ ys ys w8.drew HI8.out HJ8.out hy1 hy2 (Nat.le_refl _) (Nat.le_refl _))
  rw [show decide (hv = hv ∧ ys = ys) = true by simp] at HC1
  have hS : (fun W : World => W.cell? ⟨w5.heap.size, 0, none⟩ = some (.int .i64 hv) ∧ W.cell? ⟨w5.heap.size, 1, none⟩ = some (.slice ad1 ys.length cp1) ∧ W.cell? ⟨w6.heap.size, 0, none⟩ = some (.int .i64 hv) ∧ W.cell? ⟨w6.heap.size, 1, none⟩ = some (.slice ad2 ys.length cp2) ∧ W.cell? ⟨g, 0, none⟩ = some (.int .i64 v) ∧ W.cell? ⟨g, 1, none⟩ = some (.slice ad' xs.length cap') ∧ W.cell? ⟨w.heap.size, 0, none⟩ = some (.int .i64 v) ∧ W.cell? ⟨w.heap.size, 1, none⟩ = some (.slice ad xs.length cap)) w8.drew := ⟨HA8.out.c0, HA8.out.c1, HB8.out.c0, HB8.out.c1, hF8.m0, hF8.m1, hF8.d.c0, hF8.d.c1⟩
  clear hF8
  refine wp_region_held_drew (S := fun W : World => W.cell? ⟨w5.heap.size, 0, none⟩ = some (.int .i64 hv) ∧ W.cell? ⟨w5.heap.size, 1, none⟩ = some (.slice ad1 ys.length cp1) ∧ W.cell? ⟨w6.heap.size, 0, none⟩ = some (.int .i64 hv) ∧ W.cell? ⟨w6.heap.size, 1, none⟩ = some (.slice ad2 ys.length cp2) ∧ W.cell? ⟨g, 0, none⟩ = some (.int .i64 v) ∧ W.cell? ⟨g, 1, none⟩ = some (.slice ad' xs.length cap') ∧ W.cell? ⟨w.heap.size, 0, none⟩ = some (.int .i64 v) ∧ W.cell? ⟨w.heap.size, 1, none⟩ = some (.slice ad xs.length cap)) (by kernel_rfl) hS (fun _ => ?_)
  refine wpAnyH_take (i := 0) (v := ?_) rfl (by kernel_rfl) (by kernel_rfl) (by kernel_rfl) (fun _ _ _ h => h) (Or.inl ⟨by kernel_rfl, ?_⟩) hS ?_
  rotate_left 1
  · rintro W ⟨s0, s1, s2, s3, s4, s5, s6, s7⟩
    go_simp
    with_reducible rfl
  refine wpAnyH_take (i := 1) (v := ?_) rfl (by kernel_rfl) (by kernel_rfl) (by kernel_rfl) (fun _ _ _ h => h) (Or.inl ⟨by kernel_rfl, ?_⟩) hS ?_
  rotate_left 1
  · rintro W ⟨s0, s1, s2, s3, s4, s5, s6, s7⟩
    go_simp
    with_reducible rfl
  refine wpAnyH_ready (rs := [2]) (by kernel_rfl) (by simp) ?_
  refine AllReadyH.cons rfl (fun K hK => ?_) AllReadyH.nil
  go_simp
  go_wp2_with (go_at_call 9; refine HC1.out.mono ?_; rintro e w9 ⟨rfl, hb⟩; have HF9 := Lib.hid (HF8.out.next hb); have HA9 := Lib.hid (HA8.out.below hb HA8.out.lt); have HB9 := Lib.hid (HB8.out.below hb HB8.out.lt); clear hb)
  have hS9 : (fun W : World => W.cell? ⟨w5.heap.size, 0, none⟩ = some (.int .i64 hv) ∧ W.cell? ⟨w5.heap.size, 1, none⟩ = some (.slice ad1 ys.length cp1) ∧ W.cell? ⟨w6.heap.size, 0, none⟩ = some (.int .i64 hv) ∧ W.cell? ⟨w6.heap.size, 1, none⟩ = some (.slice ad2 ys.length cp2) ∧ W.cell? ⟨g, 0, none⟩ = some (.int .i64 v) ∧ W.cell? ⟨g, 1, none⟩ = some (.slice ad' xs.length cap') ∧ W.cell? ⟨w.heap.size, 0, none⟩ = some (.int .i64 v) ∧ W.cell? ⟨w.heap.size, 1, none⟩ = some (.slice ad xs.length cap)) w9 := ⟨HA9.out.c0, HA9.out.c1, HB9.out.c0, HB9.out.c1, HF9.out.m0, HF9.out.m1, HF9.out.d.c0, HF9.out.d.c1⟩
  clear hS
  refine hK.out _ _ hS9 (fun hS => ?_)
  clear hK K hS9
  refine wpAnyH_take (i := 3) (v := ?_) rfl (by kernel_rfl) (by kernel_rfl) (by kernel_rfl) (fun _ _ _ h => h) (Or.inl ⟨by kernel_rfl, ?_⟩) hS ?_
  rotate_left 1
  · rintro W ⟨s0, s1, s2, s3, s4, s5, s6, s7⟩
    go_simp
    with_reducible rfl
  refine wpAnyH_take (i := 4) (v := ?_) rfl (by kernel_rfl) (by kernel_rfl) (by kernel_rfl) (fun _ _ _ h => h) (Or.inl ⟨by kernel_rfl, ?_⟩) hS ?_
  rotate_left 1
  · rintro W ⟨s0, s1, s2, s3, s4, s5, s6, s7⟩
    go_simp
    with_reducible rfl
  refine wpAnyH_take (i := 5) (v := ?_) rfl (by kernel_rfl) (by kernel_rfl) (by kernel_rfl) (fun _ _ _ h => h) (Or.inl ⟨by kernel_rfl, ?_⟩) hS ?_
  rotate_left 1
  · rintro W ⟨s0, s1, s2, s3, s4, s5, s6, s7⟩
    go_simp
    with_reducible rfl
  refine wpAnyH_take (i := 6) (v := ?_) rfl (by kernel_rfl) (by kernel_rfl) (by kernel_rfl) (fun _ _ _ h => h) (Or.inl ⟨by kernel_rfl, ?_⟩) hS ?_
  rotate_left 1
  · rintro W ⟨s0, s1, s2, s3, s4, s5, s6, s7⟩
    go_simp
    with_reducible rfl
  refine wpAnyH_take (i := 7) (v := ?_) rfl (by kernel_rfl) (by kernel_rfl) (by kernel_rfl) (fun _ _ _ h => h) (Or.inl ⟨by kernel_rfl, ?_⟩) hS ?_
  rotate_left 1
  · rintro W ⟨s0, s1, s2, s3, s4, s5, s6, s7⟩
    go_simp
    with_reducible rfl
  refine wpAnyH_take (i := 8) (v := ?_) rfl (by kernel_rfl) (by kernel_rfl) (by kernel_rfl) (fun _ _ _ h => h) (Or.inl ⟨by kernel_rfl, ?_⟩) hS ?_
  rotate_left 1
  · rintro W ⟨s0, s1, s2, s3, s4, s5, s6, s7⟩
    go_simp
    with_reducible rfl
  refine wpAnyH_take (i := 9) (v := ?_) rfl (by kernel_rfl) (by kernel_rfl) (by kernel_rfl) (fun _ _ _ h => h) (Or.inl ⟨by kernel_rfl, ?_⟩) hS ?_
  rotate_left 1
  · rintro W ⟨s0, s1, s2, s3, s4, s5, s6, s7⟩
    go_simp
    with_reducible rfl
  refine wpAnyH_take (i := 10) (v := ?_) rfl (by kernel_rfl) (by kernel_rfl) (by kernel_rfl) (fun _ _ _ h => h) (Or.inl ⟨by kernel_rfl, ?_⟩) hS ?_
  rotate_left 1
  · rintro W ⟨s0, s1, s2, s3, s4, s5, s6, s7⟩
    go_simp
    with_reducible rfl
  refine wpAnyH_take (i := 11) (v := ?_) rfl (by kernel_rfl) (by kernel_rfl) (by kernel_rfl) (fun _ _ _ h => h) (Or.inl ⟨by kernel_rfl, ?_⟩) hS ?_
  rotate_left 1
  · rintro W ⟨s0, s1, s2, s3, s4, s5, s6, s7⟩
    go_simp
    with_reducible rfl
  refine wpAnyH_take (i := 12) (v := ?_) rfl (by kernel_rfl) (by kernel_rfl) (by kernel_rfl) (fun _ _ _ h => h) (Or.inl ⟨by kernel_rfl, ?_⟩) hS ?_
  rotate_left 1
  · rintro W ⟨s0, s1, s2, s3, s4, s5, s6, s7⟩
    go_simp
    with_reducible rfl
  refine wpAnyH_take (i := 13) (v := ?_) rfl (by kernel_rfl) (by kernel_rfl) (by kernel_rfl) (fun _ _ _ h => h) (Or.inl ⟨by kernel_rfl, ?_⟩) hS ?_
  rotate_left 1
  · rintro W ⟨s0, s1, s2, s3, s4, s5, s6, s7⟩
    go_simp
    with_reducible rfl
  refine wpAnyH_take (i := 14) (v := ?_) rfl (by kernel_rfl) (by kernel_rfl) (by kernel_rfl) (fun _ _ _ h => h) (Or.inl ⟨by kernel_rfl, ?_⟩) hS ?_
  rotate_left 1
  · rintro W ⟨s0, s1, s2, s3, s4, s5, s6, s7⟩
    go_simp
    with_reducible rfl
  refine wpAnyH_take (i := 15) (v := ?_) rfl (by kernel_rfl) (by kernel_rfl) (by kernel_rfl) (fun _ _ _ h => h) (Or.inl ⟨by kernel_rfl, ?_⟩) hS ?_
  rotate_left 1
  · rintro W ⟨s0, s1, s2, s3, s4, s5, s6, s7⟩
    go_simp
    with_reducible rfl
  refine wpAnyH_take (i := 16) (v := ?_) rfl (by kernel_rfl) (by kernel_rfl) (by kernel_rfl) (fun _ _ _ h => h) (Or.inl ⟨by kernel_rfl, ?_⟩) hS ?_
  rotate_left 1
  · rintro W ⟨s0, s1, s2, s3, s4, s5, s6, s7⟩
    go_simp
    with_reducible rfl
  refine wpAnyH_take (i := 17) (v := ?_) rfl (by kernel_rfl) (by kernel_rfl) (by kernel_rfl) (fun _ _ _ h => h) (Or.inl ⟨by kernel_rfl, ?_⟩) hS ?_
  rotate_left 1
  · rintro W ⟨s0, s1, s2, s3, s4, s5, s6, s7⟩
    go_simp
    with_reducible rfl
  refine wpAnyH_take (i := 18) (v := ?_) rfl (by kernel_rfl) (by kernel_rfl) (by kernel_rfl) (fun _ _ _ h => h) (Or.inl ⟨by kernel_rfl, ?_⟩) hS ?_
  rotate_left 1
  · rintro W ⟨s0, s1, s2, s3, s4, s5, s6, s7⟩
    go_simp
    with_reducible rfl
  refine wpAnyH_take (i := 19) (v := ?_) rfl (by kernel_rfl) (by kernel_rfl) (by kernel_rfl) (fun _ _ _ h => h) (Or.inl ⟨by kernel_rfl, ?_⟩) hS ?_
  rotate_left 1
  · rintro W ⟨s0, s1, s2, s3, s4, s5, s6, s7⟩
    go_simp
    with_reducible rfl
  refine wpAnyH_take (i := 20) (v := ?_) rfl (by kernel_rfl) (by kernel_rfl) (by kernel_rfl) (fun _ _ _ h => h) (Or.inl ⟨by kernel_rfl, ?_⟩) hS ?_
  rotate_left 1
  · rintro W ⟨s0, s1, s2, s3, s4, s5, s6, s7⟩
    go_simp
    with_reducible rfl
  refine wpAnyH_take (i := 21) (v := ?_) rfl (by kernel_rfl) (by kernel_rfl) (by kernel_rfl) (fun _ _ _ h => h) (Or.inl ⟨by kernel_rfl, ?_⟩) hS ?_
  rotate_left 1
  · rintro W ⟨s0, s1, s2, s3, s4, s5, s6, s7⟩
    go_simp
    with_reducible rfl
  refine wpAnyH_take (i := 22) (v := ?_) rfl (by kernel_rfl) (by kernel_rfl) (by kernel_rfl) (fun _ _ _ h => h) (Or.inl ⟨by kernel_rfl, ?_⟩) hS ?_
  rotate_left 1
  · rintro W ⟨s0, s1, s2, s3, s4, s5, s6, s7⟩
    go_simp
    with_reducible rfl
  refine wpAnyH_ready (rs := [23]) (by kernel_rfl) (by simp) ?_
  refine AllReadyH.cons rfl (fun K hK => ?_) AllReadyH.nil
  go_simp
  have HC2 := Lib.hid (SameDeeds_any v v ad' ad cap' cap _ _ xs xs w9 HF9.out.i' HF9.out.i (by omega) (by omega) (Nat.le_refl _) (Nat.le_refl _))
  rw [show decide (v = v ∧ xs = xs) = true by simp] at HC2
  go_wp2_with (go_at_call 9; refine HC2.out.mono ?_; rintro e w10 ⟨rfl, hb⟩; have HF10 := Lib.hid (HF9.out.next hb); have HA10 := Lib.hid (HA9.out.below hb HA9.out.lt); have HB10 := Lib.hid (HB9.out.below hb HB9.out.lt); clear hb)
  have hS10 : (fun W : World => W.cell? ⟨w5.heap.size, 0, none⟩ = some (.int .i64 hv) ∧ W.cell? ⟨w5.heap.size, 1, none⟩ = some (.slice ad1 ys.length cp1) ∧ W.cell? ⟨w6.heap.size, 0, none⟩ = some (.int .i64 hv) ∧ W.cell? ⟨w6.heap.size, 1, none⟩ = some (.slice ad2 ys.length cp2) ∧ W.cell? ⟨g, 0, none⟩ = some (.int .i64 v) ∧ W.cell? ⟨g, 1, none⟩ = some (.slice ad' xs.length cap') ∧ W.cell? ⟨w.heap.size, 0, none⟩ = some (.int .i64 v) ∧ W.cell? ⟨w.heap.size, 1, none⟩ = some (.slice ad xs.length cap)) w10 := ⟨HA10.out.c0, HA10.out.c1, HB10.out.c0, HB10.out.c1, HF10.out.m0, HF10.out.m1, HF10.out.d.c0, HF10.out.d.c1⟩
  clear hS
  refine hK.out _ _ hS10 (fun hS => ?_)
  clear hK K
  refine wpAnyH_take (i := 24) (v := ?_) rfl (by kernel_rfl) (by kernel_rfl) (by kernel_rfl) (fun _ _ _ h => h) (Or.inl ⟨by kernel_rfl, ?_⟩) hS ?_
  rotate_left 1
  · rintro W ⟨s0, s1, s2, s3, s4, s5, s6, s7⟩
    go_simp
    with_reducible rfl
  refine wpAnyH_ready (rs := [25]) (by kernel_rfl) (by simp) ?_
  refine AllReadyH.cons rfl (fun K hK => ?_) AllReadyH.nil
  go_simp
  refine hK.out _ _ hS10 (fun hS => ?_)
  clear hK K
  refine wpAnyH_done (by kernel_rfl) ?_ _
  go_wp2_with fail
  go_ret
  exact ⟨rfl, HF10.out.b⟩
end Go.Proofs.YtciljkcicfphdaaGreatDoor
