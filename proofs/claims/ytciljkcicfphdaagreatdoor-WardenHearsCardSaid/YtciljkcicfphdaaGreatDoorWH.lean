/- The program's Hear answers as hearT says; for every line of at most 400 letters, in a world that holds the library's variables. -/
import Derived.Test.YtciljkcicfphdaaGreatDoorWJ
import Derived.Test.YtciljkcicfphdaaGreatDoorWN
import Derived.Test.YtciljkcicfphdaaGreatDoorSC
namespace Go.Proofs.YtciljkcicfphdaaGreatDoor
open Go.RowKit Go.Shelf
attribute [local go_sem] Oper.semAt_some
set_option maxRecDepth 100000 in
set_option maxHeartbeats 4000000 in
theorem Hear_any (l : List UInt8) (hl : l.length ≤ 400) (w : World) (hG : Glob w) : Calls Tryz.prog 5 #[.string ⟨l.toArray⟩] w fun e w' => ∃ v xs ad cap n, e = .returned (.tuple #[.agg #[.int .i64 v, .slice ad xs.length cap], .int .i64 n]) ∧ hearT l = (v, xs, n) ∧ xs.length ≤ 400 ∧ IntsAt w' w'.heap.size ad xs ∧ Below w.heap.size w w' := by
  obtain ⟨m, hm⟩ := hG.max
  have hm2 := cell_lt hm
  have HG := Lib.hid hG
  clear hG
  refine (callsIn_wide (n := 3)).1 ?_
  have hro : Fence.wide.round = none := rfl
  refine callsIn_of_wp_marks Tryz.func5 rfl trivial ?_ hro
  simp only [Tryz.ntmps5, List.size_toArray, List.length_cons, List.length_nil, Nat.reduceAdd, Nat.reduceSub, Array.replicate_succ, Array.replicate_zero, List.push_toArray, List.append_toArray, List.nil_append, List.cons_append]
  gi_wp2
  refine wpIn_scope ?_
  gi_wp2
  refine wpIn_label ?_
  gi_wp2_with (refine ⟨trivial, ?_⟩; gi_at_call 10; refine (callsIn_wide.2 (fields_any l _)).mono ?_; rintro e w' ⟨rfl, rfl⟩)
  obtain ⟨A1, hA1⟩ : ∃ A1, A1 = w.alloc (.cells #[.int .i64 0, .slice none 0 0] 24) := ⟨_, rfl⟩
  obtain ⟨A2, hA2⟩ : ∃ A2, A2 = A1.alloc (.cells #[.int .i64 0] 27) := ⟨_, rfl⟩
  obtain ⟨A3, hA3⟩ : ∃ A3, A3 = A2.alloc (.cells #[.int .i64 0, .slice none 0 0] 24) := ⟨_, rfl⟩
  obtain ⟨A4, hA4⟩ : ∃ A4, A4 = A3.alloc (.cells #[.bool true] 4) := ⟨_, rfl⟩
  obtain ⟨A5, hA5⟩ : ∃ A5, A5 = A4.alloc (.cells #[bstr l] 9) := ⟨_, rfl⟩
  obtain ⟨W0, hW0⟩ : ∃ W0, W0 = A5.alloc (.cells #[.int .u8 32] 5) := ⟨_, rfl⟩
  rw [← hA1, ← hA2, ← hA3, ← hA4, ← hA5, ← hW0]
  have s1 : w.heap.size + 1 = A1.heap.size := by rw [hA1]; simp
  have s2 : A1.heap.size + 1 = A2.heap.size := by rw [hA2]; simp
  have s3 : A2.heap.size + 1 = A3.heap.size := by rw [hA3]; simp
  have s4 : A3.heap.size + 1 = A4.heap.size := by rw [hA4]; simp
  have s5 : A4.heap.size + 1 = A5.heap.size := by rw [hA5]; simp
  have s6 : A5.heap.size + 1 = W0.heap.size := by rw [hW0]; simp
  have hR : Box2 W0 w.heap.size 24 (.int .i64 0) (.slice none 0 0) := by rw [hW0, hA5, hA4, hA3, hA2, hA1]; exact (((((Box2.new w 24 _ _).alloc _).alloc _).alloc _).alloc _).alloc _
  have hE : Boxed W0 A1.heap.size 27 (.int .i64 0) := by rw [hW0, hA5, hA4, hA3, hA2]; exact ((((Boxed.new A1 27 _).alloc _).alloc _).alloc _).alloc _
  have hD : Box2 W0 A2.heap.size 24 (.int .i64 0) (.slice none 0 0) := by rw [hW0, hA5, hA4, hA3]; exact (((Box2.new A2 24 _ _).alloc _).alloc _).alloc _
  have hF : Boxed W0 A3.heap.size 4 (.bool true) := by rw [hW0, hA5, hA4]; exact ((Boxed.new A3 4 _).alloc _).alloc _
  have hb0 : Boxed W0 A4.heap.size 9 (bstr l) := by rw [hW0, hA5]; exact (Boxed.new A4 9 _).alloc _
  have hb1 : Boxed W0 A5.heap.size 5 (.int .u8 32) := by rw [hW0]; exact Boxed.new A5 5 _
  have hB : Below w.heap.size w W0 := by
    rw [hW0, hA5, hA4, hA3, hA2, hA1]
    exact ((((((Below.refl _ w).alloc (Nat.le_refl _) _).alloc (by simp) _).alloc (by simp; omega) _).alloc (by simp; omega) _).alloc (by simp; omega) _).alloc (by simp; omega) _
  have hmW := cell_below hB hm
  rw [s1, s2, s3, s4, s5]
  have l1 : w.heap.size < A1.heap.size := by omega
  have l2 : A1.heap.size < A2.heap.size := by omega
  have l3 : A2.heap.size < A3.heap.size := by omega
  have l4 : A3.heap.size < A4.heap.size := by omega
  have l5 : A4.heap.size < A5.heap.size := by omega
  have l6 : A5.heap.size < W0.heap.size := by omega
  generalize A1.heap.size = E at *
  generalize A2.heap.size = D at *
  generalize A3.heap.size = F at *
  generalize A4.heap.size = b0 at *
  generalize A5.heap.size = b1 at *
  clear s1 s2 s3 s4 s5 s6 hA1 hA2 hA3 hA4 hA5 hW0 A1 A2 A3 A4 A5
  have lH : 2 < w.heap.size := hm2
  have hseq := seqF 2 (by omega) b0 b1 w.heap.size l hl m W0 hb0 hb1 hmW lH (by omega) (by omega)
  have HMW := Lib.hid hmW
  clear hm hm2 hmW
  refine range_state (α := Wd) hro (by omega) (gf := 24) (lb := #[.pointer (some ⟨b0, 0, none⟩), .pointer (some ⟨b1, 0, none⟩)]) rfl trivial (enters_of Tryz.func24 (by kernel_rfl) rfl) hseq KpS_t (KpS_b (by omega) (by omega) (by omega)) StS_keeps (fun _ => rfl)
    (HI w W0.heap.size E D F) (HX w E) (hi_own l1 l2 l3 l4 (by omega)) (hx_own l1 l2 l3 l4 (by omega)) (hi_step l1 l2 l3 l4 (by omega))
    ⟨true, 0, [], _, rfl, Nat.le_refl _, hF, hD, World.ownsRow_nil _ _ _ _, hR, hE, hB, Nat.le_refl _⟩
    (fun x a' W => ∃ Bx, W0.heap.size ≤ Bx ∧ Boxed W Bx 9 (bstr x.1.1) ∧ a' = { tmps := #[.string ⟨l.toArray⟩, undef, .pointer (some ⟨w.heap.size, 0, none⟩), .pointer (some ⟨E, 0, none⟩), .pointer (some ⟨D, 0, none⟩), .pointer (some ⟨F, 0, none⟩), .pointer (some ⟨Bx, 0, none⟩), undef, undef, .agg #[.int .i64 0, .slice none 0 0], .string ⟨l.toArray⟩, .func (.func 24) #[] #[.pointer (some ⟨b0, 0, none⟩), .pointer (some ⟨b1, 0, none⟩)], bstr x.1.1, .bool x.1.2, undef, undef, undef, undef, undef, undef, undef, undef, undef, undef, undef, undef, undef, undef, undef, undef, undef, undef, undef, undef, undef, undef, undef, undef], defers := [] })
    (fun x a' => fun _ A B row hs hg hr => by
      obtain ⟨Bx, h1, h2, h3⟩ := hs
      exact ⟨Bx, h1, boxx_own h2 hg hr, h3⟩)
    ?assign ?body ?done ?stop
  case assign =>
    intro l0 pre x W K hi hK
    gi_wp2
    refine hK _ _ ((KeepsOthers.alloc _ _).from _) (kps_below ((Below.refl _ W).alloc (Nat.le_refl _) _)) ?_ ⟨W.heap.size, ?_, Boxed.new W 9 _, rfl⟩
    · obtain ⟨f, v, ns, a, h1, h2, h⟩ := hi
      exact ⟨f, v, ns, a, h1, h2, h.alloc _⟩
    · obtain ⟨f, v, ns, a, h1, h2, h⟩ := hi
      exact h.size
  case body =>
    rintro l0 pre x a' W hl0 ⟨f, v, ns, av, hst, hns, h⟩ ⟨Bx, hBx, hbx, rfl⟩ hlen
    have cB := hbx.cell
    have cF := h.flag.cell
    have fF := h.flag.frozen
    have HJ0 := Lib.hid h
    have HBX := Lib.hid hbx
    have lW := h.size
    have lBx := hbx.lt
    cases f with
    | true =>
      obtain ⟨hw0, rfl, rfl⟩ := stateOf_true hst
      have HJ1 := Lib.hid (h.setFlag l1 l2 l3 (by omega) false)
      gi_wp2_with (first
        | (refine ⟨trivial, ?_⟩; gi_at_call 12; refine (CallsIn.inRound l0 (callsIn_wide.2 (allVerbs_any _))).mono ?_; rintro e w2 ⟨g, rfl, hv, hg, hb⟩; have HV := Lib.hid hv; have HG2 := Lib.hid hg; have HB2 := Lib.hid hb; have HX2 := Lib.hid (cell_below hb (Boxed.cell (Boxed.other hbx (by omega) (.bool false)))); have HJ2 := Lib.hid (HJ.below' HJ1.out hb); clear hv hg hb)
        | (refine ⟨trivial, ?_⟩; gi_at_call 11; refine (CallsIn.inRound l0 (callsIn_wide.2 (IndexVerb_any g Bx x.1.1 w2 HV.out HG2.out HX2.out))).mono ?_; rintro e w3 ⟨rfl, hb⟩; have HB3 := Lib.hid hb; have hJ3 := HJ.below' HJ2.out hb; have d0 := hJ3.deed.c0; have e0 := hJ3.deed.f0; have HJ3 := Lib.hid hJ3; clear hb hJ3))
      exact ⟨KeepsOthers.from ((((KeepsOthers.setCell _ _ _).trans (keeps_below HB2.out)).trans (keeps_below HB3.out)).trans (KeepsOthers.setCell _ _ _)) _,
        KpS_t (KpS_t (KpS_t (kps_set W 0 _ (by omega) (by omega) (by omega)) (kps_below HB2.out)) (kps_below HB3.out)) (kps_set w3 0 _ (by omega) (by omega) (by omega)),
        false, verbP x.1.1, [], av, by rw [wds_snoc, hw0]; rfl, Nat.zero_le _, HJ3.out.setVerb l1 l2 l3 (by omega) _⟩
    | false =>
      have HN := Lib.hid (number_any x.1.1 x.2 W (HG.out.below h.below))
      have HSN := Lib.hid (stateOf_snoc hst x.1.1)
      cases hn : numL x.1.1 with
      | none =>
        have HST := Lib.hid (show stateOf (wds (pre ++ [x])) = none by rw [wds_snoc, HSN.out, hn]; rfl)
        gi_wp2_with (refine ⟨trivial, ?_⟩; gi_at_call 14; refine (CallsIn.inRound l0 (callsIn_wide.2 HN.out)).mono ?_; rintro e w2 ⟨⟨y, rfl, hy⟩, hb⟩; rw [hn]; have hJ2 := HJ.below' HJ0.out hb; have r0 := hJ2.res.c0; have r1 := hJ2.res.c1; have g0 := hJ2.res.f0; have g1 := hJ2.res.f1; have q0 := hJ2.err.cell; have k0 := hJ2.err.frozen; have HJ2 := Lib.hid hJ2; have HB2 := Lib.hid hb; clear hb hJ2)
        exact ⟨KeepsOthers.from ((((keeps_below HB2.out).trans (KeepsOthers.setCell _ _ _)).trans (KeepsOthers.setCell _ _ _)).trans (KeepsOthers.setCell _ _ _)) _,
          HST.out, ((HJ2.out.res.set0 _).set1 _).other (by omega) _, (boxed_other1 l1 l2 l3 (by omega : F < W0.heap.size) (boxed_other1 l1 l2 l3 (by omega : F < W0.heap.size) HJ2.out.err (by omega)) (by omega)).set _,
          ((HJ2.out.below.setCell (p := ⟨w.heap.size, 0, none⟩) (Nat.le_refl _) _).setCell (p := ⟨w.heap.size, 1, none⟩) (Nat.le_refl _) _).setCell (p := ⟨E, 0, none⟩) (by show w.heap.size ≤ E; omega) _⟩
      | some n =>
        have HST := Lib.hid (show stateOf (wds (pre ++ [x])) = some (false, v, ns ++ [n]) by rw [wds_snoc, HSN.out, hn]; rfl)
        have hsl : (splitL l).length ≤ 401 := by have := splitAcc_len l []; show (splitAcc [] l).length ≤ 401; omega
        obtain ⟨i3, p3, q30, q31, q32⟩ := info_parts info3
        have HKD := Lib.hid (fun (w2 w3 : World) (y : Int) (h2 : HJ w W0.heap.size E D F w2 false v ns av) (hg : (w2.alloc (.cells #[.int .i64 y] 3)).grownBy w3 av.ownBlock) => Box2.kept (Box2.alloc h2.deed (.cells #[.int .i64 y] 3)) hg (fun e => by have := (h2.row.lt D e.symm).1; omega))
        gi_wp2_with (first
          | (refine ⟨trivial, ?_⟩; gi_at_call 14; refine (CallsIn.inRound l0 (callsIn_wide.2 HN.out)).mono ?_; rintro e w2 ⟨⟨y, rfl, hy⟩, hb⟩; rw [hn]; obtain rfl := hy n hn; have hJ2 := HJ.below' HJ0.out hb; have d1 := hJ2.deed.c1; have e1 := hJ2.deed.f1; have HJ2 := Lib.hid hJ2; have HB2 := Lib.hid hb; clear hb hJ2)
          | (gi_at_builtin; refine wpListIn_append_own _ rfl _ _ 22 rfl W0.heap.size 3 i3 (.int .i64 0) 1 8 Tryz.underlying22 p3 q30 q31 q32 rfl (by decide) av ns.length _ rfl (HJ2.out.row.alloc _) ⟨w2.heap.size, 0, none⟩ 1 1 [.int .i64 y] rfl rfl (new1 _ _ _) (one1 rfl) (by simp [maxLen]; omega) (by omega) (by have := HJ2.out.size; simp; omega) ?_; intro v' w3 hown' hgrow _; obtain ⟨ad', cap', rfl, hO2⟩ := push_int hown'; have hbx3 := HKD.out w2 w3 y HJ2.out hgrow; have k1 := hbx3.c1; have m1 := hbx3.f1; have HO2 := Lib.hid hO2; have HGR := Lib.hid hgrow; clear hown' hgrow hO2 hbx3))
        exact ⟨KeepsOthers.from ((((keeps_below HB2.out).trans (KeepsOthers.alloc _ _)).trans (keeps_row (HJ2.out.row.alloc _) HGR.out)).trans (KeepsOthers.setCell _ _ _)) _,
          KpS_t (KpS_t (KpS_t (kps_below HB2.out) (kps_below ((Below.refl _ w2).alloc (Nat.le_refl _) _))) (kps_grown (S := W0.heap.size) HGR.out (fun r e => (HJ2.out.row.lt r e).1) (by omega) (by omega) (by omega))) (kps_set w3 1 _ (by omega) (by omega) (by omega)),
          false, v, ns ++ [y], _, HST.out, by simp; omega, HJ.push l1 l2 l3 (by omega) (HJ2.out.alloc _) HGR.out HO2.out⟩
  case done =>
    rintro Dd ys W hDd hys ⟨f, v, ns, av, hst, hns, h⟩ hK
    rw [hys] at hst
    obtain ⟨ad2, cap2, rfl, hI⟩ := ints_of_row h.row
    have hlen : ns.length ≤ 400 := by
      have h1 := stateOf_len hst
      have h3 : (splitL l).length ≤ 401 := by have := splitAcc_len l []; show (splitAcc [] l).length ≤ 401; omega
      omega
    have c0 := h.deed.c0
    have c1 := h.deed.c1
    have HJ0 := Lib.hid h
    have HK := Lib.hid hK
    have HI0 := Lib.hid hI
    have HVAL := Lib.hid (valid_any v ad2 cap2 ns W W.heap.size (Nat.le_refl _) (by omega) hI)
    cases hok : validOK v ns with
    | false =>
      rw [hok] at HVAL
      have HHT := Lib.hid (show hearT l = (0, [], 121) by rw [hearT_state, hst]; simp [hok])
      gi_wp2_with (refine ⟨trivial, ?_⟩; gi_at_call 15; refine (callsIn_wide.2 HVAL.out).mono ?_; rintro e w2 ⟨rfl, hb⟩; have hJ2 := HJ.below' HJ0.out hb; have r0 := hJ2.res.c0; have r1 := hJ2.res.c1; have g0 := hJ2.res.f0; have g1 := hJ2.res.f1; have q0 := hJ2.err.cell; have k0 := hJ2.err.frozen; have HJ2 := Lib.hid hJ2; have HB2 := Lib.hid hb; clear hb hJ2)
      obtain ⟨X, hX⟩ : ∃ X, X = ((w2.setCell ⟨w.heap.size, 0, none⟩ (.int .i64 0)).setCell ⟨w.heap.size, 1, none⟩ (.slice none 0 0)).setCell ⟨E, 0, none⟩ (.int .i64 121) := ⟨_, rfl⟩
      have hR4 : Box2 X w.heap.size 24 (.int .i64 0) (.slice none 0 0) := by rw [hX]; exact ((HJ2.out.res.set0 _).set1 _).other (by omega) _
      have hE4 : Boxed X E 27 (.int .i64 121) := by rw [hX]; exact (boxed_other1 l1 l2 l3 (by omega : F < W0.heap.size) (boxed_other1 l1 l2 l3 (by omega : F < W0.heap.size) HJ2.out.err (by omega)) (by omega)).set _
      have hBX : Below w.heap.size w X := by rw [hX]; exact ((HJ2.out.below.setCell (p := ⟨w.heap.size, 0, none⟩) (Nat.le_refl _) _).setCell (p := ⟨w.heap.size, 1, none⟩) (Nat.le_refl _) _).setCell (p := ⟨E, 0, none⟩) (by show w.heap.size ≤ E; omega) _
      have hKX : X.heap[Dd]? = some (.deferred (some [])) := by
        rw [hX]
        exact (((KeepsOthers.setCell w2 ⟨w.heap.size, 0, none⟩ _).trans (KeepsOthers.setCell _ ⟨w.heap.size, 1, none⟩ _)).trans (KeepsOthers.setCell _ ⟨E, 0, none⟩ _)).same Dd _ ((HB2.out.block Dd (Array.getElem?_eq_some_iff.1 HK.out).1).trans HK.out) rfl
      have hcR := hR4.kept (grownBy_putObj' X Dd (.deferred none)) (fun e => by cases e; omega)
      have hcE := hE4.kept (grownBy_putObj' X Dd (.deferred none)) (fun e => by cases e; omega)
      have hBY : Below w.heap.size w (X.putObj Dd (.deferred none)) := hBX.grown (grownBy_putObj' X Dd _) hBX.size (fun k e => by cases e; omega)
      have hc0 := hcR.c0
      have hc1 := hcR.c1
      have hc2 := hcE.cell
      show bodyPostM Fence.wide 3 Tryz.prog Tryz.f5 _ Exit.ret _ _
      rw [← hX]
      refine ⟨by simp, .inl ⟨_, _, rfl, run_takeDeferred hKX, ?_⟩⟩
      refine ⟨.tuple #[.agg #[(.int .i64 0), (.slice none 0 0)], .int .i64 121], ?_, ⟨0, [], none, 0, 121, rfl, HHT.out, by simp, fun i hi => absurd hi (by simp), hBY⟩⟩
      simp [results, Tryz.f5, go_sem, hc0, hc1, hc2]
    | true =>
      rw [hok] at HVAL
      have HHT := Lib.hid (show hearT l = (v, ns, 0) by rw [hearT_state, hst]; simp [hok])
      gi_wp2_with (refine ⟨trivial, ?_⟩; gi_at_call 15; refine (callsIn_wide.2 HVAL.out).mono ?_; rintro e w2 ⟨rfl, hb⟩; have hJ2 := HJ.below' HJ0.out hb; have r0 := hJ2.res.c0; have r1 := hJ2.res.c1; have g0 := hJ2.res.f0; have g1 := hJ2.res.f1; have q0 := hJ2.err.cell; have k0 := hJ2.err.frozen; have d0 := hJ2.deed.c0; have d1 := hJ2.deed.c1; have HJ2 := Lib.hid hJ2; have HB2 := Lib.hid hb; clear hb hJ2)
      obtain ⟨X, hX⟩ : ∃ X, X = ((w2.setCell ⟨w.heap.size, 0, none⟩ (.int .i64 v)).setCell ⟨w.heap.size, 1, none⟩ (.slice ad2 ns.length cap2)).setCell ⟨E, 0, none⟩ (.int .i64 0) := ⟨_, rfl⟩
      have hR4 : Box2 X w.heap.size 24 (.int .i64 v) (.slice ad2 ns.length cap2) := by rw [hX]; exact ((HJ2.out.res.set0 _).set1 _).other (by omega) _
      have hE4 : Boxed X E 27 (.int .i64 0) := by rw [hX]; exact (boxed_other1 l1 l2 l3 (by omega : F < W0.heap.size) (boxed_other1 l1 l2 l3 (by omega : F < W0.heap.size) HJ2.out.err (by omega)) (by omega)).set _
      have hBX : Below w.heap.size w X := by rw [hX]; exact ((HJ2.out.below.setCell (p := ⟨w.heap.size, 0, none⟩) (Nat.le_refl _) _).setCell (p := ⟨w.heap.size, 1, none⟩) (Nat.le_refl _) _).setCell (p := ⟨E, 0, none⟩) (by show w.heap.size ≤ E; omega) _
      have hKX : X.heap[Dd]? = some (.deferred (some [])) := by
        rw [hX]
        exact (((KeepsOthers.setCell w2 ⟨w.heap.size, 0, none⟩ _).trans (KeepsOthers.setCell _ ⟨w.heap.size, 1, none⟩ _)).trans (KeepsOthers.setCell _ ⟨E, 0, none⟩ _)).same Dd _ ((HB2.out.block Dd (Array.getElem?_eq_some_iff.1 HK.out).1).trans HK.out) rfl
      have hO4 : X.ownsRow W0.heap.size 3 1 (.slice ad2 ns.length cap2) ns.length (ns.map (Value.int .i64)) := by
        rw [hX]
        exact ownsRow_setCell_below (a := ⟨E, 0, none⟩) (ownsRow_setCell_below (a := ⟨w.heap.size, 1, none⟩) (ownsRow_setCell_below (a := ⟨w.heap.size, 0, none⟩) HJ2.out.row (by show w.heap.size < _; omega) _) (by show w.heap.size < _; omega) _) (by show E < _; omega) _
      have hO5 := ownsRow_putObj hO4 (.deferred none) hKX rfl
      have hcR := hR4.kept (grownBy_putObj' X Dd (.deferred none)) (fun e => by cases e; omega)
      have hcE := hE4.kept (grownBy_putObj' X Dd (.deferred none)) (fun e => by cases e; omega)
      have hBY : Below w.heap.size w (X.putObj Dd (.deferred none)) := hBX.grown (grownBy_putObj' X Dd _) hBX.size (fun k e => by cases e; omega)
      have hc0 := hcR.c0
      have hc1 := hcR.c1
      have hc2 := hcE.cell
      show bodyPostM Fence.wide 3 Tryz.prog Tryz.f5 _ Exit.ret _ _
      rw [← hX]
      refine ⟨by simp, .inl ⟨_, _, rfl, run_takeDeferred hKX, ?_⟩⟩
      refine ⟨.tuple #[.agg #[(.int .i64 v), (.slice ad2 ns.length cap2)], .int .i64 0], ?_, ⟨v, ns, ad2, cap2, 0, rfl, HHT.out, by omega, ints_row hO5, hBY⟩⟩
      simp [results, Tryz.f5, go_sem, hc0, hc1, hc2]
  case stop =>
    rintro Dd pre W hDd hpre ⟨hst, hR4, hE4, hBX⟩ hKX
    have HHT := Lib.hid (show hearT l = (0, [], 121) by rw [hearT_state, stateOf_prefix hpre hst])
    have hcR := hR4.kept (grownBy_putObj' W Dd (.deferred none)) (fun e => by cases e; omega)
    have hcE := hE4.kept (grownBy_putObj' W Dd (.deferred none)) (fun e => by cases e; omega)
    have hBY : Below w.heap.size w (W.putObj Dd (.deferred none)) := hBX.grown (grownBy_putObj' W Dd _) hBX.size (fun k e => by cases e; omega)
    have hc0 := hcR.c0
    have hc1 := hcR.c1
    have hc2 := hcE.cell
    gi_wp2
    show bodyPostM Fence.wide 3 Tryz.prog Tryz.f5 _ Exit.ret _ _
    refine ⟨by simp, .inl ⟨_, _, rfl, run_takeDeferred hKX, ?_⟩⟩
    refine ⟨.tuple #[.agg #[.int .i64 0, .slice none 0 0], .int .i64 121], ?_, ⟨0, [], none, 0, 121, rfl, HHT.out, by simp, fun i hi => absurd hi (by simp), hBY⟩⟩
    simp [results, Tryz.f5, go_sem, hc0, hc1, hc2]
end Go.Proofs.YtciljkcicfphdaaGreatDoor
