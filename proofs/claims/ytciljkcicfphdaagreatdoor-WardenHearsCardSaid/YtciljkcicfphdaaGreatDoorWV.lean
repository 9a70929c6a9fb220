/- The program's test of a deed answers as deedOK does; for every verb and every list of at most 400 numbers. -/
import Derived.Test.YtciljkcicfphdaaGreatDoorVH
import Derived.Test.YtciljkcicfphdaaGreatDoorW8
import Derived.Test.YtciljkcicfphdaaGreatDoorBX
import Derived.Test.YtciljkcicfphdaaGreatDoorEQ
import Derived.Deep.RegionWith
import Derived.Deep.DeepCutAuto
namespace Go.Proofs.YtciljkcicfphdaaGreatDoor
open Go.RowKit
theorem extract6 (l : List Value) (k : Nat) : (l.toArray.extract k (k + 6)) = ((l.drop k).take 6).toArray := by
  simp [List.extract_toArray, List.extract_eq_take_drop]
theorem drop6 (L : Nat → Value × Value) {v : Nat} (hv : v < 24) : ((verbAll L).drop (6 * v)).take 6 = verbRow L v := by
  apply List.ext_getElem?
  intro j
  by_cases hj : j < 6
  · rw [List.getElem?_take_of_lt hj, List.getElem?_drop, verbAll_at L hv hj]
  · rw [List.getElem?_take_eq_none (by omega), List.getElem?_eq_none (by show 6 ≤ j; omega)]
theorem verbs_index (L : Nat → Value × Value) (v : Int) (h : wn v 1 23 = true) (w : World) : (Instr.index 57 (.agg (verbAll L).toArray) (.int .i64 v)).run Tryz.prog w = .ok (.agg #[.string ⟨(word v.toNat).toArray⟩, .int .i64 (lo v.toNat), .int .i64 (hi v.toNat), .int .i64 (st v.toNat), (L v.toNat).1, (L v.toNat).2]) w := by
  simp [wn] at h
  have hd := drop6 L (v := v.toNat) (by omega)
  have e := extract6 (verbAll L) (6 * v.toNat)
  rw [hd] at e
  have e2 : (verbAll L).toArray.extract (v.toNat * 6) (v.toNat * 6 + 6) = (verbRow L v.toNat).toArray := by rw [Nat.mul_comm]; exact e
  simp [Instr.index, go_sem]
  rw [if_pos (by omega), Nat.mul_comm, hd]
  rfl
theorem zero46 : (Tryz.prog.info? 46).map (fun i => (i.zero, i.size)) = some (some (.agg zero6.toArray), 6) := by kernel_rfl
theorem there46 (w : World) : (w.alloc (.cells zero6.toArray 46)).there w.heap.size 0 6 := there_block (heap_alloc_new w (.cells zero6.toArray 46))
/-- the deed's own box and the verb's box, when the program's test has come to the table -/
structure Table (w W : World) (v : Int) (a : Value) (E : Nat) : Prop where
  box : Box2 W w.heap.size 24 (.int .i64 v) a
  lo : W.cell? ⟨E, 1, none⟩ = some (.int .i64 (lo v.toNat))
  hi : W.cell? ⟨E, 2, none⟩ = some (.int .i64 (hi v.toNat))
  st : W.cell? ⟨E, 3, none⟩ = some (.int .i64 (st v.toNat))
  below : Below w.heap.size w W
theorem two_left (v : Int) (h : wn v 1 23 = true) (hn : ¬ (lo v.toNat = hi v.toNat ∧ st v.toNat = 1)) : v = 10 ∨ v = 13 := by
  simp [wn] at h
  have : ∀ k, k < 24 → 1 ≤ k → ¬ (lo k = hi k ∧ st k = 1) → k = 10 ∨ k = 13 := by decide +kernel
  have := this v.toNat (by omega) (by omega) hn
  omega
theorem six_one (s : ByteArray) (a b c : Int) {l1 l2 : Value} (h1 : l1.oneCell' = true) (h2 : l2.oneCell' = true) : (#[.string s, .int .i64 a, .int .i64 b, .int .i64 c, l1, l2] : Array Value).all (·.oneCell') = true := by
  refine all_oneCell_toArray (cs := [.string s, .int .i64 a, .int .i64 b, .int .i64 c, l1, l2]) fun v hv => ?_
  simp only [List.mem_cons, List.not_mem_nil, or_false] at hv
  rcases hv with rfl | rfl | rfl | rfl | rfl | rfl
  · rfl
  · rfl
  · rfl
  · rfl
  · exact h1
  · exact h2
theorem there_below {w w' : World} {g o n C : Nat} (h : w.there g o n) (hb : Below C w w') (hg : g < C) : w'.there g o n := fun j hj => by
  rw [hb.cell (p := ⟨g, o + j, none⟩) hg, hb.frozen (p := ⟨g, o + j, none⟩) hg]
  exact h j hj
theorem box_set {W : World} {D E o : Nat} {t : TypeId} {x y : Value} {vs : List Value} (h : Box2 W D t x y) (hne : D < E) : Box2 (W.setCells E o vs) D t x y := h.kept (grownBy_setCells E vs o W) (fun e => by cases e; omega)
theorem table_mk {w W : World} {v : Int} {a : Value} {E : Nat} {x l1 l2 : Value} (hx : Box2 W w.heap.size 24 (.int .i64 v) a) (hE : w.heap.size < E) (ht : W.there E 0 6) (hb : Below w.heap.size w W) :
    Table w (W.setCells E 0 [x, .int .i64 (lo v.toNat), .int .i64 (hi v.toNat), .int .i64 (st v.toNat), l1, l2]) v a E := by
  have hr := World.rangeAt_setCells_same W E 0 [x, .int .i64 (lo v.toNat), .int .i64 (hi v.toNat), .int .i64 (st v.toNat), l1, l2] ht
  exact ⟨box_set hx hE, hr 1 _ rfl, hr 2 _ rfl, hr 3 _ rfl, hb.grown (grownBy_setCells _ _ _ _) hb.size (fun k e => by cases e; omega)⟩
set_option maxRecDepth 100000 in
set_option maxHeartbeats 2000000 in
theorem valid_any (v : Int) (ad : Option Addr) (cap : Nat) (xs : List Int) (w : World) (B : Nat) (hB : B ≤ w.heap.size) (hl : xs.length ≤ 400) (h : IntsAt w B ad xs) :
    Calls Tryz.prog 15 #[.agg #[.int .i64 v, .slice ad xs.length cap]] w fun e w' => e = .returned (.bool (validOK v xs)) ∧ Below w.heap.size w w' := by
  have HX0 := Lib.hid (Box2.new w 24 (.int .i64 v) (.slice ad xs.length cap))
  have HW0 := Lib.hid (((Below.refl w.heap.size w).alloc (Nat.le_refl _) (.cells #[.int .i64 v, .slice ad xs.length cap] 24)).alloc (by simp) (.cells #[.int .i64 v] 3))
  have HH := Lib.hid h
  clear h
  have H1 := Lib.hid (in_one 1 23 v (w.heap.size + 1) ((w.alloc (.cells #[.int .i64 v, .slice ad xs.length cap] 24)).alloc (.cells #[.int .i64 v] 3)) (by simp) (by simp))
  cases hv : wn v 1 23 with
  | false =>
    have HV := Lib.hid (show validOK v xs = false by simp [validOK, hv])
    unfold in1 at H1
    rw [hv] at H1
    clear hv
    go_enter Tryz.func15, Tryz.ntmps15
    go_wp2_with (go_at_call 27; refine H1.out.mono ?_; rintro e w1 ⟨rfl, hb⟩; have HB := Lib.hid hb; clear hb)
    go_ret
    exact ⟨ret_b HV.out.symm, HW0.out.trans (HB.out.mono (by simp; omega))⟩
  | true =>
    have HVV := Lib.hid hv
    unfold in1 at H1
    rw [hv] at H1
    cases hall : xs.all (fun n => wn n 0 999999999) with
    | false =>
      have HV := Lib.hid (show validOK v xs = false by simp only [validOK, hv, hall]; rfl)
      have HALL := Lib.hid hall
      clear hv hall
      go_enter Tryz.func15, Tryz.ntmps15
      go_wp2_with (first
        | (go_at_call_of 27 (Value.slice ad xs.length cap); refine (in_any 0 999999999 ad cap xs _ B (Nat.le_trans hB (HW1.out.size)) (by omega) (HH.out.below HW1.out hB)).mono ?_; rw [HALL.out]; rintro e w2 ⟨rfl, hb⟩; have HB2 := Lib.hid hb; clear hb)
        | (go_at_call 27; refine H1.out.mono ?_; rintro e w1 ⟨rfl, hb⟩; have HX1 := Lib.hid ((HX0.out.alloc (.cells #[.int .i64 v] 3)).below hb (by simp; omega)); have c0 := HX1.out.c0; have c1 := HX1.out.c1; have HW1 := Lib.hid (HW0.out.trans (hb.mono (by simp; omega))); clear hb))
      go_ret
      exact ⟨ret_b HV.out.symm, HW1.out.trans (HB2.out.mono HW1.out.size)⟩
    | true =>
      have HV := Lib.hid (show validOK v xs = fitOK v.toNat xs by simp only [validOK, hv, hall, Bool.true_and])
      have HALL := Lib.hid hall
      have HVT := Lib.hid (show v.toNat < 24 by simp [wn] at hv; omega)
      clear hv hall
      go_enter Tryz.func15, Tryz.ntmps15
      go_upto_region 3 with (first
        | (go_at_call_of 27 (Value.slice ad xs.length cap); refine (in_any 0 999999999 ad cap xs _ B (Nat.le_trans hB (HW1.out.size)) (by omega) (HH.out.below HW1.out hB)).mono ?_; rw [HALL.out]; rintro e w2 ⟨rfl, hb⟩; have HX2 := Lib.hid (HX1.out.below hb HX1.out.lt); have HW2 := Lib.hid (HW1.out.trans (hb.mono HW1.out.size)); clear hb)
        | (go_at_call 27; refine H1.out.mono ?_; rintro e w1 ⟨rfl, hb⟩; have HX1 := Lib.hid ((HX0.out.alloc (.cells #[.int .i64 v] 3)).below hb (by simp; omega)); have c0 := HX1.out.c0; have c1 := HX1.out.c1; have HW1 := Lib.hid (HW0.out.trans (hb.mono (by simp; omega))); clear hb))
      go_cut [3] (fun s3 wx => ∃ E, s3 = .pointer (some ⟨E, 0, none⟩) ∧ Table w wx v (.slice ad xs.length cap) E)
      case first =>
        have hS : (fun W : World => W.cell? ⟨w.heap.size, 0, none⟩ = some (.int .i64 v) ∧ W.cell? ⟨w.heap.size, 1, none⟩ = some (.slice ad xs.length cap)) w2.drew := ⟨HX2.out.c0, HX2.out.c1⟩
        have hz := (zero_of_info zero46).1
        have HX2d : Hid (Box2 w2.drew w.heap.size 24 (.int .i64 v) (.slice ad xs.length cap)) := HX2
        have HW2d := Lib.hid HW2.out.drew
        refine wp_region_held_drew (S := fun W => W.cell? ⟨w.heap.size, 0, none⟩ = some (.int .i64 v) ∧ W.cell? ⟨w.heap.size, 1, none⟩ = some (.slice ad xs.length cap)) (by kernel_rfl) hS (fun _ => ?_)
        refine wpAnyH_take (i := 1) (v := ?_) rfl (by kernel_rfl) (by kernel_rfl) (by kernel_rfl) (fun _ _ _ h => h) (Or.inl ⟨by rfl, ?_⟩) hS ?_
        rotate_left 1
        · rintro w ⟨s0, s1⟩
          go_simp
          with_reducible rfl
        refine wpAnyH_take (i := 2) (v := ?_) rfl (by kernel_rfl) (by kernel_rfl) (by kernel_rfl) (fun _ _ _ h => h) (Or.inl ⟨by rfl, ?_⟩) hS ?_
        rotate_left 1
        · rintro w ⟨s0, s1⟩
          go_simp
          with_reducible rfl
        refine wpAnyH_ready (rs := [0, 4]) (by kernel_rfl) (by simp) ?_
        refine AllReadyH.cons rfl (fun K hK => ?_) (AllReadyH.cons rfl (fun K hK => ?_) AllReadyH.nil)
        · go_simp
          go_wp2_with (go_at_call 21; refine (verbs_any _).mono ?_; rintro e w3 ⟨L, rfl, hL, hb⟩; have HL := Lib.hid hL; have HX3 := Lib.hid (HX2d.out.below hb HX2d.out.lt); have HW3 := Lib.hid (HW2d.out.trans (hb.mono HW2d.out.size)); clear hL hb)
          refine hK.out _ _ ⟨HX3.out.c0, HX3.out.c1⟩ (fun hS => ?_)
          clear hK K
          have hidx := verbs_index L v HVV.out
          refine wpAnyH_take (i := 3) (v := ?_) rfl (by kernel_rfl) (by kernel_rfl) (by kernel_rfl) (fun _ _ _ h => h) (Or.inl ⟨by rfl, ?_⟩) hS ?_
          rotate_left 1
          · rintro w ⟨s0, s1⟩
            go_simp
            with_reducible rfl
          refine wpAnyH_ready (rs := [4]) (by kernel_rfl) (by simp) ?_
          refine AllReadyH.cons rfl (fun K hK => ?_) AllReadyH.nil
          go_simp
          refine hK.out _ _ ⟨(HX3.out.alloc _).c0, (HX3.out.alloc _).c1⟩ (fun hS => ?_)
          clear hK K
          refine wpAnyH_ready (rs := [5]) (by kernel_rfl) (by simp) ?_
          refine AllReadyH.cons rfl (fun K hK => ?_) AllReadyH.nil
          refine step_store_mid rfl 46 (.tmp 3) (.tmp 20) rfl w3.heap.size 0 _ rfl rfl (there46 w3) info46 (six_one _ _ _ _ (HL.out v.toNat HVT.out).1 (HL.out v.toNat HVT.out).2) ?_
          refine hK.out _ _ ⟨(Box2.c0 (box_set (HX3.out.alloc _) HX3.out.lt)), (Box2.c1 (box_set (HX3.out.alloc _) HX3.out.lt))⟩ (fun hS => ?_)
          clear hK K
          refine wpAnyH_done (by kernel_rfl) ?_ _
          go_wp2_with fail
          go_meet
          exact ⟨_, rfl, table_mk (HX3.out.alloc _) HX3.out.lt (there46 w3) (HW3.out.alloc HW3.out.size _)⟩
        · go_simp
          have HX3 := Lib.hid (HX2d.out.alloc (.cells zero6.toArray 46))
          have HW3 := Lib.hid (HW2d.out.alloc HW2d.out.size (.cells zero6.toArray 46))
          refine hK.out _ _ ⟨HX3.out.c0, HX3.out.c1⟩ (fun hS => ?_)
          clear hK K
          refine wpAnyH_ready (rs := [0]) (by kernel_rfl) (by simp) ?_
          refine AllReadyH.cons rfl (fun K hK => ?_) AllReadyH.nil
          go_simp
          go_wp2_with (go_at_call 21; refine (verbs_any _).mono ?_; rintro e w4 ⟨L, rfl, hL, hb⟩; have HL := Lib.hid hL; have HX4 := Lib.hid (HX3.out.below hb HX3.out.lt); have HW4 := Lib.hid (HW3.out.trans (hb.mono HW3.out.size)); have HT4 := Lib.hid (there_below (there46 w2.drew) hb (by simp)); clear hL hb)
          refine hK.out _ _ ⟨HX4.out.c0, HX4.out.c1⟩ (fun hS => ?_)
          clear hK K
          have hidx := verbs_index L v HVV.out
          refine wpAnyH_take (i := 3) (v := ?_) rfl (by kernel_rfl) (by kernel_rfl) (by kernel_rfl) (fun _ _ _ h => h) (Or.inl ⟨by rfl, ?_⟩) hS ?_
          rotate_left 1
          · rintro w ⟨s0, s1⟩
            go_simp
            with_reducible rfl
          refine wpAnyH_ready (rs := [5]) (by kernel_rfl) (by simp) ?_
          refine AllReadyH.cons rfl (fun K hK => ?_) AllReadyH.nil
          refine step_store_mid rfl 46 (.tmp 3) (.tmp 20) rfl w2.heap.size 0 _ rfl rfl HT4.out info46 (six_one _ _ _ _ (HL.out v.toNat HVT.out).1 (HL.out v.toNat HVT.out).2) ?_
          refine hK.out _ _ ⟨(Box2.c0 (box_set HX4.out HX2.out.lt)), (Box2.c1 (box_set HX4.out HX2.out.lt))⟩ (fun hS => ?_)
          clear hK K
          refine wpAnyH_done (by kernel_rfl) ?_ _
          go_wp2_with fail
          go_meet
          exact ⟨_, rfl, table_mk HX4.out HX2.out.lt HT4.out HW4.out⟩
      case rest =>
        obtain ⟨E, rfl, T⟩ := hcut
        have c0 := T.box.c0
        have c1 := T.box.c1
        have e1 := T.lo
        have e2 := T.hi
        have e3 := T.st
        have HI := Lib.hid (HH.out.below T.below hB)
        have HTB := Lib.hid T.below
        have hElt := cell_lt e1
        have hDlt := T.box.lt
        have hq3 := eq3
        clear T
        by_cases hone : lo v.toNat = hi v.toNat ∧ st v.toNat = 1
        · have HF := Lib.hid (show fitOK v.toNat xs = (decide ((xs.length : Int) = lo v.toNat) && (!decide (v.toNat = 17) || decide (xs.getD 2 0 ≤ 1))) by rw [fitOK, if_pos hone])
          have H17 := Lib.hid (show v = 17 → lo v.toNat = 3 by rintro rfl; rfl)
          rw [← hone.1] at e2
          rw [hone.2] at e3
          clear hone
          obtain ⟨a, ha⟩ : ∃ a, a = lo v.toNat := ⟨_, rfl⟩
          rw [← ha] at e1 e2 HF H17
          clear ha
          by_cases hn : (xs.length : Int) = a
          · subst hn
            by_cases h17 : v = 17
            · have h3 : (xs.length : Int) = 3 := H17.out h17
              have h2 : 2 < xs.length := by omega
              obtain ⟨b, off, rfl, hb, c2⟩ := HI.out 2 h2
              have hblt := cell_lt c2
              have E2 : xs.getD 2 0 = xs[2] := by simp [List.getD, h2]
              have HF2 := Lib.hid (show validOK v xs = decide (xs[2] ≤ 1) by rw [HV.out, HF.out, E2]; subst h17; simp)
              subst h17
              go_wp2_with fail
              go_ret
              exact ⟨ret_b HF2.out.symm, HTB.out.alloc HTB.out.size _⟩
            · have HF2 := Lib.hid (show validOK v xs = true by
                have : ¬ v.toNat = 17 := fun e => h17 (by have := HVV.out; simp [wn] at this; omega)
                rw [HV.out, HF.out]
                simp [this])
              have h17' : (v == 17) = false := by simpa using h17
              go_wp2_with fail
              go_ret
              exact ⟨ret_b HF2.out.symm, HTB.out.alloc HTB.out.size _⟩
          · have HF2 := Lib.hid (show validOK v xs = false by
              have : decide ((xs.length : Int) = a) = false := by simpa using hn
              rw [HV.out, HF.out, this]
              rfl)
            have hn' : ((xs.length : Int) == a) = false := by simpa using hn
            clear hn
            go_wp2_with fail
            go_ret
            exact ⟨ret_b HF2.out.symm, HTB.out.alloc HTB.out.size _⟩
        · have HF := Lib.hid (show fitOK v.toNat xs = (wn xs.length (lo v.toNat) (hi v.toNat) && (decide (((xs.length : Int) - lo v.toNat).tmod (st v.toNat) = 0) && (!decide (v.toNat = 10) || decide (xs.getD 2 0 ≤ 1)))) by rw [fitOK, if_neg hone])
          rcases two_left v HVV.out hone with rfl | rfl
          · have e1' : wc.cell? ⟨E, 1, none⟩ = some (.int .i64 4) := e1
            have e2' : wc.cell? ⟨E, 2, none⟩ = some (.int .i64 8) := e2
            have e3' : wc.cell? ⟨E, 3, none⟩ = some (.int .i64 1) := e3
            have HF1 : Hid (fitOK (10 : Int).toNat xs = (wn xs.length 4 8 && (decide (((xs.length : Int) - 4).tmod 1 = 0) && (!decide (10 = 10) || decide (xs.getD 2 0 ≤ 1))))) := HF
            clear e1 e2 e3 hone HF
            cases hw : wn (xs.length : Int) 4 8 with
            | false => 
              have HF2 := Lib.hid (show validOK 10 xs = false by rw [HV.out, HF1.out, hw]; rfl)
              have HW := Lib.hid hw
              clear hw
              go_wp2_with (go_at_call 27; refine (in_one 4 8 xs.length (wc.heap.size + 1) _ (by simp) (by simp)).mono ?_; unfold in1; rw [HW.out]; rintro e w5 ⟨rfl, hb⟩; have HB5 := Lib.hid hb; clear hb)
              go_ret
              exact ⟨ret_b HF2.out.symm, ((HTB.out.alloc HTB.out.size _).alloc (by have := HTB.out.size; simp; omega) _).trans (HB5.out.mono (by have := HTB.out.size; simp; omega))⟩
            | true =>
              have h2 : 2 < xs.length := by simp [wn] at hw; omega
              obtain ⟨b, off, rfl, hb, c2⟩ := HI.out 2 h2
              have hblt := cell_lt c2
              have E2 : xs.getD 2 0 = xs[2] := by simp [List.getD, h2]
              have HF2 := Lib.hid (show validOK 10 xs = decide (xs[2] ≤ 1) by rw [HV.out, HF1.out, hw, E2]; simp)
              have HW := Lib.hid hw
              have ht : ((xs.length : Int) - 4).tmod 1 = 0 := by simp
              have hr4 : 4 ≤ (xs.length : Int) := by simp [wn] at hw; omega
              clear hw
              go_wp2_with (go_at_call 27; refine (in_one 4 8 xs.length (wc.heap.size + 1) _ (by simp) (by simp)).mono ?_; unfold in1; rw [HW.out]; rintro e w5 ⟨rfl, hb⟩; have q1 := cell_below hb (cell_alloc _ (cell_alloc _ e1')); have q2 := cell_below hb (cell_alloc _ (cell_alloc _ e2')); have q3 := cell_below hb (cell_alloc _ (cell_alloc _ e3')); have q4 := cell_below hb (cell_alloc _ (cell_alloc _ c0)); have q5 := cell_below hb (cell_alloc _ (cell_alloc _ c1)); have q6 := cell_below hb (cell_alloc _ (cell_alloc _ c2)); have HB5 := Lib.hid hb; clear hb)
              go_ret
              exact ⟨ret_b HF2.out.symm, ((HTB.out.alloc HTB.out.size _).alloc (by have := HTB.out.size; simp; omega) _).trans (HB5.out.mono (by have := HTB.out.size; simp; omega))⟩
          · have e1' : wc.cell? ⟨E, 1, none⟩ = some (.int .i64 5) := e1
            have e2' : wc.cell? ⟨E, 2, none⟩ = some (.int .i64 15) := e2
            have e3' : wc.cell? ⟨E, 3, none⟩ = some (.int .i64 2) := e3
            have HF1 : Hid (fitOK (13 : Int).toNat xs = (wn xs.length 5 15 && (decide (((xs.length : Int) - 5).tmod 2 = 0) && (!decide (13 = 10) || decide (xs.getD 2 0 ≤ 1))))) := HF
            clear e1 e2 e3 hone HF
            cases hw : wn (xs.length : Int) 5 15 with
            | false =>
              have HF2 := Lib.hid (show validOK 13 xs = false by rw [HV.out, HF1.out, hw]; rfl)
              have HW := Lib.hid hw
              clear hw
              go_wp2_with (go_at_call 27; refine (in_one 5 15 xs.length (wc.heap.size + 1) _ (by simp) (by simp)).mono ?_; unfold in1; rw [HW.out]; rintro e w5 ⟨rfl, hb⟩; have HB5 := Lib.hid hb; clear hb)
              go_ret
              exact ⟨ret_b HF2.out.symm, ((HTB.out.alloc HTB.out.size _).alloc (by have := HTB.out.size; simp; omega) _).trans (HB5.out.mono (by have := HTB.out.size; simp; omega))⟩
            | true =>
              have hr4 : 5 ≤ (xs.length : Int) := by simp [wn] at hw; omega
              have HF2 := Lib.hid (show validOK 13 xs = decide (((xs.length : Int) - 5) % 2 = 0) by rw [HV.out, HF1.out, hw, Int.tmod_eq_emod_of_nonneg (by omega)]; simp)
              have HW := Lib.hid hw
              clear hw
              by_cases hm : ((xs.length : Int) - 5) % 2 = 0
              all_goals
                have HM := Lib.hid hm
                go_wp2_with (go_at_call 27; refine (in_one 5 15 xs.length (wc.heap.size + 1) _ (by simp) (by simp)).mono ?_; unfold in1; rw [HW.out]; rintro e w5 ⟨rfl, hb⟩; have q1 := cell_below hb (cell_alloc _ (cell_alloc _ e1')); have q2 := cell_below hb (cell_alloc _ (cell_alloc _ e2')); have q3 := cell_below hb (cell_alloc _ (cell_alloc _ e3')); have q4 := cell_below hb (cell_alloc _ (cell_alloc _ c0)); have q5 := cell_below hb (cell_alloc _ (cell_alloc _ c1)); have HB5 := Lib.hid hb; clear hb)
                go_ret
                exact ⟨ret_b (by rw [HF2.out]; simp [HM.out]), ((HTB.out.alloc HTB.out.size _).alloc (by have := HTB.out.size; simp; omega) _).trans (HB5.out.mono (by have := HTB.out.size; simp; omega))⟩
end Go.Proofs.YtciljkcicfphdaaGreatDoor
