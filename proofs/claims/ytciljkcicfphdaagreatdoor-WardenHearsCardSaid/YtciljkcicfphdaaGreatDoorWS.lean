/- The program's Speak answers as speakT says; for every verb and every list of at most 400 numbers, in a world that holds the library's variables. -/
import Derived.Test.YtciljkcicfphdaaGreatDoorWV
import Derived.Test.YtciljkcicfphdaaGreatDoorW5
import Derived.Test.YtciljkcicfphdaaGreatDoorShp
import Derived.Deep.RegionHeld
import Derived.Deep.DeepCutAuto
namespace Go.Proofs.YtciljkcicfphdaaGreatDoor
open Go.RowKit
theorem var_below {P : Program} {w w' : World} {name : String} {cs : Array Value} (hb : Below w.heap.size w w') (h : w.var? P name = some cs) : w'.var? P name = some cs := by
  unfold World.var? at h ⊢
  cases hg : P.globalNamed name with
  | none => rw [hg] at h; cases h
  | some g =>
    rw [hg] at h
    simp only [Option.bind_some] at h ⊢
    have hlt : g < w.heap.size := by
      cases hh : w.heap[g]? with
      | none => rw [hh] at h; cases h
      | some o => exact (Array.getElem?_eq_some_iff.1 hh).1
    rw [hb.block g hlt]; exact h
/-- what the walks ask of the package-level variables -/
structure Glob (w : World) : Prop where
  syn : ∃ tp p, w.var? Tryz.prog "strconv.ErrSyntax" = some #[.iface tp p]
  rng : ∃ tp p, w.var? Tryz.prog "strconv.ErrRange" = some #[.iface tp p]
  pow : Lib.TabIs Tryz.prog w "internal/strconv.uint64pow10" .u64 Lib.pow10Tab
  max : ∃ m, w.cell? ⟨2, 0, none⟩ = some (.int .i64 m)
theorem Glob.below {w w' : World} (h : Glob w) (hb : Below w.heap.size w w') : Glob w' := by
  obtain ⟨⟨t1, p1, h1⟩, ⟨t2, p2, h2⟩, h3, m, h4⟩ := h
  exact ⟨⟨t1, p1, var_below hb h1⟩, ⟨t2, p2, var_below hb h2⟩, var_below hb h3, m, cell_below hb h4⟩
theorem grow_below (w : World) (k : Nat) (os : Array Obj) : Below w.heap.size w (Go.Sort.grow (w.drewN k) os) := by
  refine ⟨rfl, rfl, rfl, ?_, fun i hi => ?_⟩
  · show w.heap.size ≤ (w.heap ++ os).size
    simp
  · show (w.heap ++ os)[i]? = _
    rw [Array.getElem?_append_left hi]
theorem Itoa_int (x : Int) (h : wn x 0 999999999 = true) (w : World) (hG : Glob w) : Calls Tryz.prog 30 #[.int .i64 x] w fun e w' => e = .returned (bstr (Lib.decDigits x.toNat)) ∧ Below w.heap.size w w' := by
  simp [wn] at h
  refine (Tryz.strconv_Itoa x (by omega) (by omega) w hG.pow).mono ?_
  rintro e w' ⟨rfl, k, os, rfl⟩
  exact ⟨ret_s (by rw [Lib.itoa, if_neg (by omega)]), grow_below _ _ _⟩
set_option maxRecDepth 100000 in
set_option maxHeartbeats 2000000 in
theorem said_any (v : Nat) (ad : Option Addr) (cap : Nat) (xs : List Int) (w : World) (B : Nat) (hB : B ≤ w.heap.size) (hl : xs.length ≤ 400) (hall : xs.all (fun n => wn n 0 999999999) = true) (h : IntsAt w B ad xs) (hG : Glob w) :
    Calls Tryz.prog 20 #[.string ⟨(word v).toArray⟩, .slice ad xs.length cap] w fun e w' => e = .returned (bstr (word v ++ tellL xs)) ∧ Below w.heap.size w w' := by
  have HALL := Lib.hid hall
  have HH := Lib.hid h
  have HG := Lib.hid hG
  clear hall h hG
  go_enter Tryz.func20, Tryz.ntmps20
  go_wp2
  go_loopw [9, 0] (fun i out wr => ∃ k : Nat, k ≤ xs.length ∧ i = .int .i64 k ∧ out = bstr (word v ++ tellL (xs.take k)) ∧ Below w.heap.size w wr) (fun i _ _ => xs.length - (intOf i).toNat)
  case atStart => exact ⟨0, Nat.zero_le _, rfl, by simp [tellL], Below.refl _ _⟩
  case round =>
    obtain ⟨k, hk, rfl, rfl, hwr⟩ := hrel
    have HR := Lib.hid (HH.out.below hwr hB)
    have HG2 := Lib.hid (HG.out.below hwr)
    have HWR := Lib.hid hwr
    clear hwr
    by_cases hlt : k < xs.length
    · obtain ⟨b, off, rfl, hb1, cx⟩ := HR.out k hlt
      have HX := Lib.hid (List.all_eq_true.1 HALL.out xs[k] (List.getElem_mem hlt))
      have HT := Lib.hid (tell_step hlt)
      have hlen := speak_len (v := v) HALL.out hl k
      have hdl := dec_len 8 xs[k].toNat (by have := HX.out; simp [wn] at this; show xs[k].toNat < 1000000000; omega)
      obtain ⟨P, hP⟩ : ∃ P, P = word v ++ tellL (xs.take k) := ⟨_, rfl⟩
      obtain ⟨D, hD⟩ : ∃ D, D = Lib.decDigits xs[k].toNat := ⟨_, rfl⟩
      rw [← hP] at hlen ⊢
      rw [← hD] at hdl
      have HP := Lib.hid hP
      have HDD := Lib.hid hD
      clear hP hD
      go_wp2_with (go_at_call 30; refine (Itoa_int xs[k] HX.out _ HG2.out).mono ?_; rw [← HDD.out]; rintro e w2 ⟨rfl, hb2⟩; have HB2 := Lib.hid hb2; clear hb2)
      go_roundw
      case rel => exact ⟨k + 1, by omega, by go_num, by rw [HT.out, ← HDD.out, ← List.append_assoc, ← HP.out]; exact speak_add P D, HWR.out.trans (HB2.out.mono HWR.out.size)⟩
      case measure => simp [intOf]; omega
    · obtain rfl : k = xs.length := by omega
      go_wp2
      go_ret
      exact ⟨by rw [List.take_length]; rfl, HWR.out⟩
theorem field46 (a b c d e f : Value) (W : World) : (Instr.field 46 (.agg #[a, b, c, d, e, f]) 0).run Tryz.prog W = .ok a W := by kernel_rfl
set_option maxRecDepth 100000 in
set_option maxHeartbeats 1000000 in
theorem Speak_any (v : Int) (ad : Option Addr) (cap : Nat) (xs : List Int) (w : World) (B : Nat) (hB : B ≤ w.heap.size) (hl : xs.length ≤ 400) (h : IntsAt w B ad xs) (hG : Glob w) :
    Calls Tryz.prog 7 #[.agg #[.int .i64 v, .slice ad xs.length cap]] w fun e w' => e = .returned (.tuple #[bstr (speakT v xs).1, .int .i64 (speakT v xs).2]) ∧ Below w.heap.size w w' := by
  have HX0 := Lib.hid (Box2.new w 24 (.int .i64 v) (.slice ad xs.length cap))
  have HW0 := Lib.hid ((Below.refl w.heap.size w).alloc (Nat.le_refl _) (.cells #[.int .i64 v, .slice ad xs.length cap] 24))
  have HD := Lib.hid (h.below HW0.out hB)
  have HVD := Lib.hid (valid_deed v xs)
  cases hok : deedOK v xs with
  | false =>
    have HOK := Lib.hid hok
    have hs : speakT v xs = ([], 121) := by simp [speakT, hok]
    have HS := Lib.hid hs
    clear hok hs h
    go_enter Tryz.func7, Tryz.ntmps7
    go_wp2_with (go_at_call 15; refine (valid_any v ad cap xs _ B (by simp; omega) hl HD.out).mono ?_; rw [HVD.out, HOK.out]; rintro e w' ⟨rfl, hb⟩)
    go_ret2
    rw [HS.out]
    exact ⟨rfl, below_alloc (Nat.le_refl _) (by assumption)⟩
  | true =>
    have HOK := Lib.hid hok
    have HS := Lib.hid (show speakT v xs = (word v.toNat ++ tellL xs, 0) by simp [speakT, hok, speakL])
    have HALL := Lib.hid (deedOK_parts hok).2
    have HV := Lib.hid (deedOK_parts hok).1
    have HH := Lib.hid h
    have HG := Lib.hid hG
    clear hok h hG
    go_enter Tryz.func7, Tryz.ntmps7
    go_upto_region 3 with (go_at_call 15; refine (valid_any v ad cap xs _ B (by simp; omega) hl HD.out).mono ?_; rw [HVD.out, HOK.out]; rintro e w1 ⟨rfl, hb⟩; have HX1 := Lib.hid (HX0.out.below hb (by simp)); have HW1 := Lib.hid (HW0.out.trans (hb.mono (by simp))); clear hb)
    have hS : (fun W : World => W.cell? ⟨w.heap.size, 0, none⟩ = some (.int .i64 v) ∧ W.cell? ⟨w.heap.size, 1, none⟩ = some (.slice ad xs.length cap)) w1.drew := ⟨HX1.out.c0, HX1.out.c1⟩
    have HX1d : Hid (Box2 w1.drew w.heap.size 24 (.int .i64 v) (.slice ad xs.length cap)) := HX1
    have HW1d := Lib.hid HW1.out.drew
    refine wp_region_held_drew (S := fun W => W.cell? ⟨w.heap.size, 0, none⟩ = some (.int .i64 v) ∧ W.cell? ⟨w.heap.size, 1, none⟩ = some (.slice ad xs.length cap)) (by kernel_rfl) hS (fun _ => ?_)
    refine wpAnyH_take (i := 1) (v := ?_) rfl (by kernel_rfl) (by kernel_rfl) (by kernel_rfl) (fun _ _ _ h => h) (Or.inl ⟨by rfl, ?_⟩) hS ?_
    rotate_left 1
    · rintro w ⟨s0, s1⟩
      go_simp
      with_reducible rfl
    refine wpAnyH_take (i := 2) (v := ?_) rfl (by kernel_rfl) (by kernel_rfl) (by kernel_rfl) (fun _ _ _ h => h) (Or.inl ⟨by rfl, ?_⟩) hS ?_
    rotate_left 1
    · rintro w ⟨s0, s1⟩
      go_simp
      with_reducible rfl
    refine wpAnyH_take (i := 5) (v := ?_) rfl (by kernel_rfl) (by kernel_rfl) (by kernel_rfl) (fun _ _ _ h => h) (Or.inl ⟨by rfl, ?_⟩) hS ?_
    rotate_left 1
    · rintro w ⟨s0, s1⟩
      go_simp
      with_reducible rfl
    refine wpAnyH_take (i := 6) (v := ?_) rfl (by kernel_rfl) (by kernel_rfl) (by kernel_rfl) (fun _ _ _ h => h) (Or.inl ⟨by rfl, ?_⟩) hS ?_
    rotate_left 1
    · rintro w ⟨s0, s1⟩
      go_simp
      with_reducible rfl
    refine wpAnyH_ready (rs := [0]) (by kernel_rfl) (by simp) ?_
    refine AllReadyH.cons rfl (fun K hK => ?_) AllReadyH.nil
    go_simp
    go_wp2_with (go_at_call 21; refine (verbs_any _).mono ?_; rintro e w3 ⟨L, rfl, hL, hb⟩; have HX3 := Lib.hid (HX1d.out.below hb HX1d.out.lt); have HW3 := Lib.hid (HW1d.out.trans (hb.mono HW1d.out.size)); clear hL hb)
    refine hK.out _ _ ⟨HX3.out.c0, HX3.out.c1⟩ (fun hS => ?_)
    clear hK K
    have hidx := verbs_index L v HV.out
    have hfl := fun W => field46 (.string ⟨(word v.toNat).toArray⟩) (.int .i64 (lo v.toNat)) (.int .i64 (hi v.toNat)) (.int .i64 (st v.toNat)) (L v.toNat).1 (L v.toNat).2 W
    refine wpAnyH_take (i := 3) (v := ?_) rfl (by kernel_rfl) (by kernel_rfl) (by kernel_rfl) (fun _ _ _ h => h) (Or.inl ⟨by rfl, ?_⟩) hS ?_
    rotate_left 1
    · rintro w ⟨s0, s1⟩
      go_simp
      with_reducible rfl
    refine wpAnyH_take (i := 4) (v := ?_) rfl (by kernel_rfl) (by kernel_rfl) (by kernel_rfl) (fun _ _ _ h => h) (Or.inl ⟨by rfl, ?_⟩) hS ?_
    rotate_left 1
    · rintro w ⟨s0, s1⟩
      go_simp
      with_reducible rfl
    refine wpAnyH_ready (rs := [7]) (by kernel_rfl) (by simp) ?_
    refine AllReadyH.cons rfl (fun K hK => ?_) AllReadyH.nil
    go_simp
    go_wp2_with (go_at_call 20; refine (said_any v.toNat ad cap xs _ B (Nat.le_trans hB HW3.out.size) hl HALL.out (HH.out.below HW3.out hB) (HG.out.below HW3.out)).mono ?_; rintro e w4 ⟨rfl, hb⟩; have HX4 := Lib.hid (HX3.out.below hb HX3.out.lt); have HW4 := Lib.hid (HW3.out.trans (hb.mono HW3.out.size)); clear hb)
    refine hK.out _ _ ⟨HX4.out.c0, HX4.out.c1⟩ (fun hS => ?_)
    clear hK K
    refine wpAnyH_ready (rs := [8]) (by kernel_rfl) (by simp) ?_
    refine AllReadyH.cons rfl (fun K hK => ?_) AllReadyH.nil
    go_simp
    refine hK.out _ _ ⟨HX4.out.c0, HX4.out.c1⟩ (fun hS => ?_)
    clear hK K
    refine wpAnyH_ready (rs := [9]) (by kernel_rfl) (by simp) ?_
    refine AllReadyH.cons rfl (fun K hK => ?_) AllReadyH.nil
    go_simp
    refine hK.out _ _ ⟨HX4.out.c0, HX4.out.c1⟩ (fun hS => ?_)
    clear hK K
    refine wpAnyH_done (by kernel_rfl) ?_ _
    go_wp2_with fail
    go_ret2
    rw [HS.out]
    exact ⟨rfl, HW4.out⟩
end Go.Proofs.YtciljkcicfphdaaGreatDoor
