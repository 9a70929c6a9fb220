/- The reference's Speak answers as speakT says; for every verb and every list of at most 400 numbers. -/
import Derived.Test.YtciljkcicfphdaaGreatDoorW3
import Derived.Test.YtciljkcicfphdaaGreatDoorW4
import Derived.Deep.DeepCutAuto
namespace Go.Proofs.YtciljkcicfphdaaGreatDoor
open Go.RowKit
theorem words_atI (v : Int) (h : wn v 1 23 = true) (w : World) : (Instr.index 54 (.agg wordsV) (.int .i64 v)).run Tryz.prog w = .ok (.string ⟨(word v.toNat).toArray⟩) w := by
  simp [wn] at h
  have := words_at v.toNat (by omega) w
  rwa [show ((v.toNat : Nat) : Int) = v by omega] at this
theorem decimal_int (x : Int) (h : wn x 0 999999999 = true) (w : World) : Calls Tryz.prog 22 #[.int .i64 x] w fun e w' => e = .returned (bstr (Lib.decDigits x.toNat)) ∧ Below w.heap.size w w' := by
  simp [wn] at h
  have := decimal_any x.toNat w (by omega)
  rwa [show ((x.toNat : Nat) : Int) = x by omega] at this
theorem deedOK_parts {v : Int} {xs : List Int} (h : deedOK v xs = true) : wn v 1 23 = true ∧ xs.all (fun n => wn n 0 999999999) = true := by
  simp only [deedOK, Bool.and_eq_true] at h
  exact ⟨h.1.1, h.1.2⟩
theorem speak_len {v : Nat} {xs : List Int} (h : xs.all (fun n => wn n 0 999999999) = true) (hl : xs.length ≤ 400) (k : Nat) : (word v ++ tellL (xs.take k)).length ≤ 4007 := by
  have h1 := word_len v
  have h2 : (tellL (xs.take k)).length ≤ 10 * (xs.take k).length := tell_len (by rw [List.all_eq_true] at h ⊢; exact fun x hx => h x (List.mem_of_mem_take hx))
  have h3 : (xs.take k).length ≤ xs.length := by simp; omega
  rw [List.length_append]
  omega
theorem speak_add (P D : List UInt8) : (Value.string ((⟨P.toArray⟩ : ByteArray) ++ ((⟨#[32]⟩ : ByteArray) ++ ⟨D.toArray⟩))) = bstr (P ++ 32 :: D) := by
  have h1 : ((⟨#[32]⟩ : ByteArray) ++ ⟨D.toArray⟩) = ⟨(32 :: D).toArray⟩ := ByteArray.mk_append_mk [32] D
  rw [h1, ByteArray.mk_append_mk]
set_option maxRecDepth 100000 in
set_option maxHeartbeats 2000000 in
theorem RSpeak_any (v : Int) (ad : Option Addr) (cap : Nat) (xs : List Int) (w : World) (B : Nat) (hB : B ≤ w.heap.size) (hl : xs.length ≤ 400) (h : IntsAt w B ad xs) :
    Calls Tryz.prog 8 #[.agg #[.int .i64 v, .slice ad xs.length cap]] w fun e w' => e = .returned (.tuple #[bstr (speakT v xs).1, .int .i64 (speakT v xs).2]) ∧ Below w.heap.size w w' := by
  have HW0 := Lib.hid ((Below.refl w.heap.size w).alloc (Nat.le_refl _) (.cells #[.int .i64 v, .slice ad xs.length cap] 24))
  have HD := Lib.hid (h.below HW0.out hB)
  cases hok : deedOK v xs with
  | false =>
    have HOK := Lib.hid hok
    have hs : speakT v xs = ([], 121) := by simp [speakT, hok]
    have HS := Lib.hid hs
    clear hok hs h
    go_enter Tryz.func8, Tryz.ntmps8
    go_wp2_with (go_at_call 19; refine (Deed_any v ad cap xs _ B (by simp; omega) hl HD.out).mono ?_; rw [HOK.out]; rintro e w' ⟨rfl, hb⟩)
    go_ret2
    rw [HS.out]
    exact ⟨rfl, below_alloc (Nat.le_refl _) (by assumption)⟩
  | true =>
    have HOK := Lib.hid hok
    have HS := Lib.hid (show speakT v xs = (word v.toNat ++ tellL xs, 0) by simp [speakT, hok, speakL])
    have HALL := Lib.hid (deedOK_parts hok).2
    have hidx := words_atI v (deedOK_parts hok).1
    have HH := Lib.hid h
    clear hok h
    go_enter Tryz.func8, Tryz.ntmps8
    go_upto_region 3 with (go_at_call 19; refine (Deed_any v ad cap xs _ B (by simp; omega) hl HD.out).mono ?_; rw [HOK.out]; rintro e w1 ⟨rfl, hb⟩; have c0 := cell_below hb (b := w.heap.size) (o := 0) (v := .int .i64 v) (by simp); have c1 := cell_below hb (b := w.heap.size) (o := 1) (v := .slice ad xs.length cap) (by simp); have hsz := cell_lt c0; have HBB := Lib.hid hb; clear hb)
    go_cut [4] (fun s4 wx => s4 = bstr (word v.toNat) ∧ Below (w.alloc (.cells #[.int .i64 v, .slice ad xs.length cap] 24)).heap.size (w.alloc (.cells #[.int .i64 v, .slice ad xs.length cap] 24)) wx)
    case first =>
      go_region_with (go_at_call 17; refine (words_any _).mono ?_; rintro e w2 ⟨rfl, hb2⟩; have c0' := cell_below hb2 (b := w.heap.size) (o := 0) (v := .int .i64 v) c0; have HB2 := Lib.hid hb2; clear hb2)
      all_goals go_wp2_with fail
      all_goals go_meet
      all_goals exact ⟨rfl, HBB.out.drew.trans (HB2.out.mono (by have := HBB.out.size; exact this))⟩
    case rest =>
      obtain ⟨rfl, hb⟩ := hcut
      have c1 := cell_below hb (b := w.heap.size) (o := 1) (v := .slice ad xs.length cap) (by simp)
      have HB0 := Lib.hid hb
      clear hb
      go_wp2_with fail
      go_loopw [17, 4] (fun i out wr => ∃ k : Nat, k ≤ xs.length ∧ i = .int .i64 k ∧ out = bstr (word v.toNat ++ tellL (xs.take k)) ∧ Below w.heap.size w wr) (fun i _ _ => xs.length - (intOf i).toNat)
      case atStart => exact ⟨0, Nat.zero_le _, rfl, by simp [tellL], below_alloc (Nat.le_refl _) HB0.out⟩
      case round =>
        obtain ⟨k, hk, rfl, rfl, hwr⟩ := hrel
        have HR := Lib.hid (HH.out.below hwr hB)
        have HWR := Lib.hid hwr
        clear hwr
        by_cases hlt : k < xs.length
        · obtain ⟨b, off, rfl, hb1, cx⟩ := HR.out k hlt
          have HX := Lib.hid (List.all_eq_true.1 HALL.out xs[k] (List.getElem_mem hlt))
          have HT := Lib.hid (tell_step hlt)
          have hlen := speak_len (v := v.toNat) HALL.out hl k
          have hdl := dec_len 8 xs[k].toNat (by have := HX.out; simp [wn] at this; show xs[k].toNat < 1000000000; omega)
          obtain ⟨P, hP⟩ : ∃ P, P = word v.toNat ++ tellL (xs.take k) := ⟨_, rfl⟩
          obtain ⟨D, hD⟩ : ∃ D, D = Lib.decDigits xs[k].toNat := ⟨_, rfl⟩
          rw [← hP] at hlen ⊢
          rw [← hD] at hdl
          have HP := Lib.hid hP
          have HDD := Lib.hid hD
          clear hP hD
          go_wp2_with (go_at_call 22; refine (decimal_int xs[k] HX.out _).mono ?_; rw [← HDD.out]; rintro e w2 ⟨rfl, hb2⟩; have HB2 := Lib.hid hb2; clear hb2)
          go_roundw
          case rel => exact ⟨k + 1, by omega, by go_num, by rw [HT.out, ← HDD.out, ← List.append_assoc, ← HP.out]; exact speak_add P D, HWR.out.trans (HB2.out.mono HWR.out.size)⟩
          case measure => simp [intOf]; omega
        · obtain rfl : k = xs.length := by omega
          go_wp2
          go_ret2
          rw [HS.out]
          exact ⟨by rw [List.take_length]; rfl, HWR.out⟩
end Go.Proofs.YtciljkcicfphdaaGreatDoor
