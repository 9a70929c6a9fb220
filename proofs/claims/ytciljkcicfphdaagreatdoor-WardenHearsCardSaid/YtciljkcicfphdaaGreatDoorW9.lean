/- The reference's Hear answers as hearT says; for every line of at most 400 letters. -/
import Derived.Test.YtciljkcicfphdaaGreatDoorW3
import Derived.Test.YtciljkcicfphdaaGreatDoorW6
import Derived.Test.YtciljkcicfphdaaGreatDoorW8
import Derived.Test.YtciljkcicfphdaaGreatDoorBX
import Derived.Deep.DeepCutAuto
namespace Go.Proofs.YtciljkcicfphdaaGreatDoor
open Go.RowKit
theorem strs_of_row {w : World} {base e n : Nat} {v : Value} {ws : List (List UInt8)} (h : w.ownsRow base e 1 v n (ws.map bstr)) : ∃ ad cap, v = .slice ad ws.length cap ∧ StrsAt w w.heap.size ad ws := by
  obtain ⟨ad, cap, rfl, _, hc⟩ := row_cells h
  refine ⟨ad, cap, by simp, fun i hi => ?_⟩
  obtain ⟨b, off, e1, e2, _, e3⟩ := hc i (by simpa using hi)
  exact ⟨b, off, e1, e2, by simpa using e3⟩
theorem row_cap {w : World} {base e n len cap : Nat} {ad : Option Addr} {xs : List Value} (h : w.ownsRow base e 1 (.slice ad len cap) n xs) : len ≤ cap ∧ cap ≤ maxLen := by
  rcases h.2 with ⟨h, _⟩ | ⟨g, cap', cur, h, _, _, h1, h2, _⟩
  · cases h; exact ⟨Nat.le_refl _, Nat.zero_le _⟩
  · cases h; exact ⟨h1, h2⟩
theorem push_int {w : World} {base e : Nat} {v : Value} {ns : List Int} {n : Int} (h : w.ownsRow base e 1 v (ns.length + 1) (ns.map (Value.int .i64) ++ [Value.int .i64 n])) :
    ∃ ad cap, v = .slice ad (ns.length + 1) cap ∧ w.ownsRow base e 1 (.slice ad (ns.length + 1) cap) (ns ++ [n]).length ((ns ++ [n]).map (Value.int .i64)) := by
  have h2 : w.ownsRow base e 1 v (ns ++ [n]).length ((ns ++ [n]).map (Value.int .i64)) := row_push h
  obtain ⟨ad, cap, rfl, _⟩ := ints_of_row h2
  have e1 : (ns ++ [n]).length = ns.length + 1 := by simp
  exact ⟨ad, cap, by rw [e1], by rw [← e1]; exact h2⟩
theorem ints_row {w : World} {base e len cap n : Nat} {ad : Option Addr} {xs : List Int} (h : w.ownsRow base e 1 (.slice ad len cap) n (xs.map (Value.int .i64))) : IntsAt w w.heap.size ad xs := by
  obtain ⟨ad', cap', hv, hI⟩ := ints_of_row h
  cases hv
  exact hI
theorem ownsRow_below {w w' : World} {base e size n : Nat} {v : Value} {xs : List Value} (h : w.ownsRow base e size v n xs) (hb : Below w.heap.size w w') : w'.ownsRow base e size v n xs :=
  h.kept (row := none) ⟨hb.os, hb.tape, hb.output, hb.size, fun k hk _ => hb.block k hk⟩ (by cases v.ownBlock <;> simp)
theorem row_ne {W : World} {D n e : Nat} {v : Value} {xs : List Value} (h : W.ownsRow (D + 1) e 1 v n xs) : some D ≠ v.ownBlock := fun q => by
  have := (h.lt D q.symm).1
  omega
theorem splitAcc_le : ∀ (l cur x : List UInt8), x ∈ splitAcc cur l → x.length ≤ cur.length + l.length
  | [], cur, x, h => by simp [splitAcc] at h; subst h; simp
  | c :: r, cur, x, h => by
    rw [splitAcc] at h
    split at h
    · rcases List.mem_cons.1 h with rfl | h
      · simp
      · have := splitAcc_le r [] x h
        simp at this ⊢
        omega
    · have := splitAcc_le r (cur ++ [c]) x h
      simp at this ⊢
      omega
theorem split_le {l : List UInt8} (x : List UInt8) (h : x ∈ splitL l) : x.length ≤ l.length := by have := splitAcc_le l [] x h; simpa using this
theorem hearT_bad {l w : List UInt8} {r : List (List UInt8)} (hs : splitL l = w :: r) (hn : r.mapM numL = none) : hearT l = (0, [], 121) := by simp [hearT, hearL, hs, hn]
theorem hearT_no {l w : List UInt8} {r : List (List UInt8)} {ns : List Int} (hs : splitL l = w :: r) (hn : r.mapM numL = some ns) (hd : deedOK (verbOf w) ns = false) : hearT l = (0, [], 121) := by simp [hearT, hearL, hs, hn, hd]
theorem hearT_yes {l w : List UInt8} {r : List (List UInt8)} {ns : List Int} (hs : splitL l = w :: r) (hn : r.mapM numL = some ns) (hd : deedOK (verbOf w) ns = true) : hearT l = (verbOf w, ns, 0) := by simp [hearT, hearL, hs, hn, hd]
set_option maxRecDepth 100000 in
set_option maxHeartbeats 2000000 in
theorem RHear_any (l : List UInt8) (hl : l.length ≤ 400) (w : World) : Calls Tryz.prog 6 #[.string ⟨l.toArray⟩] w fun e w' => ∃ v xs ad cap n, e = .returned (.tuple #[.agg #[.int .i64 v, .slice ad xs.length cap], .int .i64 n]) ∧ hearT l = (v, xs, n) ∧ xs.length ≤ 400 ∧ IntsAt w' w'.heap.size ad xs ∧ Below w.heap.size w w' := by
  have hR := Lib.hid (Box2.new w 24 (.int .i64 0) (.slice none 0 0))
  have hB0 := Lib.hid ((Below.refl w.heap.size w).alloc (Nat.le_refl _) (.cells #[.int .i64 0, .slice none 0 0] 24))
  obtain ⟨w0, r, hsp⟩ : ∃ w0 r, splitL l = w0 :: r := by
    cases h : splitL l with
    | nil => exact absurd h (splitAcc_ne l [])
    | cons a b => exact ⟨a, b, rfl⟩
  have hrl : r.length ≤ 400 := by have := splitAcc_len l []; rw [show splitAcc [] l = w0 :: r from hsp] at this; simp at this; omega
  have HSP := Lib.hid hsp
  clear hsp
  obtain ⟨i3, p3, q30, q31, q32⟩ := info_parts info3
  go_enter Tryz.func6, Tryz.ntmps6
  go_wp2_with (first
    | (go_at_call 16; refine (split_any l hl _).mono ?_; rintro e wS ⟨v, rfl, hrow, hb⟩; rw [HSP.out] at hrow; obtain ⟨ad, cap, rfl, hst⟩ := strs_of_row hrow; obtain ⟨hcap, hcapm⟩ := row_cap hrow; have HST := Lib.hid hst; have HBS := Lib.hid (below_alloc (Nat.le_refl _) hb); have HRS := Lib.hid (hR.out.below hb (by simp)); clear hst hb hrow)
    | (go_at_call 17; refine (words_any _).mono ?_; rintro e wW ⟨rfl, hb⟩; have HBW := Lib.hid hb; clear hb))
  have HD0 := Lib.hid ((Box2.new wS 24 (.int .i64 0) (.slice none 0 0)).below HBW.out (by simp))
  have HBD := Lib.hid (below_alloc (Nat.le_refl _) HBW.out)
  go_loopw [16] (fun i wr => ∃ k : Nat, k ≤ 24 ∧ i = .int .i64 k ∧ Hid (Box2 wr wS.heap.size 24 (.int .i64 (verbF w0 k)) (.slice none 0 0)) ∧ Hid (Below wS.heap.size wS wr)) (fun i _ => 24 - (intOf i).toNat)
  case atStart => exact ⟨0, by omega, rfl, HD0, HBD⟩
  case round =>
    obtain ⟨k, hk, rfl, HX, HY⟩ := hrel
    by_cases hlt : k < 24
    · have hidx : ∀ w, (Instr.index 54 (.agg wordsV) (.int .i64 k)).run Tryz.prog w = .ok (.string ⟨(word k).toArray⟩) w := words_at k hlt
      obtain ⟨b, off, rfl, hb, hc⟩ := (HST.out.below HY.out (Nat.le_refl _)) 0 (by simp)
      simp only [Nat.add_zero, List.getElem_cons_zero] at hc
      by_cases h0 : 0 < k
      · have h0' : decide ((0 : Int) < k) = true := by simpa using h0
        by_cases hw : word k = w0
        · have HE := Lib.hid (show verbF w0 (k + 1) = k by rw [verbF, if_pos ⟨h0, hw⟩])
          have hw' : (word k == w0) = true := by simpa using hw
          have c0 := HX.out.c0
          have f0 := HX.out.f0
          have HX2 := Lib.hid (HX.out.set0 (.int .i64 k))
          have HY2 := Lib.hid (HY.out.setCell (p := ⟨wS.heap.size, 0, none⟩) (Nat.le_refl _) (.int .i64 k))
          clear hw
          go_wp2
          go_roundw
          case rel => exact ⟨k + 1, by omega, by go_num, by rw [HE.out]; exact HX2, HY2⟩
          case measure => simp [intOf]; omega
        · have HE := Lib.hid (show verbF w0 (k + 1) = verbF w0 k by rw [verbF, if_neg (fun q => hw q.2)])
          have hw' : (word k == w0) = false := by simpa using hw
          clear hw
          go_wp2
          go_roundw
          case rel => exact ⟨k + 1, by omega, by go_num, by rw [HE.out]; exact HX, HY⟩
          case measure => simp [intOf]; omega
      · have HE := Lib.hid (show verbF w0 (k + 1) = verbF w0 k by rw [verbF, if_neg (fun q => h0 q.1)])
        have h0' : decide ((0 : Int) < k) = false := by simpa using h0
        go_wp2
        go_roundw
        case rel => exact ⟨k + 1, by omega, by go_num, by rw [HE.out]; exact HX, HY⟩
        case measure => simp [intOf]; omega
    · obtain rfl : k = 24 := by omega
      have HVO := Lib.hid (show verbF w0 24 = verbOf w0 from rfl)
      obtain ⟨b, off, rfl, hb, hc⟩ := HST.out 0 (by simp)
      obtain ⟨a, c, hsl, hst⟩ : ∃ a c, (∀ W, (Instr.sliceAt 52 (.slice (some ⟨b, off, none⟩) (r.length + 1) cap) (some (.int .i64 1)) none none).run Tryz.prog W = .ok (.slice (some a) r.length c) W) ∧ StrsAt wS wS.heap.size (some a) r := by
        by_cases hc1 : cap = 1
        · have hr : r.length = 0 := by simp at hcap; omega
          refine ⟨⟨b, off, none⟩, 0, fun W => ?_, fun i hi => absurd hi (by omega)⟩
          subst hc1
          simp [go_sem, Tryz.underlying52]
          intro h
          omega
        · refine ⟨⟨b, off + 1, none⟩, cap - 1, fun W => ?_, fun i hi => ?_⟩
          · simp [go_sem, Tryz.underlying52]
            rw [if_pos (by omega), if_neg hc1]
          · obtain ⟨b', off', e1, e2, e3⟩ := HST.out (i + 1) (by simpa using hi)
            cases e1
            exact ⟨_, _, rfl, e2, by rw [show off + 1 + i = off + (i + 1) by omega]; simpa using e3⟩
      have HQ := Lib.hid hst
      have HX0 := Lib.hid (HX.out : Box2 wr wS.heap.size 24 (.int .i64 (verbOf w0)) (.slice none 0 0))
      clear hst hc hb HX HST HBW HD0 HBD
      go_wp2_with fail
      clear hsl
      go_loopw [35] (fun i wx => ∃ (k : Nat) (ns : List Int) (av : Value), k ≤ r.length ∧ i = .int .i64 k ∧ ns.length ≤ k ∧ Hid ((r.take k).mapM numL = some ns) ∧ Hid (Box2 wx wS.heap.size 24 (.int .i64 (verbOf w0)) av) ∧ Hid (wx.ownsRow (wS.heap.size + 1) 3 1 av ns.length (ns.map (Value.int .i64))) ∧ Hid (Below wS.heap.size wS wx)) (fun i _ => r.length - (intOf i).toNat)
      case atStart => exact ⟨0, [], _, Nat.zero_le _, rfl, Nat.zero_le _, Lib.hid rfl, HX0, Lib.hid (World.ownsRow_nil _ _ _ _), HY⟩
      case round =>
        obtain ⟨k, ns, av, hk2, rfl, hnk, HM, HX1, HO, HY1⟩ := hrel
        have hRlt := HRS.out.lt
        have HR1 := Lib.hid (HRS.out.below HY1.out hRlt)
        by_cases hlt : k < r.length
        · obtain ⟨bb, off', e1, hb, hc⟩ := (HQ.out.below HY1.out (Nat.le_refl _)) k hlt
          cases e1
          have HWL := Lib.hid (split_le (l := l) r[k] (by rw [HSP.out]; exact List.mem_cons_of_mem _ (List.getElem_mem hlt)))
          obtain ⟨x, hx⟩ : ∃ x, x = r[k] := ⟨_, rfl⟩
          rw [← hx] at hc HWL
          have HTK := Lib.hid (List.take_succ_eq_append_getElem hlt)
          rw [← hx] at HTK
          clear hx
          have HN := Lib.hid (Rnumber_any x (Nat.le_trans HWL.out hl) wr)
          cases hn : numL x with
          | none =>
            have HHT := Lib.hid (hearT_bad (w := w0) HSP.out (by rw [← List.take_append_drop (k + 1) r]; exact mapM_prefix_none _ _ _ (by rw [HTK.out, mapM_snoc, HM.out, hn]; rfl)))
            rw [numT_none hn] at HN
            have c0 := HR1.out.c0
            have c1 := HR1.out.c1
            have f0 := HR1.out.f0
            have f1 := HR1.out.f1
            have HR2 := Lib.hid ((HR1.out.set0 (.int .i64 0)).set1 (.slice none 0 0))
            have HB2 := Lib.hid (((HBS.out.trans (HY1.out.mono (Nat.le_of_lt hRlt))).setCell (p := ⟨w.heap.size, 0, none⟩) (Nat.le_refl _) (.int .i64 0)).setCell (p := ⟨w.heap.size, 1, none⟩) (Nat.le_refl _) (.slice none 0 0))
            clear hn
            go_wp2_with (go_at_call 18; refine HN.out.mono ?_; rintro e w' ⟨rfl, rfl⟩)
            have d0 := HR2.out.c0
            have d1 := HR2.out.c1
            refine bodyPost_ret (v := .tuple #[.agg #[.int .i64 0, .slice none 0 0], .int .i64 121]) ?_ rfl ⟨0, [], none, 0, 121, rfl, HHT.out, by simp, fun i hi => absurd hi (by simp), HB2.out⟩
            simp [results, Tryz.f6, go_sem, d0, d1]
          | some n =>
            have HM2 := Lib.hid (show (r.take (k + 1)).mapM numL = some (ns ++ [n]) by rw [HTK.out, mapM_snoc, HM.out, hn]; rfl)
            rw [numT_some hn] at HN
            have c1 := HX1.out.c1
            have f1 := HX1.out.f1
            have HK := Lib.hid (fun (w1 : World) (hg : (wr.alloc (.cells #[.int .i64 n] 3)).grownBy w1 av.ownBlock) => Box2.kept (Box2.alloc HX1.out (.cells #[.int .i64 n] 3)) hg (row_ne (D := wS.heap.size) HO.out))
            clear hn
            go_wp2_with (first
              | (go_at_call 18; refine HN.out.mono ?_; rintro e w' ⟨rfl, rfl⟩)
              | (at_builtin; refine wpList_append_own _ rfl _ _ 22 rfl (wS.heap.size + 1) 3 i3 (.int .i64 0) 1 8 Tryz.underlying22 p3 q30 q31 q32 rfl (by decide) av ns.length _ rfl (HO.out.alloc _) ⟨wr.heap.size, 0, none⟩ 1 1 [.int .i64 n] rfl rfl (new1 _ _ _) (one1 rfl) (by simp [maxLen]; omega) (by omega) (by have := HX1.out.lt; simp; omega) ?_; intro v' w1 hown' hgrow _; obtain ⟨ad', cap', rfl, hO2⟩ := push_int hown'; have HO2 := Lib.hid hO2; have hX2 := HK.out _ hgrow; have HX2 := Lib.hid hX2; have HB2 := Lib.hid (below_grown HY1.out HY1.out.size (HO.out.alloc _) (Nat.le_succ _) hgrow); have g1 := hX2.c1; have k1 := hX2.f1; clear hown' hgrow hO2 hX2))
            go_roundw
            case rel =>
              refine ⟨_, _, _, _, _, _, _, _, _, _, _, _, _, _, _, _, _, _, _, _, _, _, _, ?_, rfl⟩
              exact ⟨k + 1, ns ++ [n], _, by omega, by go_num, by simp; omega, HM2, Lib.hid (HX2.out.set1 _), Lib.hid (ownsRow_setCell_below (a := ⟨wS.heap.size, 1, none⟩) HO2.out (Nat.lt_succ_self _) _), Lib.hid (HB2.out.setCell (p := ⟨wS.heap.size, 1, none⟩) (Nat.le_refl _) _)⟩
            case measure => simp [intOf]; omega
        · obtain rfl : k = r.length := by omega
          rw [List.take_length] at HM
          obtain ⟨ad2, cap2, rfl, hI⟩ := ints_of_row HO.out
          have c0 := HX1.out.c0
          have c1 := HX1.out.c1
          have r0 := HR1.out.c0
          have r1 := HR1.out.c1
          have HD := Lib.hid (Deed_any (verbOf w0) ad2 cap2 ns wr wr.heap.size (Nat.le_refl _) (by omega) hI)
          have HI := Lib.hid hI
          clear hI
          cases hd : deedOK (verbOf w0) ns with
          | false =>
            rw [hd] at HD
            have HHT := Lib.hid (hearT_no (w := w0) HSP.out HM.out hd)
            clear hd
            go_wp2_with (go_at_call 19; refine HD.out.mono ?_; rintro e w' ⟨rfl, hb⟩; have HR3 := Lib.hid (HR1.out.below hb HR1.out.lt); have f0 := HR3.out.f0; have f1 := HR3.out.f1; have c0' := HR3.out.c0; have c1' := HR3.out.c1; have HBD := Lib.hid (HY1.out.trans (hb.mono HY1.out.size)); clear hb)
            have HR4 := Lib.hid ((HR3.out.set0 (.int .i64 0)).set1 (.slice none 0 0))
            have HB2 := Lib.hid (((HBS.out.trans (HBD.out.mono (Nat.le_of_lt hRlt))).setCell (p := ⟨w.heap.size, 0, none⟩) (Nat.le_refl _) (.int .i64 0)).setCell (p := ⟨w.heap.size, 1, none⟩) (Nat.le_refl _) (.slice none 0 0))
            have d0 := HR4.out.c0
            have d1 := HR4.out.c1
            refine bodyPost_ret (v := .tuple #[.agg #[.int .i64 0, .slice none 0 0], .int .i64 121]) ?_ rfl ⟨0, [], none, 0, 121, rfl, HHT.out, by simp, fun i hi => absurd hi (by simp), HB2.out⟩
            simp [results, Tryz.f6, go_sem, d0, d1]
          | true =>
            rw [hd] at HD
            have HHT := Lib.hid (hearT_yes (w := w0) HSP.out HM.out hd)
            clear hd
            go_wp2_with (go_at_call 19; refine HD.out.mono ?_; rintro e w' ⟨rfl, hb⟩; have HR3 := Lib.hid (HR1.out.below hb HR1.out.lt); have f0 := HR3.out.f0; have f1 := HR3.out.f1; have c0' := HR3.out.c0; have c1' := HR3.out.c1; have HX3 := Lib.hid (HX1.out.below hb HX1.out.lt); have x0 := HX3.out.c0; have x1 := HX3.out.c1; have HBD := Lib.hid (HY1.out.trans (hb.mono HY1.out.size)); have HO3 := Lib.hid (ownsRow_below HO.out hb); clear hb)
            have HR4 := Lib.hid ((HR3.out.set0 (.int .i64 (verbOf w0))).set1 (.slice ad2 ns.length cap2))
            have HB2 := Lib.hid (((HBS.out.trans (HBD.out.mono (Nat.le_of_lt hRlt))).setCell (p := ⟨w.heap.size, 0, none⟩) (Nat.le_refl _) (.int .i64 (verbOf w0))).setCell (p := ⟨w.heap.size, 1, none⟩) (Nat.le_refl _) (.slice ad2 ns.length cap2))
            have HO4 := Lib.hid (ownsRow_setCell_below (a := ⟨w.heap.size, 1, none⟩) (ownsRow_setCell_below (a := ⟨w.heap.size, 0, none⟩) HO3.out (Nat.lt_succ_of_lt hRlt) (.int .i64 (verbOf w0))) (Nat.lt_succ_of_lt hRlt) (.slice ad2 ns.length cap2))
            have d0 := HR4.out.c0
            have d1 := HR4.out.c1
            refine bodyPost_ret (v := .tuple #[.agg #[.int .i64 (verbOf w0), .slice ad2 ns.length cap2], .int .i64 0]) ?_ rfl ⟨verbOf w0, ns, ad2, cap2, 0, rfl, HHT.out, by omega, ints_row HO4.out, HB2.out⟩
            simp [results, Tryz.f6, go_sem, d0, d1]
end Go.Proofs.YtciljkcicfphdaaGreatDoor
