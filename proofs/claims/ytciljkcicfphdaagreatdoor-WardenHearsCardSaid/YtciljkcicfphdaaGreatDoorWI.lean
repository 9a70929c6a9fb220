/- The program's iterator over the words of a line keeps the contract of an iterator with a state; for every line of at most 400 letters. -/
import Derived.Test.YtciljkcicfphdaaGreatDoorWS
import Derived.Test.YtciljkcicfphdaaGreatDoorW9
import Derived.Test.YtciljkcicfphdaaGreatDoorR0
import Derived.Shelf.Abstract
import Derived.Shelf.RegionOpen
import Derived.OwnWalkIn
import Derived.TacticsInMore
import Derived.LoopNIn
import Derived.LoopIn
namespace Go.Proofs.YtciljkcicfphdaaGreatDoor
open Go.RowKit Go.Shelf
attribute [local go_sem] Oper.semAt_some
/-! ### fields, and what its iterator promises -/
set_option maxHeartbeats 400000 in
theorem fields_any (l : List UInt8) (w : World) :
    Calls Tryz.prog 10 #[.string ⟨l.toArray⟩, .int .u8 32] w fun e w' => e = .returned (.func (.func 24) #[] #[.pointer (some ⟨w.heap.size, 0, none⟩), .pointer (some ⟨w.heap.size + 1, 0, none⟩)]) ∧
      w' = (w.alloc (.cells #[bstr l] 9)).alloc (.cells #[.int .u8 32] 5) := by
  go_enter Tryz.func10, Tryz.ntmps10
  go_wp2
  go_ret
  exact ⟨rfl, rfl⟩
theorem cut_any (l : List UInt8) (hl : l.length ≤ 400) (m : Int) (w : World) (hm : w.cell? ⟨2, 0, none⟩ = some (.int .i64 m)) :
    Calls Tryz.prog 25 #[.string ⟨l.toArray⟩, .string ⟨#[32]⟩] w fun e w' => e = .returned (.tuple #[bstr (Lib.cut l [32]).1, bstr (Lib.cut l [32]).2.1, .bool (Lib.cut l [32]).2.2]) ∧ Below w.heap.size w w' :=
  (Tryz.strings_Cut ⟨l.toArray⟩ ⟨#[32]⟩ m w (by show l.length < _; omega) hm).mono fun e w' ⟨he, n, hw⟩ => ⟨he, by rw [hw]; exact below_drewN (Below.refl _ _) n⟩
/-- a word, and whether it is the last one -/
abbrev Wd := { x : List UInt8 × Bool // x.1.length ≤ 400 }
def wds (l : List Wd) : List (List UInt8) := l.map (·.1.1)
theorem wds_snoc (l : List Wd) (x : Wd) : wds (l ++ [x]) = wds l ++ [x.1.1] := by simp [wds]
def StS (b0 : Nat) (A B : World) : Prop := ∃ u : List UInt8, B = A.setCell ⟨b0, 0, none⟩ (bstr u)
def KpS (H b0 b1 : Nat) (A B : World) : Prop := A.heap.size ≤ B.heap.size ∧ ∀ k, (k < H ∨ k = b0 ∨ k = b1) → k < A.heap.size → B.heap[k]? = A.heap[k]?
theorem KpS_t {H b0 b1 : Nat} {A B C : World} (h : KpS H b0 b1 A B) (k : KpS H b0 b1 B C) : KpS H b0 b1 A C :=
  ⟨Nat.le_trans h.1 k.1, fun i hi hlt => (k.2 i hi (Nat.lt_of_lt_of_le hlt h.1)).trans (h.2 i hi hlt)⟩
theorem KpS_b {H b0 b1 S : Nat} (hH : H ≤ S) (h0 : b0 < S) (h1 : b1 < S) : ∀ (W : World) (l : Nat) (o' : Obj), S ≤ l → KpS H b0 b1 W (W.putObj l o') := fun W l o' hl =>
  ⟨(grownBy_putObj' W l o').size, fun k hk hlt => (grownBy_putObj' W l o').block k hlt (fun e => by cases e; omega)⟩
theorem KpS.boxed {H b0 b1 : Nat} {A B : World} {b : Nat} {t : TypeId} {v : Value} (h : KpS H b0 b1 A B) (hb : Boxed A b t v) (hk : b < H ∨ b = b0 ∨ b = b1) : Boxed B b t v := (h.2 b hk hb.lt).trans hb
theorem KpS.cell {H b0 b1 : Nat} {A B : World} {b o : Nat} {v : Value} (h : KpS H b0 b1 A B) (hc : A.cell? ⟨b, o, none⟩ = some v) (hk : b < H ∨ b = b0 ∨ b = b1) : B.cell? ⟨b, o, none⟩ = some v :=
  (World.cell?_of_block (w := A) (h.2 b hk (cell_lt hc))).trans hc
theorem boxed_below {W W' : World} {b C : Nat} {t : TypeId} {v : Value} (h : Boxed W b t v) (hb : Below C W W') (hC : b < C) : Boxed W' b t v := (hb.block b hC).trans h
theorem StS_keeps {b0 : Nat} (A B : World) (h : StS b0 A B) : KeepsOthers A B := by
  obtain ⟨u, rfl⟩ := h
  exact KeepsOthers.setCell _ _ _
def leftS (w : World) (b0 : Nat) : Nat := match w.cell? ⟨b0, 0, none⟩ with | some (.string s) => s.size | _ => 0
theorem leftS_box {w : World} {b0 : Nat} {l : List UInt8} (h : Boxed w b0 9 (bstr l)) : leftS w b0 = l.length := by
  rw [leftS, h.cell]
  rfl
set_option maxRecDepth 100000 in
set_option maxHeartbeats 2000000 in
theorem itF_any (n : Nat) (hn : 1 ≤ n) (l b0 b1 H : Nat) (line : List UInt8) (hl : line.length ≤ 400) (m : Int) (J Jx : List Wd → World → Prop)
    (hJ : ∀ s A B, J s A → Below A.heap.size A B → J s B) (hJS : ∀ s A B, J s A → StS b0 A B → J s B)
    (hY : ∀ pre x W, J pre W → pre.length < (splitL line).length → YieldAt Fence.wide (n - 1) Tryz.prog l #[bstr x.1.1, .bool x.1.2] W fun e W' =>
      (e = .returned (.bool true) ∧ J (pre ++ [x]) W' ∧ KpS H b0 b1 W W') ∨ (e = .returned (.bool false) ∧ Jx (pre ++ [x]) W'))
    (W : World) (h0 : Boxed W b0 9 (bstr line)) (h1 : Boxed W b1 5 (.int .u8 32)) (hm : W.cell? ⟨2, 0, none⟩ = some (.int .i64 m)) (hH : 2 < H) (hHb : H ≤ b0) (hne : b1 ≠ b0) (hj : J [] W) :
    CallsIn Fence.wide n Tryz.prog 24 #[.func (.yield l) #[] #[], .pointer (some ⟨b0, 0, none⟩), .pointer (some ⟨b1, 0, none⟩)] W fun e W' => (∃ v, e = .returned v) ∧
      ((∃ xs, wds xs = splitL line ∧ J xs W') ∨ (∃ pre, wds pre <+: splitL line ∧ Jx pre W')) := by
  have hro : Fence.wide.round = none := rfl
  have w1 : Fence.wide.fn 25 := trivial
  have HJ := Lib.hid hJ
  have HJS := Lib.hid hJS
  have HY := Lib.hid hY
  have H00 := Lib.hid h0
  have H01 := Lib.hid h1
  have HM0 := Lib.hid hm
  clear hJ hJS hY h0 h1 hm
  have henc : Utf8.encode 32 = ⟨#[32]⟩ := rfl
  refine callsIn_of_wp Tryz.func24 rfl trivial ?_ hro
  simp only [Tryz.ntmps24, List.size_toArray, List.length_cons, List.length_nil, Nat.reduceAdd, Nat.reduceSub, Array.replicate_succ, Array.replicate_zero, List.push_toArray, List.append_toArray, List.nil_append, List.cons_append]
  gi_wp2
  gi_loopw [] (fun wr => ∃ pre rest, rest.length ≤ 400 ∧ Hid (J pre wr) ∧ Hid (Boxed wr b0 9 (bstr rest)) ∧ Hid (Boxed wr b1 5 (.int .u8 32)) ∧ Hid (wr.cell? ⟨2, 0, none⟩ = some (.int .i64 m)) ∧ Hid (splitL line = wds pre ++ splitL rest)) (fun wr => leftS wr b0)
  case atStart => exact ⟨[], line, hl, Lib.hid hj, H00, H01, HM0, Lib.hid rfl⟩
  case round =>
    obtain ⟨pre, rest, hr, HP, HB0, HB1, HM, HS⟩ := hrel
    have c0 := HB0.out.cell
    have f0 := HB0.out.frozen
    have c1 := HB1.out.cell
    have hb0 := HB0.out.lt
    have hb1 := HB1.out.lt
    have HC := Lib.hid (cut_any rest hr m wr HM.out)
    have HLEN := Lib.hid (show pre.length < (splitL line).length by
      rw [HS.out, show (wds pre ++ splitL rest).length = pre.length + (splitL rest).length by simp [wds]]
      have : splitL rest ≠ [] := splitAcc_ne rest []
      have := List.length_pos_iff.2 this
      omega)
    rcases cut_words rest with ⟨q1, q2, q3⟩ | ⟨q1, q2, q3⟩
    · rw [q1, q2] at HC
      have HS2 := Lib.hid (show wds (pre ++ [⟨(rest, true), hr⟩]) = splitL line by rw [HS.out, q3, wds_snoc])
      clear q1 q2 q3
      gi_wp2_with (gi_at_call 25; refine (callsIn_wide.2 HC.out).mono ?_; rintro e w2 ⟨rfl, hb⟩; obtain ⟨fn, tmps, assign, body, hy, hR⟩ := HY.out pre ⟨(rest, true), hr⟩ w2 (HJ.out _ _ _ HP.out hb) HLEN.out; have HB := Lib.hid hb; clear hb)
      refine RoundIn.mono (by assumption) ?_
      rintro e W3 (⟨rfl, hJ3, hk3⟩ | ⟨rfl, hJx3⟩)
      · gi_wp2
        refine bodyPost_ret (results_none rfl _ _ _) rfl ?_
        exact ⟨⟨_, rfl⟩, .inl ⟨_, HS2.out, hJ3⟩⟩
      · gi_wp2
        refine bodyPost_ret (results_none rfl _ _ _) rfl ?_
        exact ⟨⟨_, rfl⟩, .inr ⟨_, by rw [HS2.out]; exact List.prefix_refl _, hJx3⟩⟩
    · rw [q1] at HC
      obtain ⟨a, b, hab⟩ : ∃ a b, a = (Lib.cut rest [32]).1 ∧ b = (Lib.cut rest [32]).2.1 := ⟨_, _, rfl, rfl⟩
      rw [← hab.1, ← hab.2] at HC
      rw [← hab.1, ← hab.2] at q2
      rw [← hab.2] at q3
      clear hab
      have ha : a.length ≤ 400 := Nat.le_trans (split_le (l := rest) a (by rw [q2]; exact List.mem_cons_self)) hr
      have HS2 := Lib.hid (show splitL line = wds (pre ++ [⟨(a, false), ha⟩]) ++ splitL b by rw [HS.out, q2, wds_snoc]; simp)
      clear q1 q2
      gi_wp2_with (gi_at_call 25; refine (callsIn_wide.2 HC.out).mono ?_; rintro e w2 ⟨rfl, hb⟩; obtain ⟨fn, tmps, assign, body, hy, hR⟩ := HY.out pre ⟨(a, false), ha⟩ w2 (HJ.out _ _ _ HP.out hb) HLEN.out; have HB := Lib.hid hb; clear hb)
      refine RoundIn.mono (by assumption) ?_
      rintro e W3 (⟨rfl, hJ3, hk3⟩ | ⟨rfl, hJx3⟩)
      · have d0 := Lib.hid (hk3.boxed (boxed_below HB0.out HB.out hb0) (.inr (.inl rfl)))
        have d1 := Lib.hid (hk3.boxed (boxed_below HB1.out HB.out hb1) (.inr (.inr rfl)))
        have dm := Lib.hid (hk3.cell (cell_below HB.out HM.out) (.inl hH))
        have c3 := d0.out.cell
        have f3 := d0.out.frozen
        have HJ3 := Lib.hid (HJS.out _ _ _ hJ3 ⟨b, rfl⟩)
        clear hJ3 hk3
        gi_wp2
        go_roundw
        case rel => exact ⟨pre ++ [⟨(a, false), ha⟩], b, by omega, HJ3, Lib.hid (d0.out.set _), Lib.hid (d1.out.other hne _), Lib.hid (by rw [World.cell?_setCell_other _ _ _ _ (fun e => by have q : b0 = 2 := congrArg Addr.block e; omega)]; exact dm.out), HS2⟩
        case measure =>
          rw [leftS_box (d0.out.set _), leftS_box HB0.out]
          exact q3
      · gi_wp2
        refine bodyPost_ret (results_none rfl _ _ _) rfl ?_
        exact ⟨⟨_, rfl⟩, .inr ⟨_, by rw [HS2.out]; exact List.prefix_append _ _, hJx3⟩⟩
theorem seqF (n : Nat) (hn : 1 ≤ n) (b0 b1 H : Nat) (line : List UInt8) (hl : line.length ≤ 400) (m : Int) (w : World) (h0 : Boxed w b0 9 (bstr line)) (h1 : Boxed w b1 5 (.int .u8 32)) (hm : w.cell? ⟨2, 0, none⟩ = some (.int .i64 m)) (hH : 2 < H) (hHb : H ≤ b0) (hne : b1 ≠ b0) :
    SeqState Fence.wide n Tryz.prog 24 #[.pointer (some ⟨b0, 0, none⟩), .pointer (some ⟨b1, 0, none⟩)] (fun x : Wd => #[bstr x.1.1, .bool x.1.2]) (StS b0) (KpS H b0 b1) (fun xs => wds xs = splitL line) (fun pre => wds pre <+: splitL line) (splitL line).length w :=
  fun l J Jx W hW hJ hJS hY hj => itF_any n hn l b0 b1 H line hl m J Jx hJ hJS hY W (boxed_below h0 hW h0.lt) (boxed_below h1 hW h1.lt) (cell_below hW hm) hH hHb hne hj
end Go.Proofs.YtciljkcicfphdaaGreatDoor
