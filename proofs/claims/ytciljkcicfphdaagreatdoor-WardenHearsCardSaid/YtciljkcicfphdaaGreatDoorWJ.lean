/- What holds between two rounds of the program's range over the words of a line. -/
import Derived.Test.YtciljkcicfphdaaGreatDoorWI
import Derived.Lib.LaidTab
namespace Go.Proofs.YtciljkcicfphdaaGreatDoor
open Go.RowKit
theorem kps_below {H b0 b1 : Nat} {A B : World} (h : Below A.heap.size A B) : KpS H b0 b1 A B := ⟨h.size, fun k _ hlt => h.block k hlt⟩
theorem kps_set {H b0 b1 D : Nat} (A : World) (o : Nat) (v : Value) (h1 : H ≤ D) (h2 : D ≠ b0) (h3 : D ≠ b1) : KpS H b0 b1 A (A.setCell ⟨D, o, none⟩ v) :=
  ⟨by rw [size_setCell]; exact Nat.le_refl _, fun k hk _ => Below.heap_setCell A ⟨D, o, none⟩ v k (by show k ≠ D; omega)⟩
theorem kps_grown {H b0 b1 S : Nat} {A B : World} {row : Option Nat} (hg : A.grownBy B row) (hr : ∀ r, row = some r → S ≤ r) (h1 : H ≤ S) (h2 : b0 < S) (h3 : b1 < S) : KpS H b0 b1 A B :=
  ⟨hg.size, fun k hk hlt => hg.block k hlt (fun e => by have := hr k e.symm; omega)⟩
theorem keeps_below {W W' : World} (h : Below W.heap.size W W') : KeepsOthers W W' :=
  ⟨h.size, fun k _ hk _ => (h.block k (Array.getElem?_eq_some_iff.1 hk).1).trans hk⟩
theorem keeps_row {W W' : World} {base e size n : Nat} {v : Value} {xs : List Value} (h : W.ownsRow base e size v n xs) (hg : W.grownBy W' v.ownBlock) : KeepsOthers W W' :=
  KeepsOthers.of_grownBy hg fun j o e ho => by
    rcases h.2 with ⟨rfl, _⟩ | ⟨g, cap, cur, rfl, _, hgb, _⟩
    · cases e
    · cases e
      rw [hgb] at ho
      cases ho
      rfl
section
variable {S : Nat} {A B : World} {row : Option Nat}
theorem box2_own {D : Nat} {t : TypeId} {x y : Value} (h : Box2 A D t x y) (hg : A.grownBy B row) (hr : ∀ r, row = some r → S ≤ r ∧ ∃ o : Obj, A.heap[r]? = some o ∧ o.isCells = false) (hD : D < S) : Box2 B D t x y :=
  h.kept hg (fun e => by have := (hr D e.symm).1; omega)
theorem box1_own {D : Nat} {t : TypeId} {x : Value} (h : Boxed A D t x) (hg : A.grownBy B row) (hr : ∀ r, row = some r → S ≤ r ∧ ∃ o : Obj, A.heap[r]? = some o ∧ o.isCells = false) (hD : D < S) : Boxed B D t x :=
  h.kept hg (fun e => by have := (hr D e.symm).1; omega)
theorem boxx_own {D : Nat} {t : TypeId} {x : Value} (h : Boxed A D t x) (hg : A.grownBy B row) (hr : ∀ r, row = some r → S ≤ r ∧ ∃ o : Obj, A.heap[r]? = some o ∧ o.isCells = false) : Boxed B D t x :=
  h.kept hg (fun e => by obtain ⟨o, ho, hc⟩ := (hr D e.symm).2; rw [show A.heap[D]? = _ from h] at ho; cases ho; cases hc)
theorem row_own {base e size n : Nat} {v : Value} {xs : List Value} (h : A.ownsRow base e size v n xs) (hg : A.grownBy B row) (hr : ∀ r, row = some r → S ≤ r ∧ ∃ o : Obj, A.heap[r]? = some o ∧ o.isCells = false) : B.ownsRow base e size v n xs := by
  refine h.kept hg ?_
  rcases h.2 with ⟨rfl, _⟩ | ⟨g, cap, cur, rfl, _, hgb, _⟩
  · exact .inl rfl
  · refine .inr fun e' => ?_
    obtain ⟨o, ho, hc⟩ := (hr g e'.symm).2
    rw [hgb] at ho
    cases ho
    cases hc
end
/-- between two rounds: S is the heap's size where the loop begins; R, E the results' boxes, D the deed's, F the flag's -/
structure HJ (w : World) (S E D F : Nat) (W : World) (f : Bool) (v : Int) (ns : List Int) (a : Value) : Prop where
  flag : Boxed W F 4 (.bool f)
  deed : Box2 W D 24 (.int .i64 v) a
  row : W.ownsRow S 3 1 a ns.length (ns.map (Value.int .i64))
  res : Box2 W w.heap.size 24 (.int .i64 0) (.slice none 0 0)
  err : Boxed W E 27 (.int .i64 0)
  below : Below w.heap.size w W
  size : S ≤ W.heap.size
def HI (w : World) (S E D F : Nat) (pre : List Wd) (W : World) : Prop := ∃ f v ns a, stateOf (wds pre) = some (f, v, ns) ∧ ns.length ≤ pre.length ∧ HJ w S E D F W f v ns a
def HX (w : World) (E : Nat) (pre : List Wd) (W : World) : Prop := stateOf (wds pre) = none ∧ Box2 W w.heap.size 24 (.int .i64 0) (.slice none 0 0) ∧ Boxed W E 27 (.int .i64 121) ∧ Below w.heap.size w W
section
variable {w : World} {S E D F b0 : Nat}
theorem hi_own (lE : w.heap.size < E) (lD : E < D) (lF : D < F) (lb : F < b0) (lS : b0 < S) : OwnFrom S (HI w S E D F) := fun s A B row hs hg hr => by
  obtain ⟨f, v, ns, a, h1, h2, h⟩ := hs
  exact ⟨f, v, ns, a, h1, h2, box1_own h.flag hg hr (by omega), box2_own h.deed hg hr (by omega), row_own h.row hg hr, box2_own h.res hg hr (by omega), box1_own h.err hg hr (by omega), h.below.grown hg h.below.size (fun k e => by have := (hr k e).1; omega), Nat.le_trans h.size hg.size⟩
theorem hx_own (lE : w.heap.size < E) (lD : E < D) (lF : D < F) (lb : F < b0) (lS : b0 < S) : OwnFrom S (HX w E) := fun s A B row hs hg hr =>
  ⟨hs.1, box2_own hs.2.1 hg hr (by omega), box1_own hs.2.2.1 hg hr (by omega), hs.2.2.2.grown hg hs.2.2.2.size (fun k e => by have := (hr k e).1; omega)⟩
theorem hi_step (lE : w.heap.size < E) (lD : E < D) (lF : D < F) (lb : F < b0) (lS : b0 < S) : ∀ s A B, HI w S E D F s A → StS b0 A B → HI w S E D F s B := fun s A B hs hst => by
  obtain ⟨u, rfl⟩ := hst
  obtain ⟨f, v, ns, a, h1, h2, h⟩ := hs
  exact ⟨f, v, ns, a, h1, h2, h.flag.other (by omega) _, h.deed.other (by omega) _, ownsRow_setCell_below h.row (by show b0 < S; omega) _, h.res.other (by omega) _, h.err.other (by omega) _, h.below.setCell (p := ⟨b0, 0, none⟩) (by show w.heap.size ≤ b0; omega) _, by rw [size_setCell]; exact h.size⟩
end
theorem HJ.alloc {w W : World} {S E D F : Nat} {f : Bool} {v : Int} {ns : List Int} {a : Value} (h : HJ w S E D F W f v ns a) (o : Obj) : HJ w S E D F (W.alloc o) f v ns a :=
  ⟨h.flag.alloc o, h.deed.alloc o, h.row.alloc o, h.res.alloc o, h.err.alloc o, h.below.alloc h.below.size o, by rw [World.size_alloc]; exact Nat.le_succ_of_le h.size⟩
theorem HJ.below' {w W W' : World} {S E D F : Nat} {f : Bool} {v : Int} {ns : List Int} {a : Value} (h : HJ w S E D F W f v ns a) (hb : Below W.heap.size W W') : HJ w S E D F W' f v ns a :=
  ⟨boxed_below h.flag hb h.flag.lt, h.deed.below hb h.deed.lt, ownsRow_below h.row hb, h.res.below hb h.res.lt, boxed_below h.err hb h.err.lt, h.below.trans (hb.mono h.below.size), Nat.le_trans h.size hb.size⟩
section
variable {w W W' : World} {S E D F : Nat} {f : Bool} {v : Int} {ns : List Int} {a : Value}
theorem HJ.setFlag (lE : w.heap.size < E) (lD : E < D) (lF : D < F) (lS : F < S) (h : HJ w S E D F W f v ns a) (f' : Bool) : HJ w S E D F (W.setCell ⟨F, 0, none⟩ (.bool f')) f' v ns a :=
  ⟨h.flag.set _, h.deed.other (by omega) _, ownsRow_setCell_below h.row (by show F < S; omega) _, h.res.other (by omega) _, h.err.other (by omega) _, h.below.setCell (p := ⟨F, 0, none⟩) (by show w.heap.size ≤ F; omega) _, by rw [size_setCell]; exact h.size⟩
theorem boxed_other1 (_ : w.heap.size < E) (_ : E < D) (_ : D < F) (_ : F < S) {b : Nat} {t : TypeId} {u x : Value} {o : Nat} {B : Nat} (h : Boxed W b t x) (hne : b ≠ B) : Boxed (W.setCell ⟨B, o, none⟩ u) b t x := h.kept (grownBy_setCell W B o u) (fun e => hne (by cases e; rfl))
theorem HJ.setVerb (lE : w.heap.size < E) (lD : E < D) (lF : D < F) (lS : F < S) (h : HJ w S E D F W f v ns a) (v' : Int) : HJ w S E D F (W.setCell ⟨D, 0, none⟩ (.int .i64 v')) f v' ns a :=
  ⟨h.flag.other (by omega) _, h.deed.set0 _, ownsRow_setCell_below h.row (by show D < S; omega) _, h.res.other (by omega) _, h.err.other (by omega) _, h.below.setCell (p := ⟨D, 0, none⟩) (by show w.heap.size ≤ D; omega) _, by rw [size_setCell]; exact h.size⟩
/-- behind an append, and the store of what it gave -/
theorem HJ.push (lE : w.heap.size < E) (lD : E < D) (lF : D < F) (lS : F < S) (h : HJ w S E D F W f v ns a) (hg : W.grownBy W' a.ownBlock) {a' : Value} {ns' : List Int} (hr : W'.ownsRow S 3 1 a' ns'.length (ns'.map (Value.int .i64))) : HJ w S E D F (W'.setCell ⟨D, 1, none⟩ a') f v ns' a' := by
  have hne : ∀ k, k < S → some k ≠ a.ownBlock := fun k hk e => by have := (h.row.lt k e.symm).1; omega
  have hdeed : Box2 W' D 24 (.int .i64 v) a := h.deed.kept hg (hne D (by omega))
  have hflag : Boxed W' F 4 (.bool f) := h.flag.kept hg (hne F (by omega))
  have hres : Box2 W' w.heap.size 24 (.int .i64 0) (.slice none 0 0) := h.res.kept hg (hne _ (by omega))
  have herr : Boxed W' E 27 (.int .i64 0) := h.err.kept hg (hne E (by omega))
  have hb : Below w.heap.size w W' := h.below.grown hg h.below.size (fun k e => by have := (h.row.lt k e).1; omega)
  exact ⟨boxed_other1 lE lD lF lS hflag (by omega), hdeed.set1 _, ownsRow_setCell_below hr (by show D < S; omega) _, hres.other (by omega) _, boxed_other1 lE lD lF lS herr (by omega), hb.setCell (p := ⟨D, 1, none⟩) (by show w.heap.size ≤ D; omega) _, by rw [size_setCell]; exact Nat.le_trans h.size hg.size⟩
end
theorem stateOf_len {ws : List (List UInt8)} {f : Bool} {v : Int} {ns : List Int} (h : stateOf ws = some (f, v, ns)) : ns.length ≤ ws.length - 1 := by
  cases ws with
  | nil => simp [stateOf] at h; simp [h.2.2]
  | cons w r =>
    simp only [stateOf, Option.map_eq_some_iff, Prod.mk.injEq] at h
    obtain ⟨ns', h1, _, _, rfl⟩ := h
    have := Lib.mapM_length h1
    simp
    omega
end Go.Proofs.YtciljkcicfphdaaGreatDoor
