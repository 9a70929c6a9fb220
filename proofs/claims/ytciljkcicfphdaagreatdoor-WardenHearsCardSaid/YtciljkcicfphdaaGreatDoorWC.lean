/- The arguments of the law, read. -/
import Derived.Test.YtciljkcicfphdaaGreatDoorWS
import Derived.Lib.SmallJoins
import Derived.ChangeSlices
import Derived.OpenShut
namespace Go.Proofs.YtciljkcicfphdaaGreatDoor
open Go Go.RowKit Go.Joins Go.ChangeShapes Go.WideShapes Go.Deep
theorem deed_open {H : Type} {enc : TypeId × Value → H} {P : Program} {w : World} {base : Nat} {sp : Nat → Bool} {held : Bool} {r : Reach} {b0 : Nat} {t e : TypeId} {f0 f1 : Field} {v : Value} {d : DataW H} {p : List MemPlace}
    (hs : P.underlying t = some (.struct #[f0, f1])) (hone : oneCellFields P #[f0, f1] = true) (hC : P.cellsOf t = 2) (h0 : P.underlying f0.type = some (.int .i64)) (h1 : P.underlying f1.type = some (.slice e)) (he : P.underlying e = some (.int .i64)) (hce : P.cellsOf e = 1)
    (hv : Value.okWide P w r b0 t v) (h : DataW.Trod enc P w base sp held t v d p) :
    ∃ (x : Int) (xs : List Int) (ad : Option Addr) (cap : Nat), v = .agg #[.int .i64 x, .slice ad xs.length cap] ∧ (ad = none → cap = 0) ∧ IntsAt w w.heap.size ad xs := by
  obtain ⟨v0, v1, y0, y1, n, rfl, rfl, rfl, t0, t1⟩ := open_agg2 hs hone hC hv h
  obtain ⟨x, hc, _, _⟩ := DataW.trod_int h0 t0
  have hx : v0 = .int .i64 x := by simpa using hc
  subst hx
  rcases open_ints h1 he hce t1 with ⟨hcs, _⟩ | ⟨a, len, cap, zs, hcs, _, hl, hm, hz, _, hcell, _⟩
  · have hx : v1 = .slice none 0 0 := by simpa using hcs
    subst hx
    exact ⟨x, [], none, 0, rfl, fun _ => rfl, fun i hi => absurd hi (by simp)⟩
  · have hx : v1 = .slice (some a) len cap := by simpa using hcs
    subst hx
    have hlen : len ≤ zs.length := by rw [hz]; split <;> omega
    refine ⟨x, zs.take len, some a, cap, by simp [Nat.min_eq_left hlen], (fun e => by cases e), fun i hi => ?_⟩
    have hi' : i < len := by simp at hi; omega
    obtain ⟨b, off, rfl, hat⟩ := ints_at hcell (by omega)
    have hc := hat i (by omega)
    refine ⟨b, off, rfl, cell_lt hc, ?_⟩
    rw [hc]
    simp [List.getD, show i < zs.length by omega]
end Go.Proofs.YtciljkcicfphdaaGreatDoor
