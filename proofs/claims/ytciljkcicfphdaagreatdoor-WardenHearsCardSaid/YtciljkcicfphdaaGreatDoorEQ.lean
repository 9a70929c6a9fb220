/- What the model answers where two arrays of three integers are compared: true just where all three pairs are equal; for every value of each. -/
import Derived.Test.YtciljkcicfphdaaGreatDoorW1
import Derived.Laws.StructEq
namespace Go.Proofs.YtciljkcicfphdaaGreatDoor
open Go.RowKit
theorem part3 (k : Nat) (v : Value) (cs : Array Value) (h : cs[k]? = some v) (W : World) : (part 3 cs k).run Tryz.prog W = .ok v W := by
  simp [part, go_sem, h]
theorem equal3 (x y : Int) (W : World) : (Op.equalIn 9999 3 (.int .i64 x) (.int .i64 y)).run Tryz.prog W = .ok (x == y) W := run_equalIn_int W 9998 3 .i64 .i64 x y Tryz.underlying3
theorem size3 (W : World) : (sizeOf 3).run Tryz.prog W = .ok 1 W := by kernel_rfl
set_option maxRecDepth 20000 in
theorem eq3 (a b c d e f : Int) (W : World) : (Op.equalIn 10000 43 (.agg #[.int .i64 a, .int .i64 b, .int .i64 c]) (.agg #[.int .i64 d, .int .i64 e, .int .i64 f])).run Tryz.prog W = .ok (a == d && (b == e && c == f)) W := by
  show (Op.equalIn (9999 + 1) 43 _ _).run Tryz.prog W = _
  rw [Op.equalIn]
  simp only [Sem.run_bind, run_underlying Tryz.underlying43, Result.andThen_ok, size3]
  rw [Std.Legacy.Range.forIn_eq_forIn_range']
  have e0 := part3 0 (.int .i64 a) #[.int .i64 a, .int .i64 b, .int .i64 c] rfl
  have e1 := part3 1 (.int .i64 b) #[.int .i64 a, .int .i64 b, .int .i64 c] rfl
  have e2 := part3 2 (.int .i64 c) #[.int .i64 a, .int .i64 b, .int .i64 c] rfl
  have k0 := part3 0 (.int .i64 d) #[.int .i64 d, .int .i64 e, .int .i64 f] rfl
  have k1 := part3 1 (.int .i64 e) #[.int .i64 d, .int .i64 e, .int .i64 f] rfl
  have k2 := part3 2 (.int .i64 f) #[.int .i64 d, .int .i64 e, .int .i64 f] rfl
  show (Sem.run Tryz.prog (forIn [0, 1, 2] _ _) W).andThen _ = _
  simp only [List.forIn_cons, List.forIn_nil, Sem.run_bind, Nat.zero_mul, Nat.mul_one, e0, e1, e2, k0, k1, k2, Result.andThen_ok, equal3]
  cases h1 : (a == d) <;> cases h2 : (b == e) <;> cases h3 : (c == f) <;> simp [Sem.run_bind, e0, e1, e2, k0, k1, k2, equal3, h1, h2, h3]
end Go.Proofs.YtciljkcicfphdaaGreatDoor
