/- The reference's array of 24 words, read at each of its places; for every world. -/
import Derived.Test.YtciljkcicfphdaaGreatDoorW1
import Derived.Deep.WholeRow
namespace Go.Proofs.YtciljkcicfphdaaGreatDoor
open Go.RowKit
theorem below_row {B : Nat} {a w : World} {g : Nat} {cs : Array Value} (h : Below B a w) (hg : B ≤ g) : Below B a (w.setRow g cs) :=
  h.trans ⟨rfl, rfl, rfl, by simp, fun k hk => setRow_other w g k cs (by omega)⟩

def manyV : Array Value := #[.int .i64 0, .int .i64 6, .int .i64 4, .int .i64 4, .int .i64 3, .int .i64 3, .int .i64 2, .int .i64 1, .int .i64 6, .int .i64 5, .int .i64 4, .int .i64 1, .int .i64 1, .int .i64 3, .int .i64 3, .int .i64 4, .int .i64 3, .int .i64 3, .int .i64 1, .int .i64 1, .int .i64 2, .int .i64 4, .int .i64 1, .int .i64 3]
set_option maxRecDepth 100000 in
set_option maxHeartbeats 400000 in
theorem many_any (w : World) : Calls Tryz.prog 29 #[] w fun e w' => e = .returned (.agg manyV) ∧ Below w.heap.size w w' := by
  go_enter Tryz.func29, Tryz.ntmps29
  go_wp2_with (refine wpList_store_row rfl 70 _ _ rfl w.heap.size manyV rfl rfl 70 #[.int .i64 0, .int .i64 0, .int .i64 0, .int .i64 0, .int .i64 0, .int .i64 0, .int .i64 0, .int .i64 0, .int .i64 0, .int .i64 0, .int .i64 0, .int .i64 0, .int .i64 0, .int .i64 0, .int .i64 0, .int .i64 0, .int .i64 0, .int .i64 0, .int .i64 0, .int .i64 0, .int .i64 0, .int .i64 0, .int .i64 0, .int .i64 0] (heap_alloc_new w _) (by kernel_rfl) rfl (by kernel_rfl) ?_)
  exact bodyPost_ret (results_cell_row rfl _ _ w.heap.size 70 manyV (0, 0) _ rfl (setRow_heap _ _ _ _ _ _ (heap_alloc_new w _)) Tryz.underlying70 rfl (by kernel_rfl)) rfl ⟨rfl, below_row ((Below.refl _ w).alloc (Nat.le_refl _) _) (Nat.le_refl _)⟩

def wordsV : Array Value := #[.string ⟨#[]⟩, .string ⟨#[114, 101, 97, 100]⟩, .string ⟨#[110, 111, 116, 101]⟩, .string ⟨#[99, 111, 109, 101]⟩, .string ⟨#[102, 105, 108, 108]⟩, .string ⟨#[112, 111, 117, 114]⟩, .string ⟨#[108, 111, 115, 101]⟩, .string ⟨#[114, 105, 110, 115, 101]⟩, .string ⟨#[116, 97, 115, 116, 101]⟩, .string ⟨#[115, 101, 101]⟩, .string ⟨#[104, 105, 114, 101]⟩, .string ⟨#[100, 105, 115, 109, 105, 115, 115]⟩, .string ⟨#[110, 111, 116, 99, 104]⟩, .string ⟨#[98, 105, 108, 108]⟩, .string ⟨#[112, 97, 121]⟩, .string ⟨#[110, 101, 101, 100]⟩, .string ⟨#[99, 108, 97, 105, 109]⟩, .string ⟨#[106, 111, 105, 110]⟩, .string ⟨#[115, 116, 111, 112]⟩, .string ⟨#[99, 108, 111, 115, 101]⟩, .string ⟨#[103, 117, 97, 114, 100]⟩, .string ⟨#[111, 114, 100, 101, 114]⟩, .string ⟨#[100, 114, 111, 112]⟩, .string ⟨#[97, 115, 107]⟩]
set_option maxRecDepth 100000 in
set_option maxHeartbeats 400000 in
theorem words_any (w : World) : Calls Tryz.prog 17 #[] w fun e w' => e = .returned (.agg wordsV) ∧ Below w.heap.size w w' := by
  go_enter Tryz.func17, Tryz.ntmps17
  go_wp2_with (refine wpList_store_row rfl 54 _ _ rfl w.heap.size wordsV rfl rfl 54 #[.string ⟨#[]⟩, .string ⟨#[]⟩, .string ⟨#[]⟩, .string ⟨#[]⟩, .string ⟨#[]⟩, .string ⟨#[]⟩, .string ⟨#[]⟩, .string ⟨#[]⟩, .string ⟨#[]⟩, .string ⟨#[]⟩, .string ⟨#[]⟩, .string ⟨#[]⟩, .string ⟨#[]⟩, .string ⟨#[]⟩, .string ⟨#[]⟩, .string ⟨#[]⟩, .string ⟨#[]⟩, .string ⟨#[]⟩, .string ⟨#[]⟩, .string ⟨#[]⟩, .string ⟨#[]⟩, .string ⟨#[]⟩, .string ⟨#[]⟩, .string ⟨#[]⟩] (heap_alloc_new w _) (by kernel_rfl) rfl (by kernel_rfl) ?_)
  exact bodyPost_ret (results_cell_row rfl _ _ w.heap.size 54 wordsV (0, 0) _ rfl (setRow_heap _ _ _ _ _ _ (heap_alloc_new w _)) Tryz.underlying54 rfl (by kernel_rfl)) rfl ⟨rfl, below_row ((Below.refl _ w).alloc (Nat.le_refl _) _) (Nat.le_refl _)⟩
theorem many_at0 (w : World) : (Instr.index 70 (.agg manyV) (.int .i64 0)).run Tryz.prog w = .ok (.int .i64 (many 0)) w := by kernel_rfl
theorem many_at1 (w : World) : (Instr.index 70 (.agg manyV) (.int .i64 1)).run Tryz.prog w = .ok (.int .i64 (many 1)) w := by kernel_rfl
theorem many_at2 (w : World) : (Instr.index 70 (.agg manyV) (.int .i64 2)).run Tryz.prog w = .ok (.int .i64 (many 2)) w := by kernel_rfl
theorem many_at3 (w : World) : (Instr.index 70 (.agg manyV) (.int .i64 3)).run Tryz.prog w = .ok (.int .i64 (many 3)) w := by kernel_rfl
theorem many_at4 (w : World) : (Instr.index 70 (.agg manyV) (.int .i64 4)).run Tryz.prog w = .ok (.int .i64 (many 4)) w := by kernel_rfl
theorem many_at5 (w : World) : (Instr.index 70 (.agg manyV) (.int .i64 5)).run Tryz.prog w = .ok (.int .i64 (many 5)) w := by kernel_rfl
theorem many_at6 (w : World) : (Instr.index 70 (.agg manyV) (.int .i64 6)).run Tryz.prog w = .ok (.int .i64 (many 6)) w := by kernel_rfl
theorem many_at7 (w : World) : (Instr.index 70 (.agg manyV) (.int .i64 7)).run Tryz.prog w = .ok (.int .i64 (many 7)) w := by kernel_rfl
theorem many_at8 (w : World) : (Instr.index 70 (.agg manyV) (.int .i64 8)).run Tryz.prog w = .ok (.int .i64 (many 8)) w := by kernel_rfl
theorem many_at9 (w : World) : (Instr.index 70 (.agg manyV) (.int .i64 9)).run Tryz.prog w = .ok (.int .i64 (many 9)) w := by kernel_rfl
theorem many_at10 (w : World) : (Instr.index 70 (.agg manyV) (.int .i64 10)).run Tryz.prog w = .ok (.int .i64 (many 10)) w := by kernel_rfl
theorem many_at11 (w : World) : (Instr.index 70 (.agg manyV) (.int .i64 11)).run Tryz.prog w = .ok (.int .i64 (many 11)) w := by kernel_rfl
theorem many_at12 (w : World) : (Instr.index 70 (.agg manyV) (.int .i64 12)).run Tryz.prog w = .ok (.int .i64 (many 12)) w := by kernel_rfl
theorem many_at13 (w : World) : (Instr.index 70 (.agg manyV) (.int .i64 13)).run Tryz.prog w = .ok (.int .i64 (many 13)) w := by kernel_rfl
theorem many_at14 (w : World) : (Instr.index 70 (.agg manyV) (.int .i64 14)).run Tryz.prog w = .ok (.int .i64 (many 14)) w := by kernel_rfl
theorem many_at15 (w : World) : (Instr.index 70 (.agg manyV) (.int .i64 15)).run Tryz.prog w = .ok (.int .i64 (many 15)) w := by kernel_rfl
theorem many_at16 (w : World) : (Instr.index 70 (.agg manyV) (.int .i64 16)).run Tryz.prog w = .ok (.int .i64 (many 16)) w := by kernel_rfl
theorem many_at17 (w : World) : (Instr.index 70 (.agg manyV) (.int .i64 17)).run Tryz.prog w = .ok (.int .i64 (many 17)) w := by kernel_rfl
theorem many_at18 (w : World) : (Instr.index 70 (.agg manyV) (.int .i64 18)).run Tryz.prog w = .ok (.int .i64 (many 18)) w := by kernel_rfl
theorem many_at19 (w : World) : (Instr.index 70 (.agg manyV) (.int .i64 19)).run Tryz.prog w = .ok (.int .i64 (many 19)) w := by kernel_rfl
theorem many_at20 (w : World) : (Instr.index 70 (.agg manyV) (.int .i64 20)).run Tryz.prog w = .ok (.int .i64 (many 20)) w := by kernel_rfl
theorem many_at21 (w : World) : (Instr.index 70 (.agg manyV) (.int .i64 21)).run Tryz.prog w = .ok (.int .i64 (many 21)) w := by kernel_rfl
theorem many_at22 (w : World) : (Instr.index 70 (.agg manyV) (.int .i64 22)).run Tryz.prog w = .ok (.int .i64 (many 22)) w := by kernel_rfl
theorem many_at23 (w : World) : (Instr.index 70 (.agg manyV) (.int .i64 23)).run Tryz.prog w = .ok (.int .i64 (many 23)) w := by kernel_rfl
theorem many_at (v : Nat) (h : v < 24) (w : World) : (Instr.index 70 (.agg manyV) (.int .i64 v)).run Tryz.prog w = .ok (.int .i64 (many v)) w := by
  match v, h with
  | 0, _ => exact many_at0 w
  | 1, _ => exact many_at1 w
  | 2, _ => exact many_at2 w
  | 3, _ => exact many_at3 w
  | 4, _ => exact many_at4 w
  | 5, _ => exact many_at5 w
  | 6, _ => exact many_at6 w
  | 7, _ => exact many_at7 w
  | 8, _ => exact many_at8 w
  | 9, _ => exact many_at9 w
  | 10, _ => exact many_at10 w
  | 11, _ => exact many_at11 w
  | 12, _ => exact many_at12 w
  | 13, _ => exact many_at13 w
  | 14, _ => exact many_at14 w
  | 15, _ => exact many_at15 w
  | 16, _ => exact many_at16 w
  | 17, _ => exact many_at17 w
  | 18, _ => exact many_at18 w
  | 19, _ => exact many_at19 w
  | 20, _ => exact many_at20 w
  | 21, _ => exact many_at21 w
  | 22, _ => exact many_at22 w
  | 23, _ => exact many_at23 w
  | n + 24, h => exact absurd h (by omega)
theorem words_at0 (w : World) : (Instr.index 54 (.agg wordsV) (.int .i64 0)).run Tryz.prog w = .ok (.string (wordB 0)) w := by kernel_rfl
theorem words_at1 (w : World) : (Instr.index 54 (.agg wordsV) (.int .i64 1)).run Tryz.prog w = .ok (.string (wordB 1)) w := by kernel_rfl
theorem words_at2 (w : World) : (Instr.index 54 (.agg wordsV) (.int .i64 2)).run Tryz.prog w = .ok (.string (wordB 2)) w := by kernel_rfl
theorem words_at3 (w : World) : (Instr.index 54 (.agg wordsV) (.int .i64 3)).run Tryz.prog w = .ok (.string (wordB 3)) w := by kernel_rfl
theorem words_at4 (w : World) : (Instr.index 54 (.agg wordsV) (.int .i64 4)).run Tryz.prog w = .ok (.string (wordB 4)) w := by kernel_rfl
theorem words_at5 (w : World) : (Instr.index 54 (.agg wordsV) (.int .i64 5)).run Tryz.prog w = .ok (.string (wordB 5)) w := by kernel_rfl
theorem words_at6 (w : World) : (Instr.index 54 (.agg wordsV) (.int .i64 6)).run Tryz.prog w = .ok (.string (wordB 6)) w := by kernel_rfl
theorem words_at7 (w : World) : (Instr.index 54 (.agg wordsV) (.int .i64 7)).run Tryz.prog w = .ok (.string (wordB 7)) w := by kernel_rfl
theorem words_at8 (w : World) : (Instr.index 54 (.agg wordsV) (.int .i64 8)).run Tryz.prog w = .ok (.string (wordB 8)) w := by kernel_rfl
theorem words_at9 (w : World) : (Instr.index 54 (.agg wordsV) (.int .i64 9)).run Tryz.prog w = .ok (.string (wordB 9)) w := by kernel_rfl
theorem words_at10 (w : World) : (Instr.index 54 (.agg wordsV) (.int .i64 10)).run Tryz.prog w = .ok (.string (wordB 10)) w := by kernel_rfl
theorem words_at11 (w : World) : (Instr.index 54 (.agg wordsV) (.int .i64 11)).run Tryz.prog w = .ok (.string (wordB 11)) w := by kernel_rfl
theorem words_at12 (w : World) : (Instr.index 54 (.agg wordsV) (.int .i64 12)).run Tryz.prog w = .ok (.string (wordB 12)) w := by kernel_rfl
theorem words_at13 (w : World) : (Instr.index 54 (.agg wordsV) (.int .i64 13)).run Tryz.prog w = .ok (.string (wordB 13)) w := by kernel_rfl
theorem words_at14 (w : World) : (Instr.index 54 (.agg wordsV) (.int .i64 14)).run Tryz.prog w = .ok (.string (wordB 14)) w := by kernel_rfl
theorem words_at15 (w : World) : (Instr.index 54 (.agg wordsV) (.int .i64 15)).run Tryz.prog w = .ok (.string (wordB 15)) w := by kernel_rfl
theorem words_at16 (w : World) : (Instr.index 54 (.agg wordsV) (.int .i64 16)).run Tryz.prog w = .ok (.string (wordB 16)) w := by kernel_rfl
theorem words_at17 (w : World) : (Instr.index 54 (.agg wordsV) (.int .i64 17)).run Tryz.prog w = .ok (.string (wordB 17)) w := by kernel_rfl
theorem words_at18 (w : World) : (Instr.index 54 (.agg wordsV) (.int .i64 18)).run Tryz.prog w = .ok (.string (wordB 18)) w := by kernel_rfl
theorem words_at19 (w : World) : (Instr.index 54 (.agg wordsV) (.int .i64 19)).run Tryz.prog w = .ok (.string (wordB 19)) w := by kernel_rfl
theorem words_at20 (w : World) : (Instr.index 54 (.agg wordsV) (.int .i64 20)).run Tryz.prog w = .ok (.string (wordB 20)) w := by kernel_rfl
theorem words_at21 (w : World) : (Instr.index 54 (.agg wordsV) (.int .i64 21)).run Tryz.prog w = .ok (.string (wordB 21)) w := by kernel_rfl
theorem words_at22 (w : World) : (Instr.index 54 (.agg wordsV) (.int .i64 22)).run Tryz.prog w = .ok (.string (wordB 22)) w := by kernel_rfl
theorem words_at23 (w : World) : (Instr.index 54 (.agg wordsV) (.int .i64 23)).run Tryz.prog w = .ok (.string (wordB 23)) w := by kernel_rfl
theorem words_at (v : Nat) (h : v < 24) (w : World) : (Instr.index 54 (.agg wordsV) (.int .i64 v)).run Tryz.prog w = .ok (.string (wordB v)) w := by
  match v, h with
  | 0, _ => exact words_at0 w
  | 1, _ => exact words_at1 w
  | 2, _ => exact words_at2 w
  | 3, _ => exact words_at3 w
  | 4, _ => exact words_at4 w
  | 5, _ => exact words_at5 w
  | 6, _ => exact words_at6 w
  | 7, _ => exact words_at7 w
  | 8, _ => exact words_at8 w
  | 9, _ => exact words_at9 w
  | 10, _ => exact words_at10 w
  | 11, _ => exact words_at11 w
  | 12, _ => exact words_at12 w
  | 13, _ => exact words_at13 w
  | 14, _ => exact words_at14 w
  | 15, _ => exact words_at15 w
  | 16, _ => exact words_at16 w
  | 17, _ => exact words_at17 w
  | 18, _ => exact words_at18 w
  | 19, _ => exact words_at19 w
  | 20, _ => exact words_at20 w
  | 21, _ => exact words_at21 w
  | 22, _ => exact words_at22 w
  | 23, _ => exact words_at23 w
  | n + 24, h => exact absurd h (by omega)
end Go.Proofs.YtciljkcicfphdaaGreatDoor
