/- The closed fact 'returns': a program of four instructions. -/
import Derived.Test.YtmgngapkgcofnaaRunW
namespace Go.Proofs.Ytmgngapkgcofnaa
open Go.RowKit

def fourL : List Ins := [⟨1, 0, 0, 0⟩, ⟨4, 1, 0, 5⟩, ⟨8, 0, 0, 1⟩, ⟨8, 0, 0, 2⟩]
theorem four_check : checkF fourL = 0 := by decide
theorem four_run : runF fourL ⟨0, 5, 0, 0, 0, 0⟩ fourL.length 0 0 0 = (2, 3) := by decide
theorem four_row (w : World) : InsRow (w.alloc (.cells #[.int .i64 1, .int .i64 0, .int .i64 0, .int .u32 0, .int .i64 4, .int .i64 1, .int .i64 0, .int .u32 5, .int .i64 8, .int .i64 0, .int .i64 0, .int .u32 1, .int .i64 8, .int .i64 0, .int .i64 0, .int .u32 2] 42)) w.heap.size 0 fourL := by
  intro i x hx
  match i, hx with
  | 0, hx | 1, hx | 2, hx | 3, hx => simp [fourL] at hx; subst hx; simp
  | i + 4, hx => simp [fourL] at hx
theorem four_ok : ∀ x ∈ fourL, x.ok := by
  intro x hx
  simp only [fourL, List.mem_cons, List.not_mem_nil, or_false] at hx
  rcases hx with rfl | rfl | rfl | rfl <;> constructor <;> decide

set_option maxRecDepth 100000 in
theorem four_calls (w : World) : Calls Try.prog 25 #[.slice (some ⟨w.heap.size, 0, none⟩) 4 4, .agg #[.int .u32 0, .int .u32 5, .int .u64 0, .int .u64 0, .int .u64 0, .int .u64 0]]
    (w.alloc (.cells #[.int .i64 1, .int .i64 0, .int .i64 0, .int .u32 0, .int .i64 4, .int .i64 1, .int .i64 0, .int .u32 5, .int .i64 8, .int .i64 0, .int .i64 0, .int .u32 1, .int .i64 8, .int .i64 0, .int .i64 0, .int .u32 2] 42)) fun e w' =>
      e = .returned (.tuple #[.int .u32 2, .int .i64 3, .nilIface]) ∧ Below w.heap.size w w' := by
  refine (run_ok w.heap.size 0 4 fourL ⟨0, 5, 0, 0, 0, 0⟩ _ (four_row w) (by simp) four_ok (by simp [CallD.ok, u32ok, u64ok]) four_check).mono ?_
  rintro e w' ⟨he, hb⟩
  rw [four_run] at he
  exact ⟨he, below_box (Below.refl _ _) (Nat.le_refl _) hb⟩

set_option maxRecDepth 100000 in
theorem returns_any (w : World) : Calls Try.prog 11 #[] w fun e w' => e = .returned (.bool true) ∧ Below w.heap.size w w' := by
  have HC := Lib.hid four_calls
  have hs := same_any 0 0
  have HS : Hid (∀ w, Calls Try.prog 14 #[.nilIface, .int .i64 0] w fun e w' => e = .returned (.bool true) ∧ w = w') := fun w => hs w (by omega)
  clear hs
  go_enter Try.func11, Try.ntmps11
  go_wp2_with (first
    | (go_at_call 25; refine (HC.out _).mono ?_; rintro e w1 ⟨rfl, hb1⟩)
    | (go_at_call 14; refine (HS.out _).mono ?_; rintro e w2 ⟨rfl, rfl⟩))
  go_ret
  exact ⟨rfl, by assumption⟩

end Go.Proofs.Ytmgngapkgcofnaa
