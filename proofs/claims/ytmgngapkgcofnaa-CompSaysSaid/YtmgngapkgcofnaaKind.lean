/- The reference's Kind: a call's argument's kind, out of a table of texts. -/
import Derived.Test.YtmgngapkgcofnaaBase
namespace Go.Proofs.Ytmgngapkgcofnaa
open Go.RowKit

def kindT : List (List Int) := [[1, 1, 0, 0], [1, 1, 0, 0], [2, 1, 1, 0], [1, 0, 0, 0], [2, 0, 0, 0], [2, 2, 0, 0], [1, 3, 0, 0], [2, 2, 1, 0], [1, 1, 3, 1]]
def kindF (i k : Nat) : Int := (kindT.getD i []).getD k 0
theorem kindIdx0 (w : World) : (Instr.index 181 (.agg #[.string ⟨#[49, 49]⟩, .string ⟨#[49, 49]⟩, .string ⟨#[50, 49, 49]⟩, .string ⟨#[49]⟩, .string ⟨#[50]⟩, .string ⟨#[50, 50]⟩, .string ⟨#[49, 51]⟩, .string ⟨#[50, 50, 49]⟩, .string ⟨#[49, 49, 51, 49]⟩]) (.int .i64 0)).run Try.prog w = .ok (.string ⟨#[49, 49]⟩) w := by kernel_rfl
theorem kindIdx1 (w : World) : (Instr.index 181 (.agg #[.string ⟨#[49, 49]⟩, .string ⟨#[49, 49]⟩, .string ⟨#[50, 49, 49]⟩, .string ⟨#[49]⟩, .string ⟨#[50]⟩, .string ⟨#[50, 50]⟩, .string ⟨#[49, 51]⟩, .string ⟨#[50, 50, 49]⟩, .string ⟨#[49, 49, 51, 49]⟩]) (.int .i64 1)).run Try.prog w = .ok (.string ⟨#[49, 49]⟩) w := by kernel_rfl
theorem kindIdx2 (w : World) : (Instr.index 181 (.agg #[.string ⟨#[49, 49]⟩, .string ⟨#[49, 49]⟩, .string ⟨#[50, 49, 49]⟩, .string ⟨#[49]⟩, .string ⟨#[50]⟩, .string ⟨#[50, 50]⟩, .string ⟨#[49, 51]⟩, .string ⟨#[50, 50, 49]⟩, .string ⟨#[49, 49, 51, 49]⟩]) (.int .i64 2)).run Try.prog w = .ok (.string ⟨#[50, 49, 49]⟩) w := by kernel_rfl
theorem kindIdx3 (w : World) : (Instr.index 181 (.agg #[.string ⟨#[49, 49]⟩, .string ⟨#[49, 49]⟩, .string ⟨#[50, 49, 49]⟩, .string ⟨#[49]⟩, .string ⟨#[50]⟩, .string ⟨#[50, 50]⟩, .string ⟨#[49, 51]⟩, .string ⟨#[50, 50, 49]⟩, .string ⟨#[49, 49, 51, 49]⟩]) (.int .i64 3)).run Try.prog w = .ok (.string ⟨#[49]⟩) w := by kernel_rfl
theorem kindIdx4 (w : World) : (Instr.index 181 (.agg #[.string ⟨#[49, 49]⟩, .string ⟨#[49, 49]⟩, .string ⟨#[50, 49, 49]⟩, .string ⟨#[49]⟩, .string ⟨#[50]⟩, .string ⟨#[50, 50]⟩, .string ⟨#[49, 51]⟩, .string ⟨#[50, 50, 49]⟩, .string ⟨#[49, 49, 51, 49]⟩]) (.int .i64 4)).run Try.prog w = .ok (.string ⟨#[50]⟩) w := by kernel_rfl
theorem kindIdx5 (w : World) : (Instr.index 181 (.agg #[.string ⟨#[49, 49]⟩, .string ⟨#[49, 49]⟩, .string ⟨#[50, 49, 49]⟩, .string ⟨#[49]⟩, .string ⟨#[50]⟩, .string ⟨#[50, 50]⟩, .string ⟨#[49, 51]⟩, .string ⟨#[50, 50, 49]⟩, .string ⟨#[49, 49, 51, 49]⟩]) (.int .i64 5)).run Try.prog w = .ok (.string ⟨#[50, 50]⟩) w := by kernel_rfl
theorem kindIdx6 (w : World) : (Instr.index 181 (.agg #[.string ⟨#[49, 49]⟩, .string ⟨#[49, 49]⟩, .string ⟨#[50, 49, 49]⟩, .string ⟨#[49]⟩, .string ⟨#[50]⟩, .string ⟨#[50, 50]⟩, .string ⟨#[49, 51]⟩, .string ⟨#[50, 50, 49]⟩, .string ⟨#[49, 49, 51, 49]⟩]) (.int .i64 6)).run Try.prog w = .ok (.string ⟨#[49, 51]⟩) w := by kernel_rfl
theorem kindIdx7 (w : World) : (Instr.index 181 (.agg #[.string ⟨#[49, 49]⟩, .string ⟨#[49, 49]⟩, .string ⟨#[50, 49, 49]⟩, .string ⟨#[49]⟩, .string ⟨#[50]⟩, .string ⟨#[50, 50]⟩, .string ⟨#[49, 51]⟩, .string ⟨#[50, 50, 49]⟩, .string ⟨#[49, 49, 51, 49]⟩]) (.int .i64 7)).run Try.prog w = .ok (.string ⟨#[50, 50, 49]⟩) w := by kernel_rfl
theorem kindIdx8 (w : World) : (Instr.index 181 (.agg #[.string ⟨#[49, 49]⟩, .string ⟨#[49, 49]⟩, .string ⟨#[50, 49, 49]⟩, .string ⟨#[49]⟩, .string ⟨#[50]⟩, .string ⟨#[50, 50]⟩, .string ⟨#[49, 51]⟩, .string ⟨#[50, 50, 49]⟩, .string ⟨#[49, 49, 51, 49]⟩]) (.int .i64 8)).run Try.prog w = .ok (.string ⟨#[49, 49, 51, 49]⟩) w := by kernel_rfl

set_option maxRecDepth 100000 in
set_option maxHeartbeats 4000000 in
theorem kind_any (i k : Nat) (w : World) (hi : i < 9) (hk : k < 4) :
    Calls Try.prog 90 #[.int .i64 (i : Int), .int .i64 (k : Int)] w fun e w' => e = .returned (.int .i64 (kindF i k)) ∧ Below w.heap.size w w' := by
  have h1 : i = 0 ∨ i = 1 ∨ i = 2 ∨ i = 3 ∨ i = 4 ∨ i = 5 ∨ i = 6 ∨ i = 7 ∨ i = 8 := by omega
  have h2 : k = 0 ∨ k = 1 ∨ k = 2 ∨ k = 3 := by omega
  clear hi hk
  rcases h1 with rfl | rfl | rfl | rfl | rfl | rfl | rfl | rfl | rfl
  · have hx := kindIdx0
    rcases h2 with rfl | rfl | rfl | rfl
    all_goals
      go_enter Try.func90, Try.ntmps90
      go_wp2
      go_returns
      exact ⟨rfl, by go_grown⟩
  · have hx := kindIdx1
    rcases h2 with rfl | rfl | rfl | rfl
    all_goals
      go_enter Try.func90, Try.ntmps90
      go_wp2
      go_returns
      exact ⟨rfl, by go_grown⟩
  · have hx := kindIdx2
    rcases h2 with rfl | rfl | rfl | rfl
    all_goals
      go_enter Try.func90, Try.ntmps90
      go_wp2
      go_returns
      exact ⟨rfl, by go_grown⟩
  · have hx := kindIdx3
    rcases h2 with rfl | rfl | rfl | rfl
    all_goals
      go_enter Try.func90, Try.ntmps90
      go_wp2
      go_returns
      exact ⟨rfl, by go_grown⟩
  · have hx := kindIdx4
    rcases h2 with rfl | rfl | rfl | rfl
    all_goals
      go_enter Try.func90, Try.ntmps90
      go_wp2
      go_returns
      exact ⟨rfl, by go_grown⟩
  · have hx := kindIdx5
    rcases h2 with rfl | rfl | rfl | rfl
    all_goals
      go_enter Try.func90, Try.ntmps90
      go_wp2
      go_returns
      exact ⟨rfl, by go_grown⟩
  · have hx := kindIdx6
    rcases h2 with rfl | rfl | rfl | rfl
    all_goals
      go_enter Try.func90, Try.ntmps90
      go_wp2
      go_returns
      exact ⟨rfl, by go_grown⟩
  · have hx := kindIdx7
    rcases h2 with rfl | rfl | rfl | rfl
    all_goals
      go_enter Try.func90, Try.ntmps90
      go_wp2
      go_returns
      exact ⟨rfl, by go_grown⟩
  · have hx := kindIdx8
    rcases h2 with rfl | rfl | rfl | rfl
    all_goals
      go_enter Try.func90, Try.ntmps90
      go_wp2
      go_returns
      exact ⟨rfl, by go_grown⟩

end Go.Proofs.Ytmgngapkgcofnaa
