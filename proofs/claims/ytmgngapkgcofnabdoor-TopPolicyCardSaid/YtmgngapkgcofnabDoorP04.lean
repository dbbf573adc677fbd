/- Package api's Forms: the row of its forty-five cells. -/
import Derived.Test.YtmgngapkgcofnabDoorP01
import Derived.Great.BuildSlice
import Derived.Deep.DeepCutAuto
namespace Go.Proofs.YtmgngapkgcofnabDoor
open Go.RowKit

def formsRow : Array Value := #[.string ⟨#[114, 101, 97, 100]⟩, .int .i64 1, .int .i64 1, .int .i64 0, .int .i64 0, .string ⟨#[119, 114, 105, 116, 101]⟩, .int .i64 1, .int .i64 1, .int .i64 0, .int .i64 0, .string ⟨#[111, 112, 101, 110]⟩, .int .i64 2, .int .i64 1, .int .i64 1, .int .i64 0, .string ⟨#[99, 108, 111, 115, 101]⟩, .int .i64 1, .int .i64 0, .int .i64 0, .int .i64 0, .string ⟨#[115, 116, 97, 116]⟩, .int .i64 2, .int .i64 0, .int .i64 0, .int .i64 0, .string ⟨#[114, 101, 110, 97, 109, 101]⟩, .int .i64 2, .int .i64 2, .int .i64 0, .int .i64 0, .string ⟨#[99, 111, 110, 110, 101, 99, 116]⟩, .int .i64 1, .int .i64 3, .int .i64 0, .int .i64 0, .string ⟨#[108, 105, 110, 107]⟩, .int .i64 2, .int .i64 2, .int .i64 1, .int .i64 0, .string ⟨#[115, 101, 110, 100]⟩, .int .i64 1, .int .i64 1, .int .i64 3, .int .i64 1]
def formsZero : Array Value := #[.string ⟨#[]⟩, .int .i64 0, .int .i64 0, .int .i64 0, .int .i64 0, .string ⟨#[]⟩, .int .i64 0, .int .i64 0, .int .i64 0, .int .i64 0, .string ⟨#[]⟩, .int .i64 0, .int .i64 0, .int .i64 0, .int .i64 0, .string ⟨#[]⟩, .int .i64 0, .int .i64 0, .int .i64 0, .int .i64 0, .string ⟨#[]⟩, .int .i64 0, .int .i64 0, .int .i64 0, .int .i64 0, .string ⟨#[]⟩, .int .i64 0, .int .i64 0, .int .i64 0, .int .i64 0, .string ⟨#[]⟩, .int .i64 0, .int .i64 0, .int .i64 0, .int .i64 0, .string ⟨#[]⟩, .int .i64 0, .int .i64 0, .int .i64 0, .int .i64 0, .string ⟨#[]⟩, .int .i64 0, .int .i64 0, .int .i64 0, .int .i64 0]
theorem heap_setRow_same {w : World} {g : Nat} {cs old : Array Value} {t : TypeId} {fr : Nat × Nat} (h : w.heap[g]? = some (.cells old t fr)) : (w.setRow g cs).heap[g]? = some (.cells cs t fr) := by
  simp [World.setRow, Array.getElem?_modify, h]
theorem below_setRow {B : Nat} {a w : World} (h : Below B a w) {g : Nat} (hg : B ≤ g) (cs : Array Value) : Below B a (w.setRow g cs) :=
  h.trans ⟨rfl, rfl, rfl, by simp, fun k hk => by simp only [World.setRow, Array.getElem?_modify]; rw [if_neg (by omega)]⟩
theorem formsZero_is : (Tryd.prog.info? 93).bind (·.zero) = some (.agg formsZero) := by kernel_rfl

set_option maxRecDepth 100000 in
set_option maxHeartbeats 2000000 in
theorem forms_any (w : World) : Calls Tryd.prog 31 #[] w fun e w' => e = .returned (.agg formsRow) ∧ Below w.heap.size w w' := by
  go_enter Tryd.func31, Tryd.ntmps31
  go_upto_region 1 with fail
  go_step
  refine wpList_buildTo rfl _ _ rfl (some 1) rfl #[.int .i64 1, .int .i64 1, .int .i64 0, .int .i64 0] (by kernel_rfl) ?_
  refine wpList_buildTo rfl _ _ rfl (some 2) rfl #[.string ⟨#[114, 101, 97, 100]⟩, .int .i64 1, .int .i64 1, .int .i64 0, .int .i64 0] (by kernel_rfl) ?_
  refine wpList_buildTo rfl _ _ rfl (some 3) rfl #[.int .i64 1, .int .i64 1, .int .i64 0, .int .i64 0] (by kernel_rfl) ?_
  refine wpList_buildTo rfl _ _ rfl (some 4) rfl #[.string ⟨#[119, 114, 105, 116, 101]⟩, .int .i64 1, .int .i64 1, .int .i64 0, .int .i64 0] (by kernel_rfl) ?_
  refine wpList_buildTo rfl _ _ rfl (some 5) rfl #[.int .i64 2, .int .i64 1, .int .i64 1, .int .i64 0] (by kernel_rfl) ?_
  refine wpList_buildTo rfl _ _ rfl (some 6) rfl #[.string ⟨#[111, 112, 101, 110]⟩, .int .i64 2, .int .i64 1, .int .i64 1, .int .i64 0] (by kernel_rfl) ?_
  refine wpList_buildTo rfl _ _ rfl (some 7) rfl #[.int .i64 1, .int .i64 0, .int .i64 0, .int .i64 0] (by kernel_rfl) ?_
  refine wpList_buildTo rfl _ _ rfl (some 8) rfl #[.string ⟨#[99, 108, 111, 115, 101]⟩, .int .i64 1, .int .i64 0, .int .i64 0, .int .i64 0] (by kernel_rfl) ?_
  refine wpList_buildTo rfl _ _ rfl (some 9) rfl #[.int .i64 2, .int .i64 0, .int .i64 0, .int .i64 0] (by kernel_rfl) ?_
  refine wpList_buildTo rfl _ _ rfl (some 10) rfl #[.string ⟨#[115, 116, 97, 116]⟩, .int .i64 2, .int .i64 0, .int .i64 0, .int .i64 0] (by kernel_rfl) ?_
  refine wpList_buildTo rfl _ _ rfl (some 11) rfl #[.int .i64 2, .int .i64 2, .int .i64 0, .int .i64 0] (by kernel_rfl) ?_
  refine wpList_buildTo rfl _ _ rfl (some 12) rfl #[.string ⟨#[114, 101, 110, 97, 109, 101]⟩, .int .i64 2, .int .i64 2, .int .i64 0, .int .i64 0] (by kernel_rfl) ?_
  refine wpList_buildTo rfl _ _ rfl (some 13) rfl #[.int .i64 1, .int .i64 3, .int .i64 0, .int .i64 0] (by kernel_rfl) ?_
  refine wpList_buildTo rfl _ _ rfl (some 14) rfl #[.string ⟨#[99, 111, 110, 110, 101, 99, 116]⟩, .int .i64 1, .int .i64 3, .int .i64 0, .int .i64 0] (by kernel_rfl) ?_
  refine wpList_buildTo rfl _ _ rfl (some 15) rfl #[.int .i64 2, .int .i64 2, .int .i64 1, .int .i64 0] (by kernel_rfl) ?_
  refine wpList_buildTo rfl _ _ rfl (some 16) rfl #[.string ⟨#[108, 105, 110, 107]⟩, .int .i64 2, .int .i64 2, .int .i64 1, .int .i64 0] (by kernel_rfl) ?_
  refine wpList_buildTo rfl _ _ rfl (some 17) rfl #[.int .i64 1, .int .i64 1, .int .i64 3, .int .i64 1] (by kernel_rfl) ?_
  refine wpList_buildTo rfl _ _ rfl (some 18) rfl #[.string ⟨#[115, 101, 110, 100]⟩, .int .i64 1, .int .i64 1, .int .i64 3, .int .i64 1] (by kernel_rfl) ?_
  refine wpList_buildTo rfl _ _ rfl (some 19) rfl formsRow (by kernel_rfl) ?_
  refine wpList_store_rowTo rfl _ _ _ rfl rfl w.heap.size formsRow (by kernel_rfl) (by kernel_rfl) 93 formsZero (heap_alloc_new _ _) (by kernel_rfl) rfl (by kernel_rfl) ?_
  go_wp2
  exact bodyPost_ret (results_cell_row rfl _ _ w.heap.size 93 formsRow (0, 0) _ (by kernel_rfl) (heap_setRow_same (heap_alloc_new _ _)) Tryd.underlying93 rfl (by kernel_rfl)) (by kernel_rfl)
    ⟨rfl, below_setRow ((Below.refl _ _).alloc (Nat.le_refl _) _) (Nat.le_refl _) _⟩

end Go.Proofs.YtmgngapkgcofnabDoor
