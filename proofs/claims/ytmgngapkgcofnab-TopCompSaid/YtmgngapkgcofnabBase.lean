/- Shared words of the proofs over doorward: errors as values, and the contract of 'same'. -/
import Derived.Test.YtmgngapkgcofnabProg
import Derived.WalkKit
import Derived.WalkSpells
import Derived.WalkLawsBesides
import Derived.BigGuardPart
import Derived.Lib.Hide
import Derived.Handy
import Derived.Outline
import Derived.KernelRfl
namespace Go.Proofs.Ytmgngapkgcofnab
open Go.RowKit

/-- An error of package api by its number; 0: nil. -/
def errV (n : Int) : Value := if n = 0 then .nilIface else .iface 64 (.int .i64 n)
theorem errV_zero : errV 0 = .nilIface := rfl
theorem errV_pos {n : Int} (h : n ≠ 0) : errV n = .iface 64 (.int .i64 n) := if_neg h

theorem below_box {B : Nat} {w wr w' : World} {o : Obj} (hb : Below B w wr) (hB : B ≤ w.heap.size) (h : Below (wr.alloc o).heap.size (wr.alloc o) w') : Below B w w' :=
  (hb.alloc (Nat.le_trans hB hb.size) o).trans (h.mono (by have := hb.size; simp; omega))
theorem below_then {B : Nat} {w wr w' : World} (hb : Below B w wr) (hB : B ≤ w.heap.size) (h : Below wr.heap.size wr w') : Below B w w' :=
  hb.trans (h.mono (by have := hb.size; omega))

theorem cell_via {B : Nat} {w a b : World} {k o : Nat} {v : Value} (h2 : Below B w b) (h1 : Below B w a) (hp : k < B) (h : a.cell? ⟨k, o, none⟩ = some v) : b.cell? ⟨k, o, none⟩ = some v :=
  (h2.cell (p := ⟨k, o, none⟩) hp).trans ((h1.cell (p := ⟨k, o, none⟩) hp).symm.trans h)

theorem ret_bool {a b : Bool} (h : a = b) : Ending.returned (.bool a) = .returned (.bool b) := by rw [h]
theorem ret_int {k : IntKind} {a b : Int} (h : a = b) : Ending.returned (.int k a) = .returned (.int k b) := by rw [h]

theorem assert_errno (n : Int) (w : World) : (Instr.typeAssert (.iface 64 (.int .i64 n)) 30 64 true).run Try.prog w = .ok (.tuple #[.int .i64 n, .bool true]) w := by kernel_rfl

end Go.Proofs.Ytmgngapkgcofnab
