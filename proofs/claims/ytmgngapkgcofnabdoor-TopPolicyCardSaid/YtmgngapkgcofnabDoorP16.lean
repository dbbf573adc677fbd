/- Arguments opened: a call by value, a program's slice. -/
import Derived.Test.YtmgngapkgcofnabDoorP01
import Derived.ProofKit
import Derived.OpenShut
import Derived.Deep.Slices
namespace Go.Proofs.YtmgngapkgcofnabDoor
open Go.RowKit Go.WideShapes Go.ChangeShapes Go.Deep

section
variable {H : Type} {enc : TypeId × Value → H} {w : World} {base : Nat} {spare : Nat → Bool} {held : Bool} {fuel : Nat}

theorem u32_cell {cs : List Value} {x : DataW H × List MemPlace} (h : DataW.trod enc Tryd.prog w base spare held fuel 22 cs = some x) : ∃ n, cs = [.int .u32 n] ∧ u32ok n := by
  obtain ⟨n, h1, _, h2⟩ := DataW.trod_int Tryd.underlying22 h
  have := bounds_u32 h2
  exact ⟨n, h1, by constructor <;> omega⟩
theorem u64_cell {cs : List Value} {x : DataW H × List MemPlace} (h : DataW.trod enc Tryd.prog w base spare held fuel 41 cs = some x) : ∃ n, cs = [.int .u64 n] ∧ u64ok n := by
  obtain ⟨n, h1, _, h2⟩ := DataW.trod_int Tryd.underlying41 h
  have := bounds_u64 h2
  exact ⟨n, h1, by constructor <;> omega⟩
theorem int_cell {cs : List Value} {x : DataW H × List MemPlace} (h : DataW.trod enc Tryd.prog w base spare held fuel 3 cs = some x) : ∃ n, cs = [.int .i64 n] ∧ (Lit.int .i64 n).wf = true := by
  obtain ⟨n, h1, _, h2⟩ := DataW.trod_int Tryd.underlying3 h
  exact ⟨n, h1, h2⟩
theorem list4 {α : Type} {l : List α} (h : l.length = 4) : ∃ a b c d, l = [a, b, c, d] := by
  match l, h with
  | [a, b, c, d], _ => exact ⟨a, b, c, d, rfl⟩
theorem list6 {α : Type} {l : List α} (h : l.length = 6) : ∃ a b c d e f, l = [a, b, c, d, e, f] := by
  match l, h with
  | [a, b, c, d, e, f], _ => exact ⟨a, b, c, d, e, f, rfl⟩
theorem list3 {α : Type} {l : List α} (h : l.length = 3) : ∃ a b c, l = [a, b, c] := by
  match l, h with
  | [a, b, c], _ => exact ⟨a, b, c, rfl⟩
theorem cells40 : Tryd.prog.cellsOf 44 = 6 := by kernel_rfl
theorem cells38 : Tryd.prog.cellsOf 42 = 4 := by kernel_rfl
theorem cells36 : Tryd.prog.cellsOf 22 = 1 := by kernel_rfl
theorem cells37 : Tryd.prog.cellsOf 41 = 1 := by kernel_rfl
theorem cells3 : Tryd.prog.cellsOf 3 = 1 := by kernel_rfl
theorem args_cells {cs : List Value} {x : DataW H × List MemPlace} (h : DataW.trod enc Tryd.prog w base spare held fuel 42 cs = some x) :
    ∃ a0 a1 a2 a3, cs = [.int .u64 a0, .int .u64 a1, .int .u64 a2, .int .u64 a3] ∧ u64ok a0 ∧ u64ok a1 ∧ u64ok a2 ∧ u64ok a3 := by
  obtain ⟨xs, m, _, _, hl, hxl, hf⟩ := DataW.trod_array Tryd.underlying42 h
  rw [cells38] at hl
  simp only [cells37] at hf
  obtain ⟨c0, c1, c2, c3, rfl⟩ := list4 hl
  obtain ⟨x0, x1, x2, x3, rfl⟩ := list4 hxl
  obtain ⟨a0, e0, k0⟩ := u64_cell (hf 0 (by omega))
  obtain ⟨a1, e1, k1⟩ := u64_cell (hf 1 (by omega))
  obtain ⟨a2, e2, k2⟩ := u64_cell (hf 2 (by omega))
  obtain ⟨a3, e3, k3⟩ := u64_cell (hf 3 (by omega))
  simp at e0 e1 e2 e3
  subst e0 e1 e2 e3
  exact ⟨a0, a1, a2, a3, rfl, k0, k1, k2, k3⟩
theorem call_cells {cs : List Value} {x : DataW H × List MemPlace} (h : DataW.trod enc Tryd.prog w base spare held fuel 44 cs = some x) :
    ∃ c : CallD, cs = [.int .u32 c.arch, .int .u32 c.nr, .int .u64 c.a0, .int .u64 c.a1, .int .u64 c.a2, .int .u64 c.a3] ∧ c.ok := by
  obtain ⟨xs, m, _, _, hl, hxl, hf⟩ := DataW.trod_struct Tryd.underlying44 h
  rw [cells40] at hl
  obtain ⟨c0, c1, c2, c3, c4, c5, rfl⟩ := list6 hl
  obtain ⟨x0, x1, x2, rfl⟩ := list3 hxl
  have f0 := hf 0 _ rfl
  have f1 := hf 1 _ rfl
  have f2 := hf 2 _ rfl
  simp [cells36, cells38] at f0 f1 f2
  obtain ⟨ar, e0, k0⟩ := u32_cell f0
  obtain ⟨nr, e1, k1⟩ := u32_cell f1
  obtain ⟨a0, a1, a2, a3, e2, q0, q1, q2, q3⟩ := args_cells f2
  simp at e0 e1 e2
  obtain ⟨rfl, rfl, rfl, rfl⟩ := e2
  subst e0 e1
  exact ⟨⟨ar, nr, a0, a1, a2, a3⟩, rfl, k0, k1, q0, q1, q2, q3⟩
set_option maxRecDepth 100000 in
theorem open_call {r : Reach} {b0 : Nat} {v : Value} {d : DataW H} {p : List MemPlace} (hv : Value.okWide Tryd.prog w r b0 44 v) (h : DataW.Trod enc Tryd.prog w base spare held 44 v d p) :
    ∃ c : CallD, v = c.v ∧ c.ok := by
  obtain ⟨cs, rfl, _⟩ := okWide_struct Tryd.underlying44 hv
  obtain ⟨fuel, hf⟩ := h
  obtain ⟨c, hc, hok⟩ := call_cells hf
  refine ⟨c, ?_, hok⟩
  obtain ⟨cs⟩ := cs
  simp only [Value.cells] at hc
  unfold CallD.v
  rw [hc]
theorem block_lt {w : World} {a : Addr} {v : Value} (h : w.cell? a = some v) : a.block < w.heap.size := by
  rcases Nat.lt_or_ge a.block w.heap.size with h1 | h1
  · exact h1
  · unfold World.cell? at h
    rw [Array.getElem?_eq_none h1] at h
    cases h
end
end Go.Proofs.YtmgngapkgcofnabDoor
