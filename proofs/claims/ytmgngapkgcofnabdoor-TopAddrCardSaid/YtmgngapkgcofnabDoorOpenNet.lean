/- Arguments opened: a net. -/
import Derived.Test.YtmgngapkgcofnabDoorNet
import Derived.ProofKit
import Derived.OpenShut
import Derived.Deep.Slices
namespace Go.Proofs.YtmgngapkgcofnabDoor
open Go.RowKit Go.WideShapes Go.ChangeShapes Go.Deep

section
variable {H : Type} {enc : TypeId × Value → H} {w : World} {base : Nat} {spare : Nat → Bool} {held : Bool} {fuel : Nat}
theorem nt_u32 {cs : List Value} {x : DataW H × List MemPlace} (h : DataW.trod enc Tryd.prog w base spare held fuel 22 cs = some x) : ∃ n, cs = [.int .u32 n] ∧ 0 ≤ n ∧ n < 4294967296 := by
  obtain ⟨n, h1, _, h2⟩ := DataW.trod_int Tryd.underlying22 h
  have := bounds_u32 h2
  exact ⟨n, h1, by omega, by omega⟩
theorem nt_int {cs : List Value} {x : DataW H × List MemPlace} (h : DataW.trod enc Tryd.prog w base spare held fuel 3 cs = some x) : ∃ n, cs = [.int .i64 n] ∧ (Lit.int .i64 n).wf = true := by
  obtain ⟨n, h1, _, h2⟩ := DataW.trod_int Tryd.underlying3 h
  exact ⟨n, h1, h2⟩
theorem nt_list4 {α : Type} {l : List α} (h : l.length = 4) : ∃ a b c d, l = [a, b, c, d] := by
  match l, h with
  | [a, b, c, d], _ => exact ⟨a, b, c, d, rfl⟩
theorem nt_cellsNet : Tryd.prog.cellsOf 24 = 4 := by kernel_rfl
theorem nt_cells3 : Tryd.prog.cellsOf 3 = 1 := by kernel_rfl
theorem nt_cells36 : Tryd.prog.cellsOf 22 = 1 := by kernel_rfl
set_option maxRecDepth 100000 in
theorem nt_net {cs : List Value} {x : DataW H × List MemPlace} (h : DataW.trod enc Tryd.prog w base spare held fuel 24 cs = some x) : ∃ n : NetD, cs = n.row ∧ n.ok := by
  obtain ⟨xs, m, _, _, hl, hxl, hf⟩ := DataW.trod_struct Tryd.underlying24 h
  rw [nt_cellsNet] at hl
  obtain ⟨c0, c1, c2, c3, rfl⟩ := nt_list4 hl
  obtain ⟨x0, x1, x2, x3, rfl⟩ := nt_list4 hxl
  have f0 := hf 0 _ rfl
  have f1 := hf 1 _ rfl
  have f2 := hf 2 _ rfl
  have f3 := hf 3 _ rfl
  simp [nt_cells36, nt_cells3] at f0 f1 f2 f3
  obtain ⟨ip, e0, k0⟩ := nt_u32 f0
  obtain ⟨b, e1, k1⟩ := nt_int f1
  obtain ⟨lo, e2, k2⟩ := nt_int f2
  obtain ⟨hi, e3, k3⟩ := nt_int f3
  simp at e0 e1 e2 e3
  subst e0 e1 e2 e3
  exact ⟨⟨ip, b, lo, hi⟩, rfl, k0, k1, k2, k3⟩
set_option maxRecDepth 100000 in
/-- A net that came in. -/
theorem open_net {r : Reach} {b0 : Nat} {v : Value} {d : DataW H} {p : List MemPlace} (hv : Value.okWide Tryd.prog w r b0 24 v) (h : DataW.Trod enc Tryd.prog w base spare held 24 v d p) :
    ∃ x : NetD, v = x.v ∧ x.ok := by
  obtain ⟨cs, rfl, _⟩ := okWide_struct Tryd.underlying24 hv
  obtain ⟨fuel, hf0⟩ := h
  obtain ⟨cs⟩ := cs
  obtain ⟨x, hx, hok⟩ := nt_net hf0
  refine ⟨x, ?_, hok⟩
  simp only [Value.cells] at hx
  rw [hx]; rfl
end
end Go.Proofs.YtmgngapkgcofnabDoor
