/- Arguments opened: a call by value, a program's slice. -/
import Derived.Test.YtmgngapkgcofnabBpf
import Derived.Test.YtmgngapkgcofnabWord
import Derived.ProofKit
import Derived.OpenShut
import Derived.Deep.Slices
namespace Go.Proofs.Ytmgngapkgcofnab
open Go.RowKit Go.WideShapes Go.ChangeShapes Go.Deep

section
variable {H : Type} {enc : TypeId × Value → H} {w : World} {base : Nat} {spare : Nat → Bool} {held : Bool} {fuel : Nat}

theorem u32_cell {cs : List Value} {x : DataW H × List MemPlace} (h : DataW.trod enc Try.prog w base spare held fuel 36 cs = some x) : ∃ n, cs = [.int .u32 n] ∧ u32ok n := by
  obtain ⟨n, h1, _, h2⟩ := DataW.trod_int Try.underlying36 h
  have := bounds_u32 h2
  exact ⟨n, h1, by constructor <;> omega⟩
theorem u64_cell {cs : List Value} {x : DataW H × List MemPlace} (h : DataW.trod enc Try.prog w base spare held fuel 39 cs = some x) : ∃ n, cs = [.int .u64 n] ∧ u64ok n := by
  obtain ⟨n, h1, _, h2⟩ := DataW.trod_int Try.underlying39 h
  have := bounds_u64 h2
  exact ⟨n, h1, by constructor <;> omega⟩
theorem int_cell {cs : List Value} {x : DataW H × List MemPlace} (h : DataW.trod enc Try.prog w base spare held fuel 3 cs = some x) : ∃ n, cs = [.int .i64 n] ∧ (Lit.int .i64 n).wf = true := by
  obtain ⟨n, h1, _, h2⟩ := DataW.trod_int Try.underlying3 h
  exact ⟨n, h1, h2⟩
theorem list4 {α : Type} {l : List α} (h : l.length = 4) : ∃ a b c d, l = [a, b, c, d] := by
  match l, h with
  | [a, b, c, d], _ => exact ⟨a, b, c, d, rfl⟩
theorem list6 {α : Type} {l : List α} (h : l.length = 6) : ∃ a b c d e f, l = [a, b, c, d, e, f] := by
  match l, h with
  | [a, b, c, d, e, f], _ => exact ⟨a, b, c, d, e, f, rfl⟩
theorem list3 {α : Type} {l : List α} (h : l.length = 3) : ∃ a b c, l = [a, b, c] := by
  match l, h with
  | [a, b, c], _ => exact ⟨a, b, c, rfl⟩
theorem cells40 : Try.prog.cellsOf 42 = 6 := by kernel_rfl
theorem cells38 : Try.prog.cellsOf 40 = 4 := by kernel_rfl
theorem cells36 : Try.prog.cellsOf 36 = 1 := by kernel_rfl
theorem cells37 : Try.prog.cellsOf 39 = 1 := by kernel_rfl
theorem cells3 : Try.prog.cellsOf 3 = 1 := by kernel_rfl
theorem cells42 : Try.prog.cellsOf 68 = 4 := by kernel_rfl

theorem args_cells {cs : List Value} {x : DataW H × List MemPlace} (h : DataW.trod enc Try.prog w base spare held fuel 40 cs = some x) :
    ∃ a0 a1 a2 a3, cs = [.int .u64 a0, .int .u64 a1, .int .u64 a2, .int .u64 a3] ∧ u64ok a0 ∧ u64ok a1 ∧ u64ok a2 ∧ u64ok a3 := by
  obtain ⟨xs, m, _, _, hl, hxl, hf⟩ := DataW.trod_array Try.underlying40 h
  rw [cells38] at hl
  simp only [cells37] at hf
  obtain ⟨c0, c1, c2, c3, rfl⟩ := list4 hl
  obtain ⟨x0, x1, x2, x3, rfl⟩ := list4 hxl
  obtain ⟨a0, e0, k0⟩ := u64_cell (hf 0 (by omega))
  obtain ⟨a1, e1, k1⟩ := u64_cell (hf 1 (by omega))
  obtain ⟨a2, e2, k2⟩ := u64_cell (hf 2 (by omega))
  obtain ⟨a3, e3, k3⟩ := u64_cell (hf 3 (by omega))
  simp at e0 e1 e2 e3
  subst e0 e1 e2 e3
  exact ⟨a0, a1, a2, a3, rfl, k0, k1, k2, k3⟩
theorem call_cells {cs : List Value} {x : DataW H × List MemPlace} (h : DataW.trod enc Try.prog w base spare held fuel 42 cs = some x) :
    ∃ c : CallD, cs = [.int .u32 c.arch, .int .u32 c.nr, .int .u64 c.a0, .int .u64 c.a1, .int .u64 c.a2, .int .u64 c.a3] ∧ c.ok := by
  obtain ⟨xs, m, _, _, hl, hxl, hf⟩ := DataW.trod_struct Try.underlying42 h
  rw [cells40] at hl
  obtain ⟨c0, c1, c2, c3, c4, c5, rfl⟩ := list6 hl
  obtain ⟨x0, x1, x2, rfl⟩ := list3 hxl
  have f0 := hf 0 _ rfl
  have f1 := hf 1 _ rfl
  have f2 := hf 2 _ rfl
  simp [cells36, cells38] at f0 f1 f2
  obtain ⟨ar, e0, k0⟩ := u32_cell f0
  obtain ⟨nr, e1, k1⟩ := u32_cell f1
  obtain ⟨a0, a1, a2, a3, e2, q0, q1, q2, q3⟩ := args_cells f2
  simp at e0 e1 e2
  obtain ⟨rfl, rfl, rfl, rfl⟩ := e2
  subst e0 e1
  exact ⟨⟨ar, nr, a0, a1, a2, a3⟩, rfl, k0, k1, q0, q1, q2, q3⟩
set_option maxRecDepth 100000 in
theorem open_call {r : Reach} {b0 : Nat} {v : Value} {d : DataW H} {p : List MemPlace} (hv : Value.okWide Try.prog w r b0 42 v) (h : DataW.Trod enc Try.prog w base spare held 42 v d p) :
    ∃ c : CallD, v = c.v ∧ c.ok := by
  obtain ⟨cs, rfl, _⟩ := okWide_struct Try.underlying42 hv
  obtain ⟨fuel, hf⟩ := h
  obtain ⟨c, hc, hok⟩ := call_cells hf
  refine ⟨c, ?_, hok⟩
  obtain ⟨cs⟩ := cs
  simp only [Value.cells] at hc
  unfold CallD.v
  rw [hc]
theorem ins_cells4 {cs : List Value} {x : DataW H × List MemPlace} (h : DataW.trod enc Try.prog w base spare held fuel 68 cs = some x) :
    ∃ i : Ins, cs = [.int .i64 i.op, .int .i64 i.jt, .int .i64 i.jf, .int .u32 i.k] ∧ i.ok ∧ (Lit.int .i64 i.op).wf = true ∧ (Lit.int .i64 i.jt).wf = true ∧ (Lit.int .i64 i.jf).wf = true := by
  obtain ⟨xs, m, _, _, hl, hxl, hf⟩ := DataW.trod_struct Try.underlying68 h
  rw [cells42] at hl
  obtain ⟨c0, c1, c2, c3, rfl⟩ := list4 hl
  obtain ⟨x0, x1, x2, x3, rfl⟩ := list4 hxl
  have f0 := hf 0 _ rfl
  have f1 := hf 1 _ rfl
  have f2 := hf 2 _ rfl
  have f3 := hf 3 _ rfl
  simp [cells36, cells3] at f0 f1 f2 f3
  obtain ⟨op, e0, k0⟩ := int_cell f0
  obtain ⟨jt, e1, k1⟩ := int_cell f1
  obtain ⟨jf, e2, k2⟩ := int_cell f2
  obtain ⟨k, e3, k3⟩ := u32_cell f3
  simp at e0 e1 e2 e3
  subst e0 e1 e2 e3
  exact ⟨⟨op, jt, jf, k⟩, rfl, k3, k0, k1, k2⟩
theorem block_lt {w : World} {a : Addr} {v : Value} (h : w.cell? a = some v) : a.block < w.heap.size := by
  rcases Nat.lt_or_ge a.block w.heap.size with h1 | h1
  · exact h1
  · unfold World.cell? at h
    rw [Array.getElem?_eq_none h1] at h
    cases h
set_option maxRecDepth 100000 in
/-- A slice of instructions that came in reads as a program. -/
theorem open_ins {r : Reach} {b0 : Nat} {v : Value} {d : DataW H} {p : List MemPlace} (hv : Value.okWide Try.prog w r b0 28 v) (h : DataW.Trod enc Try.prog w base spare held 28 v d p) :
    ∃ l : List Ins, InsSl w w.heap.size v l ∧ l.length ≤ maxLen ∧ ∀ x ∈ l, (Lit.int .i64 x.op).wf = true ∧ (Lit.int .i64 x.jt).wf = true ∧ (Lit.int .i64 x.jf).wf = true := by
  obtain ⟨a0, len0, cap0, rfl⟩ := okWide_slice Try.underlying28 hv
  obtain ⟨fuel, hf⟩ := h
  rcases open_slice Try.underlying28 (by simpa [Value.cells] using hf) with ⟨hcs, _⟩ | ⟨a, len, cap, m, n, D, Pl, hcs, _, hl, hm, hmm, _, hi⟩
  · simp only [List.cons.injEq, and_true] at hcs
    exact ⟨[], ⟨by simp, none, 0, hcs, Or.inl rfl⟩, by simp [maxLen], by simp⟩
  · simp only [List.cons.injEq, and_true] at hcs
    have hlm : len ≤ m := by rw [hmm]; split <;> omega
    have hex : ∀ i, i < len → ∃ x : Ins, (∀ j u, [Value.int .i64 x.op, .int .i64 x.jt, .int .i64 x.jf, .int .u32 x.k][j]? = some u → w.cell? ((a.add (i * 4)).add j) = some u) ∧ x.ok ∧ (Lit.int .i64 x.op).wf = true ∧ (Lit.int .i64 x.jt).wf = true ∧ (Lit.int .i64 x.jf).wf = true := by
      intro i hil
      obtain ⟨cs', hc, ht⟩ := hi i (by omega)
      rw [cells42] at hc
      obtain ⟨x, rfl, hx⟩ := ins_cells4 ht
      obtain ⟨_, _, hat⟩ := World.cells?_some hc
      refine ⟨x, fun j u hu => ?_, hx⟩
      have hj : j < 4 := by
        rcases Nat.lt_or_ge j 4 with h | h
        · exact h
        · rw [List.getElem?_eq_none (by simpa using h)] at hu; cases hu
      rw [hat j hj, hu]
    obtain ⟨f, hf2⟩ : ∃ f : Nat → Ins, ∀ i, i < len → (∀ j u, [Value.int .i64 (f i).op, .int .i64 (f i).jt, .int .i64 (f i).jf, .int .u32 (f i).k][j]? = some u → w.cell? ((a.add (i * 4)).add j) = some u) ∧ (f i).ok ∧ (Lit.int .i64 (f i).op).wf = true ∧ (Lit.int .i64 (f i).jt).wf = true ∧ (Lit.int .i64 (f i).jf).wf = true :=
      ⟨fun i => if h : i < len then Classical.choose (hex i h) else ⟨0, 0, 0, 0⟩, fun i h => by simp only [dif_pos h]; exact Classical.choose_spec (hex i h)⟩
    have hlen : ((List.range len).map f).length = len := by simp
    refine ⟨(List.range len).map f, ⟨?_, some a, cap, by rw [hlen]; exact hcs, ?_⟩, by rw [hlen]; omega, ?_⟩
    · intro x hx
      simp only [List.mem_map, List.mem_range] at hx
      obtain ⟨i, hi, rfl⟩ := hx
      exact (hf2 i hi).2.1
    · rcases Nat.eq_zero_or_pos len with h0 | h0
      · left; subst h0; rfl
      · right
        have hc0 := (hf2 0 h0).1 0 _ rfl
        obtain ⟨b, o, spot⟩ := a
        have hspot : spot = none := by simpa [Addr.add] using World.cell?_spot hc0
        subst hspot
        refine ⟨b, o, rfl, by simpa [Addr.add] using block_lt hc0, fun i x hx => ?_⟩
        have hil : i < len := by
          rcases Nat.lt_or_ge i len with h | h
          · exact h
          · rw [List.getElem?_eq_none (by simpa using h)] at hx; cases hx
        obtain rfl : f i = x := by simpa [hil] using hx
        have hc := (hf2 i hil).1
        simp only [add_plain] at hc
        exact ⟨hc 0 _ rfl, hc 1 _ rfl, hc 2 _ rfl, hc 3 _ rfl⟩
    · intro x hx
      simp only [List.mem_map, List.mem_range] at hx
      obtain ⟨i, hi, rfl⟩ := hx
      exact (hf2 i hi).2.2
end
end Go.Proofs.Ytmgngapkgcofnab
