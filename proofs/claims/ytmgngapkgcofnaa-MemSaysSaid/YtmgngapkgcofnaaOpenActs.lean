/- Arguments opened: a slice of acts. -/
import Derived.Test.YtmgngapkgcofnaaOpen
import Derived.Test.YtmgngapkgcofnaaActs
import Derived.Test.YtmgngapkgcofnaaMemSaysW
namespace Go.Proofs.Ytmgngapkgcofnaa
open Go.RowKit Go.WideShapes Go.ChangeShapes Go.Deep

section
variable {H : Type} {enc : TypeId × Value → H} {w : World} {base : Nat} {spare : Nat → Bool} {held : Bool} {fuel : Nat}
theorem list11 {α : Type} {l : List α} (h : l.length = 11) : ∃ a b c d e f g i j k m, l = [a, b, c, d, e, f, g, i, j, k, m] := by
  match l, h with
  | [a, b, c, d, e, f, g, i, j, k, m], _ => exact ⟨a, b, c, d, e, f, g, i, j, k, m, rfl⟩
theorem cells67 : Try.prog.cellsOf 67 = 11 := by kernel_rfl
theorem cells9 : Try.prog.cellsOf 9 = 1 := by kernel_rfl
theorem cells4b : Try.prog.cellsOf 4 = 1 := by kernel_rfl
theorem str_cell {cs : List Value} {x : DataW H × List MemPlace} (h : DataW.trod enc Try.prog w base spare held fuel 9 cs = some x) : ∃ s : ByteArray, cs = [.string s] ∧ s.size ≤ maxLen := by
  obtain ⟨s, h1, _, h2⟩ := DataW.trod_string Try.underlying9 h
  exact ⟨s, h1, h2⟩
theorem bool_cell {cs : List Value} {x : DataW H × List MemPlace} (h : DataW.trod enc Try.prog w base spare held fuel 4 cs = some x) : ∃ b, cs = [.bool b] := by
  obtain ⟨b, h1, _⟩ := DataW.trod_bool Try.underlying4 h
  exact ⟨b, h1⟩
theorem list6b {α : Type} {l : List α} (h : l.length = 6) : ∃ a b c d e f, l = [a, b, c, d, e, f] := list6 h
set_option maxRecDepth 100000 in
theorem act_cells {cs : List Value} {x : DataW H × List MemPlace} (h : DataW.trod enc Try.prog w base spare held fuel 67 cs = some x) : ∃ a : ActD, cs = a.row ∧ a.ok := by
  obtain ⟨xs, m, _, _, hl, hxl, hf⟩ := DataW.trod_struct Try.underlying67 h
  rw [cells67] at hl
  obtain ⟨c0, c1, c2, c3, c4, c5, c6, c7, c8, c9, c10, rfl⟩ := list11 hl
  obtain ⟨x0, x1, x2, x3, x4, x5, rfl⟩ := list6b hxl
  have f0 := hf 0 _ rfl
  have f1 := hf 1 _ rfl
  have f2 := hf 2 _ rfl
  have f3 := hf 3 _ rfl
  have f4 := hf 4 _ rfl
  have f5 := hf 5 _ rfl
  simp [cells9, cells3, cells37, cells4b, cells40] at f0 f1 f2 f3 f4 f5
  obtain ⟨kind, e0, k0⟩ := str_cell f0
  obtain ⟨n, e1, k1⟩ := int_cell f1
  obtain ⟨a, e2, k2⟩ := u64_cell f2
  obtain ⟨s, e3, k3⟩ := str_cell f3
  obtain ⟨b, e4⟩ := bool_cell f4
  obtain ⟨c, e5, k5⟩ := call_cells f5
  simp at e0 e1 e2 e3 e4 e5
  obtain ⟨rfl, rfl, rfl, rfl, rfl, rfl⟩ := e5
  subst e0 e1 e2 e3 e4
  have h9 : a ≤ 18446744073709551615 := k2.2
  have h8 : a < 18446744073709551616 := Int.lt_of_le_of_lt h9 (by decide)
  exact ⟨⟨kind, n, a, s, b, c⟩, rfl, k1, ⟨k2.1, h8⟩, k5, k3, k0⟩
theorem row_len (x : ActD) : x.row.length = 11 := rfl
set_option maxRecDepth 100000 in
/-- A slice of acts that came in. -/
theorem open_acts {r : Reach} {b0 : Nat} {v : Value} {d : DataW H} {p : List MemPlace} (hv : Value.okWide Try.prog w r b0 56 v) (h : DataW.Trod enc Try.prog w base spare held 56 v d p) :
    ∃ l : List ActD, ActsSl w w.heap.size v l := by
  obtain ⟨a0, len0, cap0, rfl⟩ := okWide_slice Try.underlying56 hv
  obtain ⟨fuel, hf⟩ := h
  rcases open_slice Try.underlying56 (by simpa [Value.cells] using hf) with ⟨hcs, _⟩ | ⟨a, len, cap, m, n, D, Pl, hcs, _, hl, hm, hmm, _, hi⟩
  · simp only [List.cons.injEq, and_true] at hcs
    exact ⟨[], by simp, none, 0, hcs, Or.inl rfl⟩
  · simp only [List.cons.injEq, and_true] at hcs
    have hlm : len ≤ m := by rw [hmm]; split <;> omega
    have hex : ∀ i, i < len → ∃ x : ActD, (∀ j u, x.row[j]? = some u → w.cell? ((a.add (i * 11)).add j) = some u) ∧ x.ok := by
      intro i hil
      obtain ⟨cs', hc, ht⟩ := hi i (by omega)
      rw [cells67] at hc
      obtain ⟨x, rfl, hx⟩ := act_cells ht
      obtain ⟨_, _, hat⟩ := World.cells?_some hc
      refine ⟨x, fun j u hu => ?_, hx⟩
      have hj : j < 11 := by
        rcases Nat.lt_or_ge j 11 with h | h
        · exact h
        · rw [List.getElem?_eq_none (by rw [row_len]; exact h)] at hu; cases hu
      rw [hat j hj, hu]
    obtain ⟨f, hf2⟩ : ∃ f : Nat → ActD, ∀ i, i < len → (∀ j u, (f i).row[j]? = some u → w.cell? ((a.add (i * 11)).add j) = some u) ∧ (f i).ok :=
      ⟨fun i => if h : i < len then Classical.choose (hex i h) else ⟨⟨#[]⟩, 0, 0, ⟨#[]⟩, false, ⟨0, 0, 0, 0, 0, 0⟩⟩, fun i h => by simp only [dif_pos h]; exact Classical.choose_spec (hex i h)⟩
    have hlen : ((List.range len).map f).length = len := by simp
    refine ⟨(List.range len).map f, ?_, some a, cap, by rw [hlen]; exact hcs, ?_⟩
    · intro x hx
      simp only [List.mem_map, List.mem_range] at hx
      obtain ⟨i, hi, rfl⟩ := hx
      exact (hf2 i hi).2
    · rcases Nat.eq_zero_or_pos len with h0 | h0
      · left; subst h0; rfl
      · right
        have hc0 := (hf2 0 h0).1 0 _ rfl
        obtain ⟨b, o, spot⟩ := a
        have hspot : spot = none := by simpa [Addr.add] using World.cell?_spot hc0
        subst hspot
        refine ⟨b, o, rfl, by simpa [Addr.add] using block_lt hc0, fun i x hx => ?_⟩
        have hil : i < len := by
          rcases Nat.lt_or_ge i len with h | h
          · exact h
          · rw [List.getElem?_eq_none (by simpa using h)] at hx; cases hx
        obtain rfl : f i = x := by simpa [hil] using hx
        intro j u hu
        have hc := (hf2 i hil).1 j u hu
        rw [add_plain, add_plain] at hc
        exact hc
end
end Go.Proofs.Ytmgngapkgcofnaa
