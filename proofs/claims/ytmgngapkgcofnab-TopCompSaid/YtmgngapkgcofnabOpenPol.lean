/- Arguments opened: a policy. -/
import Derived.Test.YtmgngapkgcofnabOpen
import Derived.Test.YtmgngapkgcofnabPol
namespace Go.Proofs.Ytmgngapkgcofnab
open Go.RowKit Go.WideShapes Go.ChangeShapes Go.Deep

section
variable {H : Type} {enc : TypeId × Value → H} {w : World} {base : Nat} {spare : Nat → Bool} {held : Bool} {fuel : Nat}
theorem list9 {α : Type} {l : List α} (h : l.length = 9) : ∃ a b c d e f g i j, l = [a, b, c, d, e, f, g, i, j] := by
  match l, h with
  | [a, b, c, d, e, f, g, i, j], _ => exact ⟨a, b, c, d, e, f, g, i, j, rfl⟩
theorem list2 {α : Type} {l : List α} (h : l.length = 2) : ∃ a b, l = [a, b] := by
  match l, h with
  | [a, b], _ => exact ⟨a, b, rfl⟩
theorem cellsNet : Try.prog.cellsOf 60 = 4 := by kernel_rfl
theorem cellsCond : Try.prog.cellsOf 62 = 9 := by kernel_rfl
theorem cellsRule : Try.prog.cellsOf 57 = 4 := by kernel_rfl
theorem cellsAct : Try.prog.cellsOf 24 = 2 := by kernel_rfl
theorem cellsPol : Try.prog.cellsOf 26 = 3 := by kernel_rfl
theorem cellsStr : Try.prog.cellsOf 9 = 1 := by kernel_rfl
theorem cellsCs : Try.prog.cellsOf 55 = 1 := by kernel_rfl
theorem cellsRs : Try.prog.cellsOf 22 = 1 := by kernel_rfl
theorem u32_cell2 {cs : List Value} {x : DataW H × List MemPlace} (h : DataW.trod enc Try.prog w base spare held fuel 36 cs = some x) : ∃ n, cs = [.int .u32 n] ∧ 0 ≤ n ∧ n < 4294967296 := by
  obtain ⟨n, h1, h2, h3⟩ := u32_cell h
  exact ⟨n, h1, h2, h3⟩
theorem str_cell2 {cs : List Value} {x : DataW H × List MemPlace} (h : DataW.trod enc Try.prog w base spare held fuel 9 cs = some x) : ∃ s : ByteArray, cs = [.string s] ∧ s.size ≤ maxLen := by
  obtain ⟨s, h1, _, h2⟩ := DataW.trod_string Try.underlying9 h
  exact ⟨s, h1, h2⟩
set_option maxRecDepth 100000 in
theorem net_cells {cs : List Value} {x : DataW H × List MemPlace} (h : DataW.trod enc Try.prog w base spare held fuel 60 cs = some x) : ∃ n : NetD, cs = n.row ∧ n.ok := by
  obtain ⟨xs, m, _, _, hl, hxl, hf⟩ := DataW.trod_struct Try.underlying60 h
  rw [cellsNet] at hl
  obtain ⟨c0, c1, c2, c3, rfl⟩ := list4 hl
  obtain ⟨x0, x1, x2, x3, rfl⟩ := list4 hxl
  have f0 := hf 0 _ rfl
  have f1 := hf 1 _ rfl
  have f2 := hf 2 _ rfl
  have f3 := hf 3 _ rfl
  simp [cells36, cells3] at f0 f1 f2 f3
  obtain ⟨ip, e0, k0⟩ := u32_cell2 f0
  obtain ⟨b, e1, k1⟩ := int_cell f1
  obtain ⟨lo, e2, k2⟩ := int_cell f2
  obtain ⟨hi, e3, k3⟩ := int_cell f3
  simp at e0 e1 e2 e3
  subst e0 e1 e2 e3
  exact ⟨⟨ip, b, lo, hi⟩, rfl, k0, k1, k2, k3⟩
set_option maxRecDepth 100000 in
theorem cond_cells {cs : List Value} {x : DataW H × List MemPlace} (h : DataW.trod enc Try.prog w base spare held fuel 62 cs = some x) : ∃ c : CondD, cs = c.row ∧ c.ok := by
  obtain ⟨xs, m, _, _, hl, hxl, hf⟩ := DataW.trod_struct Try.underlying62 h
  rw [cellsCond] at hl
  obtain ⟨c0, c1, c2, c3, c4, c5, c6, c7, c8, rfl⟩ := list9 hl
  obtain ⟨x0, x1, x2, x3, x4, x5, rfl⟩ := list6 hxl
  have f0 := hf 0 _ rfl
  have f1 := hf 1 _ rfl
  have f2 := hf 2 _ rfl
  have f3 := hf 3 _ rfl
  have f4 := hf 4 _ rfl
  have f5 := hf 5 _ rfl
  simp [cells3, cells37, cellsStr, cellsNet] at f0 f1 f2 f3 f4 f5
  obtain ⟨arg, e0, k0⟩ := int_cell f0
  obtain ⟨op, e1, k1⟩ := int_cell f1
  obtain ⟨v, e2, k2⟩ := u64_cell f2
  obtain ⟨mm, e3, k3⟩ := u64_cell f3
  obtain ⟨s, e4, k4⟩ := str_cell2 f4
  obtain ⟨n, e5, k5⟩ := net_cells f5
  simp [NetD.row] at e0 e1 e2 e3 e4 e5
  obtain ⟨rfl, rfl, rfl, rfl⟩ := e5
  subst e0 e1 e2 e3 e4
  have h8 : v < 18446744073709551616 := Int.lt_of_le_of_lt k2.2 (by decide)
  have h9 : mm < 18446744073709551616 := Int.lt_of_le_of_lt k3.2 (by decide)
  exact ⟨⟨arg, op, v, mm, s, n⟩, rfl, k0, k1, ⟨k2.1, h8⟩, ⟨k3.1, h9⟩, k4, k5⟩
theorem crow_len (x : CondD) : x.row.length = 9 := rfl
set_option maxRecDepth 100000 in
theorem conds_cells {cs : List Value} {x : DataW H × List MemPlace} (h : DataW.trod enc Try.prog w base spare held fuel 55 cs = some x) :
    ∃ (l : List CondD) (A : Option Addr) (c : Nat), cs = [.slice A l.length c] ∧ CondsSl w w.heap.size (.slice A l.length c) l := by
  rcases open_slice Try.underlying55 h with ⟨hcs, _⟩ | ⟨a, len, cap, m, n, D, Pl, hcs, _, hl, hm, hmm, _, hi⟩
  · exact ⟨[], none, 0, hcs, by simp, none, 0, rfl, Or.inl rfl⟩
  · have hlm : len ≤ m := by rw [hmm]; split <;> omega
    have hex : ∀ i, i < len → ∃ x : CondD, (∀ j u, x.row[j]? = some u → w.cell? ((a.add (i * 9)).add j) = some u) ∧ x.ok := by
      intro i hil
      obtain ⟨cs', hc, ht⟩ := hi i (by omega)
      rw [cellsCond] at hc
      obtain ⟨x, rfl, hx⟩ := cond_cells ht
      obtain ⟨_, _, hat⟩ := World.cells?_some hc
      refine ⟨x, fun j u hu => ?_, hx⟩
      have hj : j < 9 := by
        rcases Nat.lt_or_ge j 9 with h | h
        · exact h
        · rw [List.getElem?_eq_none (by rw [crow_len]; exact h)] at hu; cases hu
      rw [hat j hj, hu]
    obtain ⟨f, hf2⟩ : ∃ f : Nat → CondD, ∀ i, i < len → (∀ j u, (f i).row[j]? = some u → w.cell? ((a.add (i * 9)).add j) = some u) ∧ (f i).ok :=
      ⟨fun i => if h : i < len then Classical.choose (hex i h) else ⟨0, 0, 0, 0, ⟨#[]⟩, ⟨0, 0, 0, 0⟩⟩, fun i h => by simp only [dif_pos h]; exact Classical.choose_spec (hex i h)⟩
    have hlen : ((List.range len).map f).length = len := by simp
    refine ⟨(List.range len).map f, some a, cap, by rw [hlen]; exact hcs, ?_, some a, cap, rfl, ?_⟩
    · intro x hx
      simp only [List.mem_map, List.mem_range] at hx
      obtain ⟨i, hi, rfl⟩ := hx
      exact (hf2 i hi).2
    · rcases Nat.eq_zero_or_pos len with h0 | h0
      · left; subst h0; rfl
      · right
        have hc0 := (hf2 0 h0).1 0 _ rfl
        obtain ⟨b, o, spot⟩ := a
        have hspot : spot = none := by simpa [Addr.add] using World.cell?_spot hc0
        subst hspot
        refine ⟨b, o, rfl, by simpa [Addr.add] using block_lt hc0, fun i x hx => ?_⟩
        have hil : i < len := by
          rcases Nat.lt_or_ge i len with h | h
          · exact h
          · rw [List.getElem?_eq_none (by simpa using h)] at hx; cases hx
        obtain rfl : f i = x := by simpa [hil] using hx
        intro j u hu
        have hc := (hf2 i hil).1 j u hu
        rw [add_plain, add_plain] at hc
        exact hc
set_option maxRecDepth 100000 in
theorem act_cells2 {cs : List Value} {x : DataW H × List MemPlace} (h : DataW.trod enc Try.prog w base spare held fuel 24 cs = some x) : ∃ k e, cs = [.int .i64 k, .int .i64 e] := by
  obtain ⟨xs, m, _, _, hl, hxl, hf⟩ := DataW.trod_struct Try.underlying24 h
  rw [cellsAct] at hl
  obtain ⟨c0, c1, rfl⟩ := list2 hl
  obtain ⟨x0, x1, rfl⟩ := list2 hxl
  have f0 := hf 0 _ rfl
  have f1 := hf 1 _ rfl
  simp [cells3] at f0 f1
  obtain ⟨k, e0, _⟩ := int_cell f0
  obtain ⟨e, e1, _⟩ := int_cell f1
  simp at e0 e1
  subst e0 e1
  exact ⟨k, e, rfl⟩
set_option maxRecDepth 100000 in
theorem rule_cells {cs : List Value} {x : DataW H × List MemPlace} (h : DataW.trod enc Try.prog w base spare held fuel 57 cs = some x) :
    ∃ (r : RuleD) (A : Option Addr) (c : Nat), cs = [.int .i64 r.nr, .slice A r.conds.length c, .int .i64 r.kind, .int .i64 r.errno] ∧ CondsSl w w.heap.size (.slice A r.conds.length c) r.conds := by
  obtain ⟨xs, m, _, _, hl, hxl, hf⟩ := DataW.trod_struct Try.underlying57 h
  rw [cellsRule] at hl
  obtain ⟨c0, c1, c2, c3, rfl⟩ := list4 hl
  obtain ⟨x0, x1, x2, rfl⟩ := list3 hxl
  have f0 := hf 0 _ rfl
  have f1 := hf 1 _ rfl
  have f2 := hf 2 _ rfl
  simp [cells3, cellsCs, cellsAct] at f0 f1 f2
  obtain ⟨nr, e0, _⟩ := int_cell f0
  obtain ⟨l, A, c, e1, hcs⟩ := conds_cells f1
  obtain ⟨k, e, e2⟩ := act_cells2 f2
  simp at e0 e1 e2
  obtain ⟨rfl, rfl⟩ := e2
  subst e0 e1
  exact ⟨⟨nr, l, k, e⟩, A, c, rfl, hcs⟩
set_option maxRecDepth 100000 in
theorem rules_cells {cs : List Value} {x : DataW H × List MemPlace} (h : DataW.trod enc Try.prog w base spare held fuel 22 cs = some x) :
    ∃ (l : List RuleD) (A : Option Addr) (c : Nat), cs = [.slice A l.length c] ∧ RulesSl w w.heap.size (.slice A l.length c) l := by
  rcases open_slice Try.underlying22 h with ⟨hcs, _⟩ | ⟨a, len, cap, m, n, D, Pl, hcs, _, hl, hm, hmm, _, hi⟩
  · exact ⟨[], none, 0, hcs, none, 0, rfl, Or.inl rfl⟩
  · have hlm : len ≤ m := by rw [hmm]; split <;> omega
    have hex : ∀ i, i < len → ∃ x : RuleD, ∃ A c, (∀ j u, [Value.int .i64 x.nr, .slice A x.conds.length c, .int .i64 x.kind, .int .i64 x.errno][j]? = some u → w.cell? ((a.add (i * 4)).add j) = some u) ∧ CondsSl w w.heap.size (.slice A x.conds.length c) x.conds := by
      intro i hil
      obtain ⟨cs', hc, ht⟩ := hi i (by omega)
      rw [cellsRule] at hc
      obtain ⟨x, A, c, rfl, hx⟩ := rule_cells ht
      obtain ⟨_, _, hat⟩ := World.cells?_some hc
      refine ⟨x, A, c, fun j u hu => ?_, hx⟩
      have hj : j < 4 := by
        rcases Nat.lt_or_ge j 4 with h | h
        · exact h
        · rw [List.getElem?_eq_none (by simpa using h)] at hu; cases hu
      rw [hat j hj, hu]
    obtain ⟨f, hf2⟩ : ∃ f : Nat → RuleD, ∀ i, i < len → ∃ A c, (∀ j u, [Value.int .i64 (f i).nr, .slice A (f i).conds.length c, .int .i64 (f i).kind, .int .i64 (f i).errno][j]? = some u → w.cell? ((a.add (i * 4)).add j) = some u) ∧ CondsSl w w.heap.size (.slice A (f i).conds.length c) (f i).conds :=
      ⟨fun i => if h : i < len then Classical.choose (hex i h) else ⟨0, [], 0, 0⟩, fun i h => by simp only [dif_pos h]; exact Classical.choose_spec (hex i h)⟩
    have hlen : ((List.range len).map f).length = len := by simp
    refine ⟨(List.range len).map f, some a, cap, by rw [hlen]; exact hcs, some a, cap, rfl, ?_⟩
    rcases Nat.eq_zero_or_pos len with h0 | h0
    · left; subst h0; rfl
    · right
      obtain ⟨A0, cc0, hc00, _⟩ := hf2 0 h0
      have hc0 := hc00 0 _ rfl
      obtain ⟨b, o, spot⟩ := a
      have hspot : spot = none := by simpa [Addr.add] using World.cell?_spot hc0
      subst hspot
      refine ⟨b, o, rfl, by simpa [Addr.add] using block_lt hc0, fun i x hx => ?_⟩
      have hil : i < len := by
        rcases Nat.lt_or_ge i len with h | h
        · exact h
        · rw [List.getElem?_eq_none (by simpa using h)] at hx; cases hx
      obtain rfl : f i = x := by simpa [hil] using hx
      obtain ⟨Ai, ci, hci, hcs2⟩ := hf2 i hil
      refine ⟨Ai, ci, hcs2, fun j u hu => ?_⟩
      have hc := hci j u hu
      rw [add_plain, add_plain] at hc
      exact hc
set_option maxRecDepth 100000 in
/-- A policy that came in. -/
theorem open_policy {r : Reach} {b0 : Nat} {v : Value} {d : DataW H} {p : List MemPlace} (hv : Value.okWide Try.prog w r b0 26 v) (h : DataW.Trod enc Try.prog w base spare held 26 v d p) :
    ∃ q : PolD, PolAt w w.heap.size v q := by
  obtain ⟨cs, rfl, _⟩ := okWide_struct Try.underlying26 hv
  obtain ⟨fuel, hf0⟩ := h
  obtain ⟨xs, m, _, _, hl, hxl, hf⟩ := DataW.trod_struct Try.underlying26 hf0
  obtain ⟨cs⟩ := cs
  simp only [Value.cells] at hl hf
  rw [cellsPol] at hl
  obtain ⟨c0, c1, c2, rfl⟩ := list3 hl
  obtain ⟨x0, x1, rfl⟩ := list2 hxl
  have f0 := hf 0 _ rfl
  have f1 := hf 1 _ rfl
  simp [cellsRs, cellsAct] at f0 f1
  obtain ⟨l, A, c, e0, hR⟩ := rules_cells f0
  obtain ⟨k, e, e1⟩ := act_cells2 f1
  simp at e0 e1
  obtain ⟨rfl, rfl⟩ := e1
  subst e0
  exact ⟨⟨l, k, e⟩, A, c, rfl, hR⟩
end
end Go.Proofs.Ytmgngapkgcofnab
