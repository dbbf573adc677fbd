/- Arguments opened: a slice of calls. -/
import Derived.Test.YtmgngapkgcofnabOpen
import Derived.Test.YtmgngapkgcofnabPol
namespace Go.Proofs.Ytmgngapkgcofnab
open Go.RowKit Go.WideShapes Go.ChangeShapes Go.Deep

def CallD.row (c : CallD) : List Value := [.int .u32 c.arch, .int .u32 c.nr, .int .u64 c.a0, .int .u64 c.a1, .int .u64 c.a2, .int .u64 c.a3]
def CallRow (w : World) (b o : Nat) (l : List CallD) : Prop := ∀ i x, l[i]? = some x → w.rangeAt b (o + i * 6) x.row
def CallsSl (w : World) (B : Nat) (v : Value) (l : List CallD) : Prop :=
  (∀ x ∈ l, x.ok) ∧ ∃ A c, v = .slice A l.length c ∧ (l = [] ∨ ∃ b o, A = some ⟨b, o, none⟩ ∧ b < B ∧ CallRow w b o l)
theorem CallRow.below {w w' : World} {b o B : Nat} {l : List CallD} (h : CallRow w b o l) (hb : Below B w w') (hB : b < B) : CallRow w' b o l :=
  fun i x hx j v hv => (hb.cell (p := ⟨b, _, none⟩) hB).trans (h i x hx j v hv)
section
variable {H : Type} {enc : TypeId × Value → H} {w : World} {base : Nat} {spare : Nat → Bool} {held : Bool} {fuel : Nat}
theorem crow6 (x : CallD) : x.row.length = 6 := rfl
set_option maxRecDepth 100000 in
/-- A slice of calls that came in. -/
theorem open_calls {r : Reach} {b0 : Nat} {v : Value} {d : DataW H} {p : List MemPlace} (hv : Value.okWide Try.prog w r b0 27 v) (h : DataW.Trod enc Try.prog w base spare held 27 v d p) :
    ∃ l : List CallD, CallsSl w w.heap.size v l := by
  obtain ⟨a0, len0, cap0, rfl⟩ := okWide_slice Try.underlying27 hv
  obtain ⟨fuel, hf⟩ := h
  rcases open_slice Try.underlying27 (by simpa [Value.cells] using hf) with ⟨hcs, _⟩ | ⟨a, len, cap, m, n, D, Pl, hcs, _, hl, hm, hmm, _, hi⟩
  · simp only [List.cons.injEq, and_true] at hcs
    exact ⟨[], by simp, none, 0, hcs, Or.inl rfl⟩
  · simp only [List.cons.injEq, and_true] at hcs
    have hlm : len ≤ m := by rw [hmm]; split <;> omega
    have hex : ∀ i, i < len → ∃ x : CallD, (∀ j u, x.row[j]? = some u → w.cell? ((a.add (i * 6)).add j) = some u) ∧ x.ok := by
      intro i hil
      obtain ⟨cs', hc, ht⟩ := hi i (by omega)
      rw [cells40] at hc
      obtain ⟨x, rfl, hx⟩ := call_cells ht
      obtain ⟨_, _, hat⟩ := World.cells?_some hc
      refine ⟨x, fun j u hu => ?_, hx⟩
      have hj : j < 6 := by
        rcases Nat.lt_or_ge j 6 with h | h
        · exact h
        · rw [List.getElem?_eq_none (by rw [crow6]; exact h)] at hu; cases hu
      rw [hat j hj, ← hu]
      rfl
    obtain ⟨f, hf2⟩ : ∃ f : Nat → CallD, ∀ i, i < len → (∀ j u, (f i).row[j]? = some u → w.cell? ((a.add (i * 6)).add j) = some u) ∧ (f i).ok :=
      ⟨fun i => if h : i < len then Classical.choose (hex i h) else ⟨0, 0, 0, 0, 0, 0⟩, fun i h => by simp only [dif_pos h]; exact Classical.choose_spec (hex i h)⟩
    have hlen : ((List.range len).map f).length = len := by simp
    refine ⟨(List.range len).map f, ?_, some a, cap, by rw [hlen]; exact hcs, ?_⟩
    · intro x hx
      simp only [List.mem_map, List.mem_range] at hx
      obtain ⟨i, hi, rfl⟩ := hx
      exact (hf2 i hi).2
    · rcases Nat.eq_zero_or_pos len with h0 | h0
      · left; subst h0; rfl
      · right
        have hc0 := (hf2 0 h0).1 0 _ rfl
        obtain ⟨b, o, spot⟩ := a
        have hspot : spot = none := by simpa [Addr.add] using World.cell?_spot hc0
        subst hspot
        refine ⟨b, o, rfl, by simpa [Addr.add] using block_lt hc0, fun i x hx => ?_⟩
        have hil : i < len := by
          rcases Nat.lt_or_ge i len with h | h
          · exact h
          · rw [List.getElem?_eq_none (by simpa using h)] at hx; cases hx
        obtain rfl : f i = x := by simpa [hil] using hx
        intro j u hu
        have hc := (hf2 i hil).1 j u hu
        rw [add_plain, add_plain] at hc
        exact hc
end
end Go.Proofs.Ytmgngapkgcofnab
