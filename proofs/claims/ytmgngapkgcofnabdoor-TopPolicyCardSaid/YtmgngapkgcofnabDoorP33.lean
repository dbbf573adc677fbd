/- A line's words that are read one by one: next and number. -/
import Derived.Test.YtmgngapkgcofnabDoorP01
import Derived.Laws.AppendOwn
import Derived.Test.YtmgngapkgcofnabDoorP32
namespace Go.Proofs.YtmgngapkgcofnabDoor
open Go.RowKit

/-- Strings side by side in a row. -/
def StrsRow (w : World) (g o : Nat) (ws : List ByteArray) : Prop := ∀ (i : Nat) (x : ByteArray), ws[i]? = some x → w.cell? ⟨g, o + i, none⟩ = some (.string x)
/-- A line's words, at block b; b and their row lie below block H. -/
def WordsAt (w : World) (H b : Nat) (ws : List ByteArray) (bad : Bool) : Prop :=
  b < H ∧ ∃ A c, w.heap[b]? = some (.cells #[.slice A ws.length c, .bool bad] 100 (0, 0)) ∧ (ws = [] ∨ ∃ g o, A = some ⟨g, o, none⟩ ∧ g ≠ b ∧ g < H ∧ StrsRow w g o ws) ∧ ws.length ≤ c
theorem lt_of_cell {w : World} {b o : Nat} {v : Value} (h : w.cell? ⟨b, o, none⟩ = some v) : b < w.heap.size := World.block_lt_of_cell? w ⟨b, o, none⟩ h
theorem lt_of_block {w : World} {b : Nat} {o : Obj} (h : w.heap[b]? = some o) : b < w.heap.size := (Array.getElem?_eq_some_iff.1 h).1
theorem StrsRow.grown {w w' : World} {g o : Nat} {ws : List ByteArray} {r : Option Nat} (h : StrsRow w g o ws) (hg : w.grownBy w' r) (hne : some g ≠ r) : StrsRow w' g o ws := fun i x hx => hg.cell (h i x hx) hne
theorem grown_of_below {w w' : World} {r : Option Nat} (h : Below w.heap.size w w') : w.grownBy w' r := ⟨h.os, h.tape, h.output, h.size, fun k hk _ => h.block k hk⟩
theorem grown_refl (w : World) (r : Option Nat) : w.grownBy w r := ⟨rfl, rfl, rfl, Nat.le_refl _, fun _ _ _ => rfl⟩
theorem grown_trans {a b c : World} {r : Option Nat} (h : a.grownBy b r) (k : b.grownBy c r) : a.grownBy c r := ⟨k.os.trans h.os, k.tape.trans h.tape, k.output.trans h.output, Nat.le_trans h.size k.size, fun i hi hne => (k.block i (Nat.lt_of_lt_of_le hi h.size) hne).trans (h.block i hi hne)⟩
theorem grown_set (w : World) (b i : Nat) (u : Value) : w.grownBy (w.setCell ⟨b, i, none⟩ u) (some b) := by
  have h : Below b w (w.setCell ⟨b, i, none⟩ u) := (Below.refl b w).setCell (p := ⟨b, i, none⟩) (Nat.le_refl _) u
  refine ⟨h.os, h.tape, h.output, h.size, fun k hk hne => ?_⟩
  exact heap_setCell_other w ⟨b, i, none⟩ k u (fun e => hne (by rw [e]))
theorem below_of_grown {B b : Nat} {a w w' : World} (h : Below B a w) (hg : w.grownBy w' (some b)) (hb : B ≤ b) (hs : B ≤ w.heap.size) : Below B a w' := by
  refine ⟨hg.os.trans h.os, hg.tape.trans h.tape, hg.output.trans h.output, Nat.le_trans h.size hg.size, fun k hk => ?_⟩
  exact (hg.block k (Nat.lt_of_lt_of_le hk hs) (fun e => by simp only [Option.some.injEq] at e; omega)).trans (h.block k hk)
theorem growB {w W1 W2 : World} {b : Nat} (h : w.grownBy W1 (some b)) (k : Below w.heap.size W1 W2) : w.grownBy W2 (some b) :=
  ⟨k.os.trans h.os, k.tape.trans h.tape, k.output.trans h.output, Nat.le_trans h.size k.size, fun i hi hne => (k.block i hi).trans (h.block i hi hne)⟩
theorem WordsAt.below {w w' : World} {H B b : Nat} {ws : List ByteArray} {bad : Bool} (h : WordsAt w H b ws bad) (hb : Below B w w') (hB : H ≤ B) : WordsAt w' H b ws bad := by
  obtain ⟨h0, A, c, h1, h2, h3⟩ := h
  refine ⟨h0, A, c, (hb.block b (Nat.lt_of_lt_of_le h0 hB)).trans h1, h2.imp id ?_, h3⟩
  rintro ⟨g, o, rfl, hne, hg, hr⟩
  exact ⟨g, o, rfl, hne, hg, fun i x hx => (hb.cell (p := ⟨g, o + i, none⟩) (Nat.lt_of_lt_of_le hg hB)).trans (hr i x hx)⟩
theorem WordsAt.cells {w : World} {H b : Nat} {ws : List ByteArray} {bad : Bool} (h : WordsAt w H b ws bad) : ∃ A c, w.cell? ⟨b, 0, none⟩ = some (.slice A ws.length c) ∧ w.cell? ⟨b, 1, none⟩ = some (.bool bad) ∧ w.frozen? ⟨b, 0, none⟩ = false ∧ w.frozen? ⟨b, 1, none⟩ = false := by
  obtain ⟨_, A, c, h1, _⟩ := h
  exact ⟨A, c, (cell_of_row _ _ _ _ _ _ h1).trans rfl, (cell_of_row _ _ _ _ _ _ h1).trans rfl, frozen_of_row _ _ _ _ _ h1, frozen_of_row _ _ _ _ _ h1⟩
theorem WordsAt.setBad {w : World} {H b : Nat} {ws : List ByteArray} {bad : Bool} (h : WordsAt w H b ws bad) (bad' : Bool) : WordsAt (w.setCell ⟨b, 1, none⟩ (.bool bad')) H b ws bad' := by
  obtain ⟨h0, A, c, h1, h2, h3⟩ := h
  refine ⟨h0, A, c, by have := heap_setCell_same w b 1 _ _ (.bool bad') h1; simpa using this, h2.imp id ?_, h3⟩
  rintro ⟨g, o, rfl, hne, hg, hr⟩
  exact ⟨g, o, rfl, hne, hg, hr.grown (grown_set w b 1 _) (by simpa using hne)⟩
theorem WordsAt.tail {w : World} {H b g o c : Nat} {x : ByteArray} {ws : List ByteArray} {bad : Bool} (h0 : b < H) (h1 : w.heap[b]? = some (.cells #[.slice (some ⟨g, o, none⟩) (ws.length + 1) c, .bool bad] 100 (0, 0))) (hne : g ≠ b) (hg : g < H) (hr : StrsRow w g o (x :: ws)) (A : Option Addr) (c' : Nat) (hA : ws ≠ [] → A = some ⟨g, o + 1, none⟩) (hc' : ws.length ≤ c') :
    WordsAt (w.setCell ⟨b, 0, none⟩ (.slice A ws.length c')) H b ws bad := by
  refine ⟨h0, A, c', by have := heap_setCell_same w b 0 _ _ (.slice A ws.length c') h1; simpa using this, ?_, hc'⟩
  by_cases hw : ws = []
  · exact .inl hw
  · refine .inr ⟨g, o + 1, hA hw, hne, hg, fun i y hy => ?_⟩
    have := hr (i + 1) y (by simpa using hy)
    rw [show o + (i + 1) = o + 1 + i from by omega] at this
    exact (grown_set w b 0 _).cell this (by simpa using hne)

theorem next_any (H b : Nat) (ws : List ByteArray) (bad : Bool) (w : World) (h : WordsAt w H b ws bad) (hl : ws.length ≤ 1000000) :
    Calls Tryd.prog 34 #[.pointer (some ⟨b, 0, none⟩)] w fun e w' => e = .returned (.string (ws.headD ByteArray.empty)) ∧ WordsAt w' H b ws.tail (bad || ws.isEmpty) ∧ w.grownBy w' (some b) := by
  have hW := Lib.hid h
  rcases ws with _ | ⟨x, ws⟩
  · obtain ⟨A, c, c0, c1, f0, f1⟩ := h.cells
    clear h
    go_enter Tryd.func34, Tryd.ntmps34
    go_wp2_with fail
    go_ret
    exact ⟨rfl, by simpa using hW.out.setBad true, grown_set _ _ _ _⟩
  · obtain ⟨h0, A, c, hb, hr, hc⟩ := h
    obtain ⟨g, o, rfl, hne, hg, hrow⟩ := hr.resolve_left (by simp)
    have x0 : w.cell? ⟨g, o, none⟩ = some (.string x) := hrow 0 x rfl
    have HT : Hid (∀ (A : Option Addr) (c' : Nat), (ws ≠ [] → A = some ⟨g, o + 1, none⟩) → ws.length ≤ c' → WordsAt (w.setCell ⟨b, 0, none⟩ (.slice A ws.length c')) H b ws bad) := WordsAt.tail h0 hb hne hg hrow
    have c0 : w.cell? ⟨b, 0, none⟩ = some (.slice (some ⟨g, o, none⟩) (ws.length + 1) c) := (cell_of_row _ _ _ _ _ _ hb).trans rfl
    have f0 := frozen_of_row _ _ _ _ (j := 0) hb
    clear hr hb hrow hW h0 hg
    simp only [List.length_cons] at hc hl
    by_cases hc1 : c = 1
    · subst hc1
      obtain rfl : ws = [] := List.eq_nil_of_length_eq_zero (by omega)
      go_enter Tryd.func34, Tryd.ntmps34
      go_wp2_with fail
      go_ret
      exact ⟨rfl, by simpa using HT.out _ 0 (fun h => absurd rfl h) (Nat.zero_le _), grown_set _ _ _ _⟩
    · go_enter Tryd.func34, Tryd.ntmps34
      go_wp2_with fail
      go_ret
      exact ⟨rfl, by simpa using HT.out _ (c - 1) (fun _ => rfl) (by omega), grown_set _ _ _ _⟩

/-- What the shelf's contracts read of the world, and what never changes. -/
structure Grd (w : World) : Prop where
  synt : ∃ ev, w.cell? ⟨4, 0, none⟩ = some ev ∧ (ev = .nilIface ∨ ∃ te pe, ev = .iface te pe)
  rang : ∃ ev, w.cell? ⟨5, 0, none⟩ = some ev ∧ (ev = .nilIface ∨ ∃ te pe, ev = .iface te pe)
  maxl : ∃ m, w.cell? ⟨0, 0, none⟩ = some (.int .i64 m)
theorem Grd.below {w w' : World} {B : Nat} (h : Grd w) (hb : Below B w w') (hB : w.heap.size ≤ B) : Grd w' := by
  obtain ⟨⟨e1, a1, a2⟩, ⟨e2, b1, b2⟩, m, c1⟩ := h
  exact ⟨⟨e1, (hb.cell (p := ⟨_, 0, none⟩) (Nat.lt_of_lt_of_le (lt_of_cell a1) hB)).trans a1, a2⟩, ⟨e2, (hb.cell (p := ⟨_, 0, none⟩) (Nat.lt_of_lt_of_le (lt_of_cell b1) hB)).trans b1, b2⟩, m, (hb.cell (p := ⟨_, 0, none⟩) (Nat.lt_of_lt_of_le (lt_of_cell c1) hB)).trans c1⟩
/-- Bytes of a string. -/
def bL (x : ByteArray) : List UInt8 := x.data.toList
theorem tl_eq (x : ByteArray) : x.toList = x.data.toList := ByteArray.toList_eq x
theorem tl_ne {x : ByteArray} {l : List UInt8} (h : ¬ x = ⟨l.toArray⟩) : (x.toList == l) = false := by
  rw [tl_eq]
  refine beq_eq_false_iff_ne.2 (fun e => h ?_)
  subst e
  simp
/-- The contract of number: right figures are read right. -/
def NumSaid : Prop := ∀ (w0 : World) (H b : Nat) (ws : List ByteArray) (bad : Bool) (w : World), Grd w0 → Below w0.heap.size w0 w → w0.heap.size ≤ b → H ≤ w.heap.size → WordsAt w H b ws bad → ws.length ≤ 1000000 → (∀ x ∈ ws, x.size ≤ 1000000) →
  Calls Tryd.prog 50 #[.pointer (some ⟨b, 0, none⟩)] w fun e w' => ∃ (n : Int) (bad' : Bool), e = .returned (.int .u64 n) ∧ (0 ≤ n ∧ n < 18446744073709551616) ∧ WordsAt w' H b ws.tail bad' ∧ w.grownBy w' (some b) ∧
    (∀ (k : Nat) (r : List (List UInt8)), k < 18446744073709551616 → ws.map bL = Lib.decDigits k :: r → n = k ∧ bad' = bad)
end Go.Proofs.YtmgngapkgcofnabDoor
