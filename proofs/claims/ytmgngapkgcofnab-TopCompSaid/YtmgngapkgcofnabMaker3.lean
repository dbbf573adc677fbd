/- The maker of a program: here: the walk. -/
import Derived.Test.YtmgngapkgcofnabMaker2
import Derived.BigRegion
namespace Go.Proofs.Ytmgngapkgcofnab
open Go.RowKit Go.PlainAid

def setKL (l : List Ins) (a : Nat) (k : Int) : List Ins := l.modify a fun x => ⟨x.op, x.jt, x.jf, k⟩
theorem setKL_length (l : List Ins) (a : Nat) (k : Int) : (setKL l a k).length = l.length := by simp [setKL]
theorem flat_setKL (k : Int) : ∀ (l : List Ins) (a : Nat), flat (setKL l a k) = (flat l).set (a * 4 + 3) (.int .u32 k)
  | [], a => by cases a <;> rfl
  | x :: r, 0 => by simp [setKL, flat]
  | x :: r, a + 1 => by
    have ih := flat_setKL k r a
    simp only [setKL, List.modify_succ_cons] at ih ⊢
    show _ ++ flat (r.modify a _) = _
    rw [show flat (r.modify a fun x => ⟨x.op, x.jt, x.jf, k⟩) = flat (setKL r a k) from rfl] at *
    rw [show flat (setKL r a k) = (flat r).set (a * 4 + 3) (.int .u32 k) from ih]
    rw [show (a + 1) * 4 + 3 = (a * 4 + 3) + 4 from by omega]
    rfl
def hereN (l : List Ins) (op : List Int) : Nat → List Ins
  | 0 => l
  | n + 1 => match op[n]? with
    | some a => setKL (hereN l op n) a.toNat (l.length - a - 1)
    | none => hereN l op n
theorem hereN_length (l : List Ins) (op : List Int) : ∀ n, (hereN l op n).length = l.length := by
  intro n
  induction n with
  | zero => rfl
  | succ n ih =>
    rw [hereN]
    split
    · rw [setKL_length, ih]
    · exact ih
theorem flat_length (l : List Ins) : (flat l).length = l.length * 4 := by
  induction l with
  | nil => rfl
  | cons x r ih => simp only [flat, List.flatMap_cons, List.length_append, List.length_cons, List.length_nil] at ih ⊢; omega

set_option linter.unusedSimpArgs false in
set_option maxRecDepth 100000 in
set_option maxHeartbeats 4000000 in
theorem here_any (m : Nat) (l : List Ins) (op : List Int) (w : World) (h : MakerAt w m l op) (hl : l.length ≤ 100000) (ho : op.length ≤ 100000) (hop : ∀ a ∈ op, 0 ≤ a ∧ a < l.length) :
    Calls Try.prog 15 #[.pointer (some ⟨m, 0, none⟩)] w fun e w' => e = .returned (.tuple #[]) ∧ MakerAt w' m (hereN l op op.length) [] ∧ Bel m w w' := by
  obtain ⟨lv, ov, hm, hL, hO⟩ := h.rep
  obtain ⟨AL, cL, rfl⟩ := own_form2 hL
  obtain ⟨AO, cO, rfl⟩ := own_form2 hO
  have c1 : w.cell? ⟨m, 1, none⟩ = some (.slice AO op.length cO) := by
    rw [cell_of_row w _ _ _ _ _ hm]; rfl
  have HREL : Hid (w.heap[m]? = some (.cells #[.slice AL l.length cL, .slice AO op.length cO] 52 (0, 0)) ∧ w.ownsRow (m + 1) 68 4 (.slice AL l.length cL) l.length (flat (hereN l op 0)) ∧ w.ownsRow (m + 1) 3 1 (.slice AO op.length cO) op.length (op.map (Value.int .i64)) ∧ Bel m w w) := ⟨hm, hL, hO, Bel.refl _ _⟩
  have HOP := Lib.hid hop
  clear hL hO hm h hop
  go_enter Try.func15, Try.ntmps15
  go_wp2_with fail
  go_loopw [9] (fun iv wr => ∃ k : Nat, k ≤ op.length ∧ iv = .int .i64 k ∧ Hid (wr.heap[m]? = some (.cells #[.slice AL l.length cL, .slice AO op.length cO] 52 (0, 0)) ∧ wr.ownsRow (m + 1) 68 4 (.slice AL l.length cL) l.length (flat (hereN l op k)) ∧ wr.ownsRow (m + 1) 3 1 (.slice AO op.length cO) op.length (op.map (Value.int .i64)) ∧ Bel m w wr)) (fun iv _ => op.length - (intOf iv).toNat)
  case atStart => exact ⟨0, Nat.zero_le _, rfl, HREL⟩
  case round =>
    obtain ⟨k, hk, rfl, hR⟩ := hrel
    obtain ⟨hm, hL, hO, hB⟩ := hR.out
    have c0 : wr.cell? ⟨m, 0, none⟩ = some (.slice AL l.length cL) := by rw [cell_of_row wr _ _ _ _ _ hm]; rfl
    have c1' : wr.cell? ⟨m, 1, none⟩ = some (.slice AO op.length cO) := by rw [cell_of_row wr _ _ _ _ _ hm]; rfl
    by_cases hlt : k < op.length
    · have x1 : (k : Int) < (op.length : Int) := by omega
      have x2 : (0 : Int) ≤ (k : Int) := by omega
      have hopk : op[k]? = some op[k] := by simp
      obtain ⟨a0, a1⟩ := HOP.out op[k] (by simp)
      obtain ⟨a, ha⟩ : ∃ a : Nat, op[k] = a := ⟨op[k].toNat, by omega⟩
      rw [ha] at hopk a1
      have al : a < l.length := by omega
      -- the rows' blocks
      obtain ⟨go, rfl⟩ : ∃ go, AO = some ⟨go, 0, none⟩ := by
        rcases hO.2 with ⟨h1, h2⟩ | ⟨g, cap, cur, h1, _⟩
        · omega
        · simp only [Value.slice.injEq] at h1; exact ⟨g, h1.1⟩
      obtain ⟨gl, rfl⟩ : ∃ gl, AL = some ⟨gl, 0, none⟩ := by
        rcases hL.2 with ⟨h1, h2⟩ | ⟨g, cap, cur, h1, _⟩
        · omega
        · simp only [Value.slice.injEq] at h1; exact ⟨g, h1.1⟩
      have d1 : wr.cell? ⟨go, k, none⟩ = some (.int .i64 (a : Int)) := by
        rw [hO.cellAt k (by omega), List.getElem?_map, hopk]; rfl
      have hfl : (flat (hereN l op k)).length = l.length * 4 := by rw [flat_length, hereN_length]
      obtain ⟨u, hu⟩ : ∃ u, (flat (hereN l op k))[a * 4 + 3]? = some u := ⟨_, List.getElem?_eq_getElem (by omega)⟩
      have d2 : wr.cell? ⟨gl, a * 4 + 3, none⟩ = some u := by rw [hL.cellAt (a * 4 + 3) (by omega)]; exact hu
      have f2 := hL.frozenAt (a * 4 + 3)
      obtain ⟨hS, hG⟩ := hL.stored (a * 4 + 3) (.int .u32 ((l.length : Int) - (a : Int) - 1))
      have hml : m ≠ gl := by have := (hL.lt gl rfl).1; omega
      have hap := own_apart hO hL (by decide)
      have HN : Hid ((wr.setCell ⟨gl, a * 4 + 3, none⟩ (.int .u32 ((l.length : Int) - (a : Int) - 1))).heap[m]? = some (.cells #[.slice (some ⟨gl, 0, none⟩) l.length cL, .slice (some ⟨go, 0, none⟩) op.length cO] 52 (0, 0)) ∧ (wr.setCell ⟨gl, a * 4 + 3, none⟩ (.int .u32 ((l.length : Int) - (a : Int) - 1))).ownsRow (m + 1) 68 4 (.slice (some ⟨gl, 0, none⟩) l.length cL) l.length (flat (hereN l op (k + 1))) ∧ (wr.setCell ⟨gl, a * 4 + 3, none⟩ (.int .u32 ((l.length : Int) - (a : Int) - 1))).ownsRow (m + 1) 3 1 (.slice (some ⟨go, 0, none⟩) op.length cO) op.length (op.map (Value.int .i64)) ∧ Bel m w (wr.setCell ⟨gl, a * 4 + 3, none⟩ (.int .u32 ((l.length : Int) - (a : Int) - 1)))) := by
        refine ⟨?_, ?_, hO.kept hG hap, ?_⟩
        · rw [heap_setCell_other wr ⟨gl, a * 4 + 3, none⟩ m _ hml]; exact hm
        · rw [hereN, hopk]
          simp only [Int.toNat_natCast]
          rw [flat_setKL]; exact hS
        · refine ⟨hB.below.trans ⟨hG.os, hG.tape, hG.output, hG.size, fun j hj => hG.block j (by have := (hL.lt gl rfl).2; have := (hL.lt gl rfl).1; omega) (fun e => by have := (hL.lt gl rfl).1; simp only [Option.some.injEq] at e; omega)⟩, fun j cs t fr hj h1 h2 h3 => ?_⟩
          have hj2 := hB.kept j cs t fr hj h1 h2 h3
          rw [heap_setCell_other wr ⟨gl, a * 4 + 3, none⟩ j _ (fun e => ?_)]
          · exact hj2
          · subst e
            rcases hL.2 with ⟨h4, _⟩ | ⟨g, cap, cur, h4, _, hgg, _⟩
            · simp at h4
            · simp only [Value.slice.injEq, Option.some.injEq, Addr.mk.injEq] at h4
              obtain ⟨⟨rfl, _⟩, _⟩ := h4
              rw [hgg] at hj2
              simp only [Option.some.injEq, Obj.cells.injEq] at hj2
              exact h1 hj2.2.1.symm
      have y1 : (0 : Int) ≤ (a : Int) := by omega
      have y2 : (a : Int) < (l.length : Int) := by omega
      have y3 : (l.length : Int) ≤ 100000 := by omega
      clear hm hL hO hB hR hS hG hap hfl hu a0 a1 ha hopk
      go_wp2_with fail
      go_region
      go_wp2_with fail
      go_roundw
      case rel => exact ⟨k + 1, by omega, by go_num, HN.out.1, HN.out.2.1.drew, HN.out.2.2.1.drew, ⟨⟨HN.out.2.2.2.below.os, HN.out.2.2.2.below.tape, HN.out.2.2.2.below.output, HN.out.2.2.2.below.size, HN.out.2.2.2.below.block⟩, HN.out.2.2.2.kept⟩⟩
      case measure => simp [intOf]; omega
    · obtain rfl : k = op.length := by omega
      have hO0 : wr.ownsRow (m + 1) 3 1 (.slice AO 0 cO) ([] : List Int).length (([] : List Int).map (Value.int .i64)) := by
        rcases hO.2 with ⟨h1, h2⟩ | ⟨g, cap, cur, h1, h2, h3, h4, h5, h6, h7⟩
        · simp only [Value.slice.injEq] at h1
          obtain ⟨rfl, _, rfl⟩ := h1
          exact ⟨by simp, Or.inl ⟨rfl, rfl⟩⟩
        · simp only [Value.slice.injEq] at h1
          obtain ⟨rfl, _, rfl⟩ := h1
          exact ⟨by simp, Or.inr ⟨g, cO, cur, rfl, h2, h3, Nat.zero_le _, h5, h6, by simp⟩⟩
      have f1 := frozen_of_row wr m 1 _ _ hm
      have hL2 : wr.ownsRow (m + 1) 68 4 (.slice AL l.length cL) (hereN l op op.length).length (flat (hereN l op op.length)) := by rw [hereN_length]; exact hL
      have HE : Hid (MakerAt (wr.setCell ⟨m, 1, none⟩ (.slice AO 0 cO)) m (hereN l op op.length) [] ∧ Bel m w (wr.setCell ⟨m, 1, none⟩ (.slice AO 0 cO))) :=
        ⟨maker_set1 hm hL2 hO0, hB.set hm _ _⟩
      clear hm hL hO hB hR hO0 hL2
      go_wp2_with fail
      go_returns
      exact ⟨rfl, HE.out.1, HE.out.2⟩

end Go.Proofs.Ytmgngapkgcofnab
