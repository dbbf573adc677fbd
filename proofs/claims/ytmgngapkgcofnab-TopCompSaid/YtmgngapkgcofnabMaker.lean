/- The maker of a program: add, half, ret: the walks. -/
import Derived.Test.YtmgngapkgcofnabPolCheck
import Derived.Test.YtmgngapkgcofnabIns
import Derived.OwnWalk
namespace Go.Proofs.Ytmgngapkgcofnab
open Go.RowKit Go.PlainAid

structure MakerAt (w : World) (m : Nat) (l : List Ins) (op : List Int) : Prop where
  rep : ∃ lv ov, w.heap[m]? = some (.cells #[lv, ov] 52 (0, 0)) ∧ w.ownsRow (m + 1) 68 4 lv l.length (flat l) ∧ w.ownsRow (m + 1) 3 1 ov op.length (op.map (Value.int .i64))
theorem own_apart {w : World} {B : Nat} {e e' : TypeId} {s s' n n' : Nat} {v v' : Value} {xs xs' : List Value} (h : w.ownsRow B e s v n xs) (h' : w.ownsRow B e' s' v' n' xs') (hne : e ≠ e') : v.ownBlock = none ∨ v.ownBlock ≠ v'.ownBlock := by
  rcases h.2 with ⟨rfl, _⟩ | ⟨g, cap, cur, rfl, _, hg, _⟩
  · exact Or.inl rfl
  · right
    rcases h'.2 with ⟨rfl, _⟩ | ⟨g', cap', cur', rfl, _, hg', _⟩
    · simp [Value.ownBlock]
    · intro hh
      simp only [Value.ownBlock, Option.some.injEq] at hh
      subst hh
      rw [hg] at hg'
      simp only [Option.some.injEq, Obj.cells.injEq] at hg'
      exact hne hg'.2.1
theorem own_not {w : World} {m : Nat} {e : TypeId} {s n : Nat} {v : Value} {xs : List Value} (h : w.ownsRow (m + 1) e s v n xs) : some m ≠ v.ownBlock := by
  intro hh
  have := (h.lt m hh.symm).1
  omega
theorem grown_below {w w' : World} {m : Nat} {v : Value} {e : TypeId} {s n : Nat} {xs : List Value} (h : w.ownsRow (m + 1) e s v n xs) (hg : w.grownBy w' v.ownBlock) : Below (m + 1) w w' ∨ w.heap.size < m + 1 := by
  rcases Nat.lt_or_ge w.heap.size (m + 1) with h1 | h1
  · exact Or.inr h1
  · left
    exact ⟨hg.os, hg.tape, hg.output, hg.size, fun k hk => hg.block k (by omega) (fun e => by have := (h.lt k e.symm).1; omega)⟩

theorem own_form2 {w : World} {B : Nat} {e : TypeId} {sz n : Nat} {v : Value} {xs : List Value} (h : w.ownsRow B e sz v n xs) : ∃ A c, v = .slice A n c := by
  rcases h.2 with ⟨rfl, rfl⟩ | ⟨g, cap, cur, rfl, _⟩
  · exact ⟨none, 0, rfl⟩
  · exact ⟨_, _, rfl⟩
theorem set_grown (w : World) (m i : Nat) (u : Value) : w.grownBy (w.setCell ⟨m, i, none⟩ u) (some m) :=
  ⟨rfl, rfl, rfl, by simp [World.setCell], fun k _ hk => heap_setCell_other w ⟨m, i, none⟩ k u (fun e => hk (by simp [e]))⟩
theorem own_set {w : World} {m i : Nat} {e : TypeId} {s n : Nat} {v u : Value} {xs : List Value} (h : w.ownsRow (m + 1) e s v n xs) : (w.setCell ⟨m, i, none⟩ u).ownsRow (m + 1) e s v n xs := by
  refine h.kept (set_grown w m i u) ?_
  cases hv : v.ownBlock with
  | none => exact Or.inl rfl
  | some g => right; rw [← hv]; exact fun hh => own_not h hh.symm
theorem maker_set0 {w : World} {m : Nat} {lv ov lv' : Value} {l : List Ins} {op : List Int} (hm : w.heap[m]? = some (.cells #[lv, ov] 52 (0, 0))) (hL : w.ownsRow (m + 1) 68 4 lv' l.length (flat l)) (hO : w.ownsRow (m + 1) 3 1 ov op.length (op.map (Value.int .i64))) :
    MakerAt (w.setCell ⟨m, 0, none⟩ lv') m l op :=
  ⟨lv', ov, by have := heap_setCell_same w m 0 _ _ lv' hm; simpa using this, own_set hL, own_set hO⟩
theorem maker_set1 {w : World} {m : Nat} {lv ov ov' : Value} {l : List Ins} {op : List Int} (hm : w.heap[m]? = some (.cells #[lv, ov] 52 (0, 0))) (hL : w.ownsRow (m + 1) 68 4 lv l.length (flat l)) (hO : w.ownsRow (m + 1) 3 1 ov' op.length (op.map (Value.int .i64))) :
    MakerAt (w.setCell ⟨m, 1, none⟩ ov') m l op :=
  ⟨lv, ov', by have := heap_setCell_same w m 1 _ _ ov' hm; simpa using this, own_set hL, own_set hO⟩

/-- What is no row of the maker's stands: told by its type. -/
def Kept (w w' : World) : Prop := ∀ (k : Nat) (cs : Array Value) (t : TypeId) (fr : Nat × Nat), w.heap[k]? = some (Obj.cells cs t fr) → t ≠ 68 → t ≠ 3 → t ≠ 52 → w'.heap[k]? = some (Obj.cells cs t fr)
structure Bel (m : Nat) (w w' : World) : Prop where
  below : Below m w w'
  kept : Kept w w'
theorem Bel.refl (m : Nat) (w : World) : Bel m w w := ⟨Below.refl _ _, fun _ _ _ _ h _ _ _ => h⟩
theorem Bel.trans {m : Nat} {a b c : World} (h : Bel m a b) (k : Bel m b c) : Bel m a c := ⟨h.below.trans k.below, fun i cs t fr hi h1 h2 h3 => k.kept i cs t fr (h.kept i cs t fr hi h1 h2 h3) h1 h2 h3⟩
theorem Bel.of_below {m : Nat} {w w' : World} (h : Below w.heap.size w w') (hm : m ≤ w.heap.size) : Bel m w w' :=
  ⟨h.mono hm, fun k cs t fr hk _ _ _ => by
    have : k < w.heap.size := by
      rcases Nat.lt_or_ge k w.heap.size with h1 | h1
      · exact h1
      · simp [Array.getElem?_eq_none h1] at hk
    exact (h.block k this).trans hk⟩
theorem Bel.set {m : Nat} {w w1 : World} (h : Bel m w w1) {cs : Array Value} {fr : Nat × Nat} (hm : w1.heap[m]? = some (.cells cs 52 fr)) (i : Nat) (u : Value) : Bel m w (w1.setCell ⟨m, i, none⟩ u) :=
  ⟨h.below.setCell (Nat.le_refl _) _, fun k cs' t fr' hk h1 h2 h3 => by
    have hk2 := h.kept k cs' t fr' hk h1 h2 h3
    have hne : k ≠ m := by
      rintro rfl
      rw [hm] at hk2
      simp only [Option.some.injEq, Obj.cells.injEq] at hk2
      exact h3 hk2.2.1.symm
    rw [heap_setCell_other w1 ⟨m, i, none⟩ k u hne]; exact hk2⟩
theorem Bel.grown {m : Nat} {w w' : World} {e : TypeId} {s n : Nat} {v : Value} {xs : List Value} (h : w.ownsRow (m + 1) e s v n xs) (he : e = 68 ∨ e = 3) (hm : m < w.heap.size) (o : Obj) (hg : (w.alloc o).grownBy w' v.ownBlock) : Bel m w w' := by
  refine ⟨((Below.refl _ _).alloc (Nat.le_of_lt hm) o).trans ⟨hg.os, hg.tape, hg.output, hg.size, fun k hk => hg.block k (by simp; omega) (fun e => ?_)⟩, fun k cs t fr hk h1 h2 h3 => ?_⟩
  · have := (h.lt k e.symm).1
    omega
  · have hks : k < w.heap.size := by
      rcases Nat.lt_or_ge k w.heap.size with h1 | h1
      · exact h1
      · simp [Array.getElem?_eq_none h1] at hk
    refine (hg.block k (by simp; omega) (fun e' => ?_)).trans ((heap_alloc_old w o hks).trans hk)
    rcases h.2 with ⟨rfl, _⟩ | ⟨g, cap, cur, rfl, _, hgg, _⟩
    · simp [Value.ownBlock] at e'
    · simp only [Value.ownBlock, Option.some.injEq] at e'
      subst e'
      rw [hgg] at hk
      simp only [Option.some.injEq, Obj.cells.injEq] at hk
      rcases he with rfl | rfl
      · exact h1 hk.2.1.symm
      · exact h2 hk.2.1.symm

set_option linter.unusedSimpArgs false in
set_option maxRecDepth 100000 in
set_option maxHeartbeats 2000000 in
theorem add_any (m : Nat) (l : List Ins) (op : List Int) (o jt jf k : Int) (w : World) (h : MakerAt w m l op) (hl : l.length ≤ 100000) :
    Calls Try.prog 11 #[.pointer (some ⟨m, 0, none⟩), .int .i64 o, .int .i64 jt, .int .i64 jf, .int .u32 k] w fun e w' => e = .returned (.tuple #[]) ∧ MakerAt w' m (l ++ [Ins.mk o jt jf k]) op ∧ Bel m w w' := by
  obtain ⟨lv, ov, hm, hL, hO⟩ := h.rep
  obtain ⟨i0, hi, hz0, hz1, hz2⟩ := info_parts insInfo
  have hms : m < w.heap.size := by
    rcases Nat.lt_or_ge m w.heap.size with h1 | h1
    · exact h1
    · simp [Array.getElem?_eq_none h1] at hm
  have c0 : w.cell? ⟨m, 0, none⟩ = some lv := by rw [cell_of_row w _ _ _ _ _ hm]; rfl
  have HL := Lib.hid hL
  have HO := Lib.hid hO
  have HM := Lib.hid hm
  have hsz : (flat l).length = l.length * 4 := hL.1
  have HMB : Hid (∀ o w1, (w.alloc o).grownBy w1 lv.ownBlock → w1.heap[m]? = some (.cells #[lv, ov] 52 (0, 0))) := fun o w1 hg => (hg.block m (by simp; omega) (own_not hL)).trans ((heap_alloc_old w o hms).trans hm)
  have HOK : Hid (∀ o w1, (w.alloc o).grownBy w1 lv.ownBlock → w1.ownsRow (m + 1) 3 1 ov op.length (op.map (Value.int .i64))) := fun o w1 hg => (hO.alloc o).kept hg (own_apart hO hL (by decide))
  have HBL : Hid (∀ o w1, (w.alloc o).grownBy w1 lv.ownBlock → Bel m w w1) := fun o w1 hg => Bel.grown hL (Or.inl rfl) hms o hg
  clear hL hO hm h
  go_enter Try.func11, Try.ntmps11
  go_wp2_with (at_builtin; refine wpList_append_own _ rfl _ _ _ rfl (m + 1) 68 i0 _ 4 32 Try.underlying28 hi hz0 hz1 hz2 rfl (by omega) lv l.length (flat l) rfl (HL.out.alloc _) ⟨w.heap.size, 0, none⟩ 1 1 [.int .i64 o, .int .i64 jt, .int .i64 jf, .int .u32 k] rfl rfl (ins_cells _ _ _ _ _ _ _ (heap_alloc_new _ _) rfl) (by simp [Value.oneCell']) (by unfold maxLen; omega) (by omega) (by simp; omega) ?_; intro v' w1 hown3 hgrow _; obtain ⟨A', c', hf⟩ := own_form2 hown3; subst hf; have hmb := HMB.out _ _ hgrow; have c1 : w1.cell? ⟨m, 0, none⟩ = some lv := (cell_of_row w1 _ _ _ _ _ hmb).trans rfl; have f1 := frozen_of_row w1 m 0 _ _ hmb; have HB := Lib.hid (HBL.out _ _ hgrow); have HO2 := Lib.hid (HOK.out _ _ hgrow); have HMM := Lib.hid hmb; have H3 := Lib.hid hown3; clear hown3 hgrow hmb)
  go_returns
  have H4 : w1.ownsRow (m + 1) 68 4 (.slice A' (l.length + 1) c') (l ++ [Ins.mk o jt jf k]).length (flat (l ++ [Ins.mk o jt jf k])) := by
    rw [flat_append, List.length_append]; exact H3.out
  exact ⟨rfl, maker_set0 HMM.out H4 HO2.out, HB.out.set HMM.out _ _⟩

end Go.Proofs.Ytmgngapkgcofnab
