/- A policy's program at work: rules, the whole. -/
import Derived.Test.YtmgngapkgcofnabCompSim
namespace Go.Proofs.Ytmgngapkgcofnab
open Go.RowKit

theorem modify_get {α : Type} (f : α → α) (l : List α) (a j : Nat) : (l.modify a f)[j]? = if a = j then (l[j]?).map f else l[j]? := by
  rw [List.getElem?_modify]
  split
  · rfl
  · simp
def setK (k : Int) (x : Ins) : Ins := ⟨x.op, x.jt, x.jf, k⟩
theorem hereN_get (l : List Ins) (o : List Int) (j : Nat) : ∀ n, n ≤ o.length → (∀ a ∈ o, 0 ≤ a) →
    (((j : Int) ∈ o.take n) → (hereN l o n)[j]? = (l[j]?).map (setK ((l.length : Int) - j - 1))) ∧ ((j : Int) ∉ o.take n → (hereN l o n)[j]? = l[j]?) := by
  intro n
  induction n with
  | zero => intro _ _; exact ⟨fun h => absurd h (by simp), fun _ => rfl⟩
  | succ n ih =>
    intro hn h0
    obtain ⟨i1, i2⟩ := ih (by omega) h0
    have hlt : n < o.length := by omega
    have hg : o[n]? = some o[n] := List.getElem?_eq_getElem hlt
    have hz := h0 o[n] (List.getElem_mem hlt)
    rw [List.take_add_one, hg, hereN, hg]
    simp only [Option.toList_some, List.mem_append, List.mem_singleton]
    rw [show setKL (hereN l o n) o[n].toNat (l.length - o[n] - 1) = (hereN l o n).modify o[n].toNat (setK (l.length - o[n] - 1)) from rfl, modify_get]
    constructor
    · intro h
      by_cases e : (j : Int) = o[n]
      · rw [if_pos (by omega), ← e]
        by_cases m : (j : Int) ∈ o.take n
        · rw [i1 m, Option.map_map]; rfl
        · rw [i2 m]
      · rw [if_neg (by omega)]
        exact i1 (by rcases h with h | h; exact h; exact absurd h e)
    · intro h
      have h1 : (j : Int) ∉ o.take n := fun k => h (.inl k)
      have h2 : (j : Int) ≠ o[n] := fun k => h (.inr k)
      rw [if_neg (by omega)]
      exact i2 h1

/-- From a place on, just the jumps stand open. -/
def Opened (b : Nat) (s : List Ins × List Int) : Prop := (∀ a ∈ s.2, (b : Int) ≤ a ∧ a < s.1.length) ∧ ∀ (j : Nat) x, b ≤ j → s.1[j]? = some x → ((j : Int) ∈ s.2 ↔ x.op = 3)
theorem condO_iff (op : Int) (a v m : Nat) (hop : 1 ≤ op ∧ op ≤ 7) (i : Nat) (x : Ins) (h : (condL op a v m)[i]? = some x) : i ∈ condO op ↔ x.op = 3 := by
  have h7 : op = 1 ∨ op = 2 ∨ op = 3 ∨ op = 4 ∨ op = 5 ∨ op = 6 ∨ op = 7 := by omega
  have hl := condL_len op a v m
  have hi : i < 8 := by
    obtain ⟨h1, _⟩ := List.getElem?_eq_some_iff.1 h
    omega
  have i8 : i = 0 ∨ i = 1 ∨ i = 2 ∨ i = 3 ∨ i = 4 ∨ i = 5 ∨ i = 6 ∨ i = 7 := by omega
  rcases h7 with rfl | rfl | rfl | rfl | rfl | rfl | rfl <;> rcases i8 with rfl | rfl | rfl | rfl | rfl | rfl | rfl | rfl <;> simp [condL, condO, ldI, jmpI] at h ⊢ <;> (try subst h) <;> simp
theorem opened_add (b : Nat) (s : List Ins × List Int) (hs : Opened b s) (hb : b ≤ s.1.length) (op : Int) (a v m : Nat) (hop : 1 ≤ op ∧ op ≤ 7) :
    Opened b (s.1 ++ condL op a v m, s.2 ++ (condO op).map fun i => ((s.1.length + i : Nat) : Int)) := by
  obtain ⟨h1, h2⟩ := hs
  refine ⟨fun x hx => ?_, fun j x hj hx => ?_⟩
  · simp only [List.mem_append, List.mem_map] at hx
    simp only [List.length_append]
    rcases hx with hx | ⟨i, hi, rfl⟩
    · have := h1 x hx; omega
    · have := condO_lt op a v m i hi; omega
  · simp only [List.mem_append, List.mem_map]
    simp only at hx
    by_cases hl : j < s.1.length
    · rw [List.getElem?_append_left hl] at hx
      rw [← h2 j x hj hx]
      constructor
      · rintro (h | ⟨i, _, hi⟩)
        · exact h
        · exact absurd hi (by omega)
      · exact .inl
    · rw [List.getElem?_append_right (by omega)] at hx
      rw [← condO_iff op a v m hop _ x hx]
      constructor
      · rintro (h | ⟨i, h, hi⟩)
        · have := h1 _ h; omega
        · rw [show j - s.1.length = i by omega]; exact h
      · intro h
        exact .inr ⟨_, h, by omega⟩
/-- The code that a rule's conditions of numbers add. -/
def condsB (cs : List CondD) : Nat → List Ins
  | 0 => []
  | k + 1 => match cs[k]? with
    | some c => if 7 < c.op then condsB cs k else condsB cs k ++ condL c.op c.arg.toNat c.v.toNat c.m.toNat
    | none => condsB cs k
theorem condsL_opened (b : Nat) (s : List Ins × List Int) (hs : Opened b s) (hb : b ≤ s.1.length) (cs : List CondD) (hc : ∀ c ∈ cs, 1 ≤ c.op) : ∀ k, Opened b (condsL s cs k) ∧ (condsL s cs k).1 = s.1 ++ condsB cs k := by
  intro k
  induction k with
  | zero => exact ⟨hs, by simp [condsL, condsB]⟩
  | succ k ih =>
    rw [condsL, condsB]
    cases hg : cs[k]? with
    | none => exact ih
    | some c =>
      have h1 := hc c (List.mem_of_getElem? hg)
      simp only
      split
      · exact ih
      · refine ⟨opened_add b _ ih.1 (by rw [ih.2]; simp; omega) _ _ _ _ ⟨h1, by omega⟩, ?_⟩
        rw [ih.2]; simp
def ruleB (r : RuleD) (i : Nat) : List Ins := [Ins.mk 1 0 0 0, Ins.mk 4 1 0 r.nr, jmpI] ++ condsB r.conds r.conds.length ++ [Ins.mk 8 0 0 (ruleK i r)]
theorem rule_code (l : List Ins) (i : Nat) (r : RuleD) (hc : ∀ c ∈ r.conds, 1 ≤ c.op) :
    (∀ j, j < l.length → (ruleL l i r)[j]? = l[j]?) ∧ CodeAt (ruleL l i r) (ruleL l i r).length l.length (ruleB r i) ∧ (ruleL l i r).length = l.length + (ruleB r i).length := by
  have hs : Opened l.length (l ++ [Ins.mk 1 0 0 0, Ins.mk 4 1 0 r.nr, jmpI], [((l.length + 2 : Nat) : Int)]) := by
    refine ⟨fun a ha => ?_, fun j x hj hx => ?_⟩
    · simp at ha; subst ha; simp; omega
    · simp only at hx
      rw [List.getElem?_append_right hj] at hx
      obtain ⟨d, rfl⟩ : ∃ d, j = l.length + d := ⟨j - l.length, by omega⟩
      rw [Nat.add_sub_cancel_left] at hx
      have hd : d < 3 := by
        obtain ⟨h1, _⟩ := List.getElem?_eq_some_iff.1 hx
        simpa using h1
      have : d = 0 ∨ d = 1 ∨ d = 2 := by omega
      rcases this with rfl | rfl | rfl <;> simp [jmpI] at hx <;> subst hx <;> simp <;> omega
  obtain ⟨ho, he⟩ := condsL_opened l.length _ hs (by simp) r.conds hc r.conds.length
  have hS : condsL (l ++ [Ins.mk 1 0 0 0, Ins.mk 4 1 0 r.nr, jmpI], [((l.length + 2 : Nat) : Int)]) r.conds r.conds.length = ruleS l r := rfl
  rw [hS] at ho he
  simp only at he
  have hL : (ruleS l r).1 ++ [Ins.mk 8 0 0 (ruleK i r)] = l ++ ruleB r i := by rw [he, ruleB]; simp
  have hlen : (ruleL l i r).length = l.length + (ruleB r i).length := by rw [ruleL, hereN_length, hL]; simp
  have hg := fun j => hereN_get (l ++ ruleB r i) (ruleS l r).2 j (ruleS l r).2.length (Nat.le_refl _) (fun a ha => by have := ho.1 a ha; omega)
  rw [List.take_length] at hg
  have hR : ruleL l i r = hereN (l ++ ruleB r i) (ruleS l r).2 (ruleS l r).2.length := by rw [ruleL, hL]
  refine ⟨fun j hj => ?_, fun d x hx => ?_, hlen⟩
  · rw [hR, (hg j).2 (fun k => by have := ho.1 _ k; omega), List.getElem?_append_left hj]
  · have hx' : (l ++ ruleB r i)[l.length + d]? = some x := by rw [List.getElem?_append_right (by omega)]; simpa using hx
    have hiff : ((l.length + d : Nat) : Int) ∈ (ruleS l r).2 ↔ x.op = 3 := by
      by_cases hd : l.length + d < (ruleS l r).1.length
      · refine ho.2 _ x (by omega) ?_
        rw [← hL, List.getElem?_append_left hd] at hx'
        exact hx'
      · rw [← hL, List.getElem?_append_right (by omega)] at hx'
        obtain ⟨h1, h2⟩ := List.getElem?_eq_some_iff.1 hx'
        have : l.length + d - (ruleS l r).1.length = 0 := by simpa using h1
        simp only [this, List.getElem_cons_zero] at h2
        subst h2
        constructor
        · intro h; have := ho.1 _ h; omega
        · intro h; exact absurd h (by show (8 : Int) ≠ 3; decide)
    by_cases h3 : x.op = 3
    · refine ⟨setK (((l ++ ruleB r i).length : Int) - (l.length + d : Nat) - 1) x, ?_, ?_⟩
      · rw [hR, (hg _).1 (hiff.2 h3), hx']; rfl
      · rw [if_pos h3]
        obtain ⟨h1, _⟩ := List.getElem?_eq_some_iff.1 hx
        refine ⟨h3, rfl, rfl, ?_, ?_⟩
        · simp only [setK, List.length_append]
          omega
        · rw [hlen]
          simp only [setK, List.length_append]
          omega
    · refine ⟨x, ?_, by rw [if_neg h3]⟩
      rw [hR, (hg _).2 (fun k => h3 (hiff.1 k)), hx']
end Go.Proofs.Ytmgngapkgcofnab
