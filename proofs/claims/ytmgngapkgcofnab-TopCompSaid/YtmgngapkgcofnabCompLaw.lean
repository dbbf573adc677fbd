/- What Compile makes, in plain words; what a policy that is right has. -/
import Derived.Test.YtmgngapkgcofnabMakerCond
namespace Go.Proofs.Ytmgngapkgcofnab
open Go.RowKit

/-- Conditions one behind the other: the program so far and what is open. -/
def condsL (s : List Ins × List Int) (cs : List CondD) : Nat → List Ins × List Int
  | 0 => s
  | k + 1 => match cs[k]? with
    | some c => if 7 < c.op then condsL s cs k else ((condsL s cs k).1 ++ condL c.op c.arg.toNat c.v.toNat c.m.toNat, (condsL s cs k).2 ++ (condO c.op).map fun i => (((condsL s cs k).1.length + i : Nat) : Int))
    | none => condsL s cs k
def deepN (cs : List CondD) : Nat → Bool
  | 0 => false
  | k + 1 => deepN cs k || match cs[k]? with
    | some c => decide (7 < c.op)
    | none => false
def ruleS (l : List Ins) (r : RuleD) : List Ins × List Int := condsL (l ++ [Ins.mk 1 0 0 0, Ins.mk 4 1 0 r.nr, jmpI], [((l.length + 2 : Nat) : Int)]) r.conds r.conds.length
def ruleK (i : Nat) (r : RuleD) : Int := if deepN r.conds r.conds.length then ((2146435072 + i : Nat) : Int) else retK r.kind r.errno
def ruleL (l : List Ins) (i : Nat) (r : RuleD) : List Ins := hereN ((ruleS l r).1 ++ [Ins.mk 8 0 0 (ruleK i r)]) (ruleS l r).2 (ruleS l r).2.length
def rulesL (rs : List RuleD) : Nat → List Ins
  | 0 => [Ins.mk 1 0 0 4, Ins.mk 4 1 0 3221225534, Ins.mk 8 0 0 0]
  | k + 1 => match rs[k]? with
    | some r => ruleL (rulesL rs k) k r
    | none => rulesL rs k
def progL (p : PolD) : List Ins := rulesL p.rules p.rules.length ++ [Ins.mk 8 0 0 (retK p.kind p.errno)]

theorem condL_len (op : Int) (a v m : Nat) : (condL op a v m).length ≤ 8 := by
  unfold condL
  split
  · simp
  · split
    · simp
    · split
      · simp
      · split
        · simp
        · split <;> simp
theorem condO_len (op : Int) : (condO op).length ≤ 2 := by
  unfold condO
  split
  · simp
  · split
    · simp
    · split
      · simp
      · split
        · simp
        · split <;> simp
theorem condO_lt (op : Int) (a v m : Nat) : ∀ i ∈ condO op, i < (condL op a v m).length := by
  intro i
  unfold condO condL
  split
  · simp; omega
  · split
    · simp; omega
    · split
      · simp; omega
      · split
        · simp; omega
        · split
          · simp; omega
          · simp
/-- The lengths and the open places of what conditions add. -/
theorem condsL_ok (s : List Ins × List Int) (cs : List CondD) (hs : ∀ a ∈ s.2, 0 ≤ a ∧ a < s.1.length) : ∀ k, (condsL s cs k).1.length ≤ s.1.length + 8 * k ∧ (condsL s cs k).2.length ≤ s.2.length + 2 * k ∧ s.1.length ≤ (condsL s cs k).1.length ∧ ∀ a ∈ (condsL s cs k).2, 0 ≤ a ∧ a < (condsL s cs k).1.length := by
  intro k
  induction k with
  | zero => exact ⟨by simp [condsL], by simp [condsL], by simp [condsL], hs⟩
  | succ k ih =>
    obtain ⟨h1, h2, h3, h4⟩ := ih
    rw [condsL]
    split
    · rename_i c _
      split
      · exact ⟨by omega, by omega, h3, h4⟩
      · have hl := condL_len c.op c.arg.toNat c.v.toNat c.m.toNat
        have ho := condO_len c.op
        refine ⟨by simp; omega, by simp; omega, by simp; omega, fun a ha => ?_⟩
        simp only [List.mem_append, List.mem_map] at ha
        rcases ha with ha | ⟨i, hi, rfl⟩
        · have := h4 a ha
          simp; omega
        · have := condO_lt c.op c.arg.toNat c.v.toNat c.m.toNat i hi
          simp; omega
    · exact ⟨by omega, by omega, h3, h4⟩
theorem ruleS_ok (l : List Ins) (r : RuleD) : (ruleS l r).1.length ≤ l.length + 3 + 8 * r.conds.length ∧ (ruleS l r).2.length ≤ 1 + 2 * r.conds.length ∧ ∀ a ∈ (ruleS l r).2, 0 ≤ a ∧ a < (ruleS l r).1.length := by
  have := condsL_ok (l ++ [Ins.mk 1 0 0 0, Ins.mk 4 1 0 r.nr, jmpI], [((l.length + 2 : Nat) : Int)]) r.conds (by intro a ha; simp at ha; subst ha; simp; omega) r.conds.length
  simp only [List.length_append, List.length_cons, List.length_nil] at this
  obtain ⟨t1, t2, _, t4⟩ := this
  unfold ruleS
  exact ⟨by omega, by omega, t4⟩
theorem ruleL_len (l : List Ins) (i : Nat) (r : RuleD) : (ruleL l i r).length = (ruleS l r).1.length + 1 := by
  unfold ruleL; rw [hereN_length]; simp

theorem condF_zero {nr : Nat} {c : CondD} (h : condF nr c = 0) : 0 ≤ c.arg ∧ c.arg ≤ 3 ∧ 1 ≤ c.op ∧ c.op ≤ 9 := by
  unfold condF at h
  split at h
  · omega
  · rename_i hb
    simp only [not_or] at hb
    omega
theorem firstNZ_zero {α : Type} {f : α → Int} : ∀ {l : List α}, firstNZ f l = 0 → ∀ x ∈ l, f x = 0
  | [], _, x, hx => by simp at hx
  | y :: r, h, x, hx => by
    rw [firstNZ] at h
    split at h
    · rename_i hy; exact absurd h hy
    · rename_i hy
      have hy0 : f y = 0 := by simpa using hy
      rcases List.mem_cons.1 hx with rfl | hx
      · exact hy0
      · exact firstNZ_zero h x hx
theorem actF_zero {k e : Int} (h : actF k e = 0) : k = 2 → 0 ≤ e ∧ e < 65536 := by
  intro hk
  subst hk
  unfold actF at h
  rw [if_neg (by omega), if_pos rfl] at h
  split at h <;> omega
theorem ruleF_zero {r : RuleD} (h : ruleF r = 0) : 0 ≤ r.nr ∧ r.nr ≤ 8 ∧ r.conds.length ≤ 4 ∧ (∀ c ∈ r.conds, 0 ≤ c.arg ∧ c.arg ≤ 3 ∧ 1 ≤ c.op ∧ c.op ≤ 9) ∧ actF r.kind r.errno = 0 := by
  unfold ruleF at h
  split at h
  · omega
  · rename_i h1
    split at h
    · omega
    · rename_i h2
      split at h
      · rename_i h3; exact absurd h h3
      · rename_i h3
        have h3' : firstNZ (condF r.nr.toNat) r.conds = 0 := by simpa using h3
        exact ⟨by omega, by omega, by omega, fun c hc => condF_zero (firstNZ_zero h3' c hc), h⟩
theorem polF_zero {p : PolD} (h : polF p = 0) : p.rules.length ≤ 12 ∧ actF p.kind p.errno = 0 ∧ ∀ r ∈ p.rules, ruleF r = 0 := by
  unfold polF at h
  split at h
  · omega
  · split at h
    · rename_i h2; exact absurd h h2
    · rename_i h1 h2
      exact ⟨by omega, by simpa using h2, firstNZ_zero h⟩
theorem rulesL_len (rs : List RuleD) (h : ∀ r ∈ rs, r.conds.length ≤ 4) : ∀ k, (rulesL rs k).length ≤ 3 + 40 * k := by
  intro k
  induction k with
  | zero => simp [rulesL]
  | succ k ih =>
    rw [rulesL]
    split
    · rename_i r hr
      have h1 := (ruleS_ok (rulesL rs k) r).1
      have h2 := h r (List.mem_of_getElem? hr)
      rw [ruleL_len]; omega
    · omega
theorem progL_pos (p : PolD) : 0 < (progL p).length := by unfold progL; simp

end Go.Proofs.Ytmgngapkgcofnab
