/- TopPolicy, in plain words: where registers tell, values change nothing; where they don't, no rule ahead of the one that is told decides. -/
import Derived.Test.YtmgngapkgcofnabDoorP41
namespace Go.Proofs.YtmgngapkgcofnabDoor
open Go.RowKit

theorem deepN_no {cs : List CondD} : ∀ {n : Nat}, deepN cs n = false → ∀ k, k < n → ∀ x, cs[k]? = some x → ¬ 7 < x.op
  | 0, _, k, hk, _, _ => by omega
  | n + 1, h, k, hk, x, hx => by
    rw [deepN, Bool.or_eq_false_iff] at h
    by_cases e : k = n
    · subst e
      have h2 := h.2
      rw [hx] at h2
      exact of_decide_eq_false h2
    · exact deepN_no h.1 k (by omega) x hx
theorem seen_flat {cs : List CondD} {v : ValsD} (h : deepN cs cs.length = false) : seenB v cs = true := by
  unfold seenB
  rw [List.all_eq_true]
  intro x hx
  obtain ⟨k, hk⟩ := List.getElem?_of_mem hx
  have hlt : k < cs.length := (List.getElem?_eq_some_iff.1 hk).1
  have := deepN_no h k hlt x hk
  unfold seenC
  rw [if_neg (by omega), if_neg (by omega)]
/-- The whole law, from rule i on. -/
theorem pick_law (c : CallD) (v : ValsD) (k e : Int) (hk : k ≠ 4) : ∀ (rs : List RuleD) (i : Nat), (∀ r ∈ rs, r.kind ≠ 4) →
    ((pickJ c k e i rs).1 ≠ 4 → pickD c v k e rs = ((pickJ c k e i rs).1, (pickJ c k e i rs).2.1) ∧ (pickJ c k e i rs).2.2 = 0) ∧
    ((pickJ c k e i rs).1 = 4 → ∃ j : Nat, (pickJ c k e i rs).2.2 = ((i + j : Nat) : Int) ∧ j < rs.length ∧ pickD c v k e (rs.drop j) = pickD c v k e rs) ∧ (pickD c v k e rs).1 ≠ 4
  | [], i, _ => by
    refine ⟨fun _ => ⟨rfl, rfl⟩, fun h => absurd h hk, hk⟩
  | r :: rs, i, hr => by
    obtain ⟨h1, h2, h3⟩ := pick_law c v k e hk rs (i + 1) (fun x hx => hr x (by simp [hx]))
    have hr0 := hr r (by simp)
    unfold pickJ
    by_cases hf : fitB c r = true
    · rw [if_pos hf]
      by_cases hd : deepN r.conds r.conds.length = true
      · rw [if_pos hd]
        refine ⟨fun h => absurd rfl h, fun _ => ⟨0, by simp, by simp, rfl⟩, ?_⟩
        unfold pickD
        split
        · exact hr0
        · exact h3
      · have hs := seen_flat (v := v) (Bool.eq_false_iff.2 hd)
        rw [if_neg hd]
        unfold pickD
        rw [hf, hs]
        exact ⟨fun _ => ⟨rfl, rfl⟩, fun h => absurd h hr0, hr0⟩
    · rw [if_neg hf]
      have hf' := Bool.eq_false_iff.2 hf
      have e1 : pickD c v k e (r :: rs) = pickD c v k e rs := by
        rw [pickD, hf']; rfl
      rw [e1]
      refine ⟨h1, fun h => ?_, h3⟩
      obtain ⟨j, k1, k2, k3⟩ := h2 h
      refine ⟨j + 1, by rw [k1]; congr 1; omega, by simp; omega, ?_⟩
      rw [List.drop_succ_cons, k3]
theorem pol_kinds {p : PolD} (hf : polF p = 0) : p.kind ≠ 4 ∧ ∀ r ∈ p.rules, r.kind ≠ 4 := by
  obtain ⟨_, h2, h3⟩ := polF_zero hf
  refine ⟨?_, fun r hr => ?_⟩
  · rcases actF_cases h2 with ⟨h, _⟩ | ⟨h, _⟩ | ⟨h, _⟩ <;> omega
  · rcases actF_cases (ruleF_zero (h3 r hr)).2.2.2.2 with ⟨h, _⟩ | ⟨h, _⟩ | ⟨h, _⟩ <;> omega
/-- Where registers tell. -/
theorem judge_tells {p : PolD} (hf : polF p = 0) (c : CallD) (v : ValsD) (h : (judgeF p c).1 ≠ 4) : decideF p c v = ((judgeF p c).1, (judgeF p c).2.1) ∧ (judgeF p c).2.2 = 0 := by
  obtain ⟨hk, hr⟩ := pol_kinds hf
  unfold judgeF decideF at *
  split
  · rename_i ha
    rw [if_pos ha] at h
    exact (pick_law c v p.kind p.errno hk p.rules 0 hr).1 h
  · exact ⟨rfl, rfl⟩
/-- Where they don't. -/
theorem judge_deep {p : PolD} (hf : polF p = 0) (c : CallD) (v : ValsD) (h : (judgeF p c).1 = 4) :
    ∃ j : Nat, (judgeF p c).2.2 = (j : Int) ∧ j < p.rules.length ∧ (decideF p c v).1 ≠ 4 ∧ decideF ⟨p.rules.drop j, p.kind, p.errno⟩ c v = decideF p c v := by
  obtain ⟨hk, hr⟩ := pol_kinds hf
  unfold judgeF decideF at *
  by_cases ha : c.arch = 3221225534
  · rw [if_pos ha] at h
    simp only [if_pos ha]
    obtain ⟨_, h2, h3⟩ := pick_law c v p.kind p.errno hk p.rules 0 hr
    obtain ⟨j, k1, k2, k3⟩ := h2 h
    exact ⟨j, by rw [k1]; simp, k2, h3, k3⟩
  · rw [if_neg ha] at h
    simp at h
/-- A right policy without its first rules is right. -/
theorem polF_drop {p : PolD} (hf : polF p = 0) (j : Nat) : polF ⟨p.rules.drop j, p.kind, p.errno⟩ = 0 := by
  obtain ⟨h1, h2, h3⟩ := polF_zero hf
  unfold polF
  simp only
  rw [if_neg (by simp; omega), if_neg (by rw [h2]; simp)]
  exact firstNZ_all ruleF _ (fun i x hx => h3 x (List.mem_of_mem_drop (List.mem_of_getElem? hx)))
end Go.Proofs.YtmgngapkgcofnabDoor
