/- A policy's program at work: what it returns. -/
import Derived.Test.YtmgngapkgcofnabCompSim2
namespace Go.Proofs.Ytmgngapkgcofnab
open Go.RowKit

def passC (c : CallD) (x : CondD) : Bool := decide (7 < x.op) || numB x.op x.v x.m (argN c x.arg.toNat)
def fitB (c : CallD) (r : RuleD) : Bool := decide (c.nr = r.nr) && r.conds.all (passC c)
/-- The rule, of those from here on, that decides. -/
def pickL (c : CallD) (els : Int) : Nat → List RuleD → Int
  | _, [] => els
  | i, r :: rs => if fitB c r then ruleK i r else pickL c els (i + 1) rs
def resF (p : PolD) (c : CallD) : Int := if c.arch = 3221225534 then pickL c (retK p.kind p.errno) 0 p.rules else 0
def goodC (x : CondD) : Prop := 0 ≤ x.arg ∧ x.arg ≤ 3 ∧ 1 ≤ x.op ∧ 0 ≤ x.v ∧ x.v < 18446744073709551616 ∧ 0 ≤ x.m ∧ x.m < 18446744073709551616
section
variable {L : List Ins} {c : CallD} {t q : Nat} {r : Int}
theorem conds_sim (hc : c.ok) (cs : List CondD) (hg : ∀ x ∈ cs, goodC x) (hn : cs.all (passC c) = false → ∀ a', Ends L c t a' r) : ∀ k, k ≤ cs.length → CodeAt L t q (condsB cs k) →
    ((cs.take k).all (passC c) = true → ∀ a', Ends L c (q + (condsB cs k).length) a' r) → ∀ a, Ends L c q a r := by
  intro k
  induction k with
  | zero => intro _ _ hy a; exact hy (by simp) a
  | succ k ih =>
    intro hk h hy a
    have hlt : k < cs.length := by omega
    have hk1 : cs[k]? = some cs[k] := List.getElem?_eq_getElem hlt
    have hmem : cs[k] ∈ cs := List.getElem_mem hlt
    have hsplit : (cs.take (k + 1)).all (passC c) = ((cs.take k).all (passC c) && passC c cs[k]) := by
      rw [List.take_add_one, hk1, List.all_append]; simp only [Option.toList_some, List.all_cons, List.all_nil, Bool.and_true]
    rw [condsB, hk1] at h hy
    simp only at h hy
    rw [hsplit] at hy
    by_cases h7 : 7 < cs[k].op
    · rw [if_pos h7] at h hy
      refine ih (by omega) h (fun ht a' => hy ?_ a') a
      rw [ht]; simp [passC, h7]
    · rw [if_neg h7] at h hy
      refine ih (by omega) h.left (fun ht a' => ?_) a
      obtain ⟨g1, g2, g3, g4, g5, g6, g7⟩ := hg _ hmem
      have e1 : ((cs[k].v.toNat : Nat) : Int) = cs[k].v := by omega
      have e2 : ((cs[k].m.toNat : Nat) : Int) = cs[k].m := by omega
      refine cond_sim cs[k].op cs[k].arg.toNat cs[k].v.toNat cs[k].m.toNat hc (by omega) (by omega) ⟨g3, by omega⟩ h.right (fun hb => ?_) (fun hb => ?_)
      · rw [e1, e2] at hb
        rw [List.length_append, ← Nat.add_assoc] at hy
        exact hy (by rw [ht]; simp [passC, hb])
      · rw [e1, e2] at hb
        refine hn ?_
        rw [Bool.eq_false_iff]
        intro hall
        have := List.all_eq_true.1 hall _ hmem
        rw [passC, hb] at this
        simp [h7] at this
theorem rule_sim (hc : c.ok) (i : Nat) (u : RuleD) (hg : ∀ x ∈ u.conds, goodC x) (h : CodeAt L t q (ruleB u i)) (hy : fitB c u = true → r = ruleK i u) (hn : fitB c u = false → ∀ a', Ends L c t a' r) (a : Int) : Ends L c q a r := by
  have hb : CodeAt L t q ([Ins.mk 1 0 0 0, Ins.mk 4 1 0 u.nr, jmpI] ++ condsB u.conds u.conds.length ++ [Ins.mk 8 0 0 (ruleK i u)]) := h
  refine c_ld hb.left.left 0 rfl rfl (v := c.nr) (by cases c; rfl) (c_eq hb.left.left 1 rfl (fun e => ?_) (fun e => hb.left.left.away 2 _ rfl rfl (hn (by simp [fitB, e]) _)))
  refine conds_sim (t := t) (q := q + 3) hc u.conds hg (fun hf => hn (by simp only [fitB, hf, Bool.and_false])) u.conds.length (Nat.le_refl _) hb.left.right (fun ht a' => ?_) _
  rw [List.take_length] at ht
  rw [hy (by simp [fitB, e, ht])]
  have hr := hb.right
  simp only [List.length_append, List.length_cons, List.length_nil] at hr
  have := hr.same 0 _ rfl (by show (8 : Int) ≠ 3; decide)
  rw [show q + (0 + 1 + 1 + 1 + (condsB u.conds u.conds.length).length) + 0 = q + 3 + (condsB u.conds u.conds.length).length by omega] at this
  exact ends_ret this rfl
end
theorem CodeAt.agree {L L' : List Ins} {t q : Nat} {blk : List Ins} (h : CodeAt L t q blk) (ha : ∀ j, j < L.length → L'[j]? = L[j]?) : CodeAt L' t q blk := fun i x hx => by
  obtain ⟨y, h1, h2⟩ := h i x hx
  obtain ⟨h3, _⟩ := List.getElem?_eq_some_iff.1 h1
  exact ⟨y, by rw [ha _ h3]; exact h1, h2⟩
theorem rules_step (rs : List RuleD) (hg : ∀ r ∈ rs, ∀ x ∈ r.conds, goodC x) (k : Nat) (u : RuleD) (hu : rs[k]? = some u) :
    (∀ j, j < (rulesL rs k).length → (rulesL rs (k + 1))[j]? = (rulesL rs k)[j]?) ∧ CodeAt (rulesL rs (k + 1)) (rulesL rs (k + 1)).length (rulesL rs k).length (ruleB u k) ∧ (rulesL rs (k + 1)).length = (rulesL rs k).length + (ruleB u k).length := by
  rw [rulesL, hu]
  exact rule_code (rulesL rs k) k u (fun x hx => (hg u (List.mem_of_getElem? hu) x hx).2.2.1)
theorem rules_agree (rs : List RuleD) (hg : ∀ r ∈ rs, ∀ x ∈ r.conds, goodC x) (k : Nat) : ∀ d, k + d ≤ rs.length → (rulesL rs k).length ≤ (rulesL rs (k + d)).length ∧ ∀ j, j < (rulesL rs k).length → (rulesL rs (k + d))[j]? = (rulesL rs k)[j]? := by
  intro d
  induction d with
  | zero => intro _; exact ⟨Nat.le_refl _, fun _ _ => rfl⟩
  | succ d ih =>
    intro hd
    obtain ⟨i1, i2⟩ := ih (by omega)
    obtain ⟨s1, _, s3⟩ := rules_step rs hg (k + d) _ (List.getElem?_eq_getElem (show k + d < rs.length by omega))
    exact ⟨by rw [← Nat.add_assoc]; omega, fun j hj => by rw [← Nat.add_assoc, s1 j (by omega), i2 j hj]⟩
theorem progL_at (p : PolD) (hg : ∀ r ∈ p.rules, ∀ x ∈ r.conds, goodC x) (k : Nat) (hk : k ≤ p.rules.length) (j : Nat) (hj : j < (rulesL p.rules k).length) : (progL p)[j]? = (rulesL p.rules k)[j]? := by
  obtain ⟨d, hd⟩ : ∃ d, p.rules.length = k + d := ⟨p.rules.length - k, by omega⟩
  obtain ⟨h1, h2⟩ := rules_agree p.rules hg k d (by omega)
  unfold progL
  rw [hd, List.getElem?_append_left (by omega), h2 j hj]
theorem prog_rest (p : PolD) (c : CallD) (hc : c.ok) (hg : ∀ r ∈ p.rules, ∀ x ∈ r.conds, goodC x) : ∀ d k, k + d = p.rules.length → ∀ a, Ends (progL p) c (rulesL p.rules k).length a (pickL c (retK p.kind p.errno) k (p.rules.drop k)) := by
  intro d
  induction d with
  | zero =>
    intro k hk a
    rw [show k = p.rules.length by omega, List.drop_length]
    refine ends_ret (x := Ins.mk 8 0 0 (retK p.kind p.errno)) ?_ rfl
    unfold progL
    rw [List.getElem?_append_right (Nat.le_refl _)]
    simp
  | succ d ih =>
    intro k hk a
    have hlt : k < p.rules.length := by omega
    have hu := List.getElem?_eq_getElem hlt
    obtain ⟨_, s2, _⟩ := rules_step p.rules hg k _ hu
    have s2 := s2.agree (progL_at p hg (k + 1) (by omega))
    rw [List.drop_eq_getElem_cons hlt, pickL]
    refine rule_sim hc k p.rules[k] (hg _ (List.getElem_mem hlt)) s2 (fun hf => by rw [if_pos hf]) (fun hf => ?_) a
    rw [if_neg (by rw [hf]; decide)]
    exact ih (k + 1) (by omega)
/-- What a policy's program returns of a call. -/
theorem prog_sim (p : PolD) (c : CallD) (hc : c.ok) (hg : ∀ r ∈ p.rules, ∀ x ∈ r.conds, goodC x) (a : Int) : Ends (progL p) c 0 a (resF p c) := by
  have h0 : CodeAt (progL p) 0 0 (rulesL p.rules 0) := fun i x hx => by
    obtain ⟨h1, h2⟩ := List.getElem?_eq_some_iff.1 hx
    refine ⟨x, by rw [Nat.zero_add, progL_at p hg 0 (Nat.zero_le _) i h1, hx], ?_⟩
    have hi : i < 3 := h1
    have : i = 0 ∨ i = 1 ∨ i = 2 := by omega
    rw [if_neg]
    rcases this with rfl | rfl | rfl <;> (rw [← h2]; first | (show (1 : Int) ≠ 3; decide) | (show (4 : Int) ≠ 3; decide) | (show (8 : Int) ≠ 3; decide))
  have h0 : CodeAt (progL p) 0 0 [Ins.mk 1 0 0 4, Ins.mk 4 1 0 3221225534, Ins.mk 8 0 0 0] := h0
  refine c_ld (q := 0) h0 0 rfl rfl (v := c.arch) (by cases c; rfl) (c_eq h0 1 rfl (fun e => ?_) (fun e => ?_))
  · rw [resF, if_pos e]
    exact prog_rest p c hc hg p.rules.length 0 (by omega) _
  · rw [resF, if_neg e]
    exact ends_ret (h0.same 2 _ rfl (by show (8 : Int) ≠ 3; decide)) rfl
theorem prog_run (p : PolD) (c : CallD) (hc : c.ok) (hg : ∀ r ∈ p.rules, ∀ x ∈ r.conds, goodC x) : (runF (progL p) c (progL p).length 0 0 0).1 = resF p c :=
  (prog_sim p c hc hg 0 _ 0 (by omega)).2
end Go.Proofs.Ytmgngapkgcofnab
