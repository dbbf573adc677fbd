/- A line's words as a rule, in plain words: what the reference's reading of a line says. -/
import Derived.Test.YtmgngapkgcofnaaGreatDoorM24
import Derived.Test.YtmgngapkgcofnaaGreatDoorM27
import Derived.Test.YtmgngapkgcofnaaGreatDoorM31
namespace Go.Proofs.YtmgngapkgcofnaaGreatDoor
open Go.RowKit Go.PlainAid

/-- No rule's words. -/
def RuleNo (ws : List (List UInt8)) : Prop := ∀ r0 : RuleD, RuleRd r0 → ruleW r0 ≠ ws
/-- The word ahead of a condition, behind k of them. -/
def wordK (k : Nat) : List UInt8 := if k = 0 then wIf else wAnd
/-- How far a line has been read. -/
structure RuleI (ws : List (List UInt8)) (k x : Int) (S : ByteArray) (cs : List CondD) (rest : List ByteArray) : Prop where
  act : ActRd k x
  eq : ws = actW k x ++ bL S :: (condsW 0 cs ++ rest.map bL)
  con : ∀ c ∈ cs, CondRd c
theorem condsW_snoc : ∀ (cs : List CondD) (k : Nat) (c : CondD), condsW k (cs ++ [c]) = condsW k cs ++ wordK (k + cs.length) :: condW c
  | [], k, c => by simp [condsW, wordK]
  | d :: cs, k, c => by
    have := condsW_snoc cs (k + 1) c
    simp only [List.cons_append, condsW, this, List.length_cons, List.append_assoc]
    rw [show k + 1 + cs.length = k + (cs.length + 1) from by omega]
theorem condsW_cons (k : Nat) (d : CondD) (ds : List CondD) : condsW k (d :: ds) = wordK k :: (condW d ++ condsW (k + 1) ds) := by
  simp [condsW, wordK]
theorem RuleI.rest {ws : List (List UInt8)} {k x : Int} {S : ByteArray} {cs : List CondD} {rest : List ByteArray} (h : RuleI ws k x S cs rest) {r0 : RuleD} (hr : RuleRd r0) (he : ruleW r0 = ws) :
    bL S = nameW r0.nr.toNat ∧ ∃ ds, (∀ d ∈ ds, CondRd d) ∧ rest.map bL = condsW cs.length ds := by
  have h1 := h.eq
  rw [← he] at h1
  unfold ruleW at h1
  obtain ⟨_, _, h2⟩ := actW_inj hr.act h.act h1
  simp only [List.cons.injEq] at h2
  obtain ⟨ds, h3, h4⟩ := condsW_split cs 0 r0.conds (rest.map bL) h.con hr.con h2.2.symm
  exact ⟨h2.1.symm, ds, fun d hd => hr.con d (by rw [h3]; simp [hd]), by simpa using h4⟩
theorem ruleNo_act {ws : List (List UInt8)} {k x : Int} (h : ActOf ws k x 0) : RuleNo ws := fun r0 hr he => by
  rcases h with ⟨_, _, _, h⟩ | ⟨_, h, _⟩
  · exact h r0.kind r0.errno _ hr.act he.symm
  · have := actW_ne k x
    rw [List.ne_nil_iff_length_pos] at this
    omega
theorem ruleNo_short {ws : List (List UInt8)} {k x : Int} (h : ActRd k x) (he : ws = actW k x) : RuleNo ws := fun r0 hr h1 => by
  rw [he] at h1
  unfold ruleW at h1
  have h2 : actW r0.kind r0.errno ++ nameW r0.nr.toNat :: condsW 0 r0.conds = actW k x ++ [] := by simpa using h1
  have := (actW_inj hr.act h h2).2.2
  cases this
theorem RuleI.no_word {ws : List (List UInt8)} {k x : Int} {S : ByteArray} {cs : List CondD} {y : ByteArray} {t : List ByteArray} (h : RuleI ws k x S cs (y :: t)) (hy : bL y ≠ wordK cs.length) : RuleNo ws := fun r0 hr he => by
  obtain ⟨_, ds, h1, h2⟩ := h.rest hr he
  cases ds with
  | nil => simp [condsW] at h2
  | cons d ds =>
    rw [condsW_cons, List.map_cons, List.cons.injEq] at h2
    exact hy h2.1
theorem RuleI.no_cond {ws : List (List UInt8)} {k x : Int} {S : ByteArray} {cs : List CondD} {y : ByteArray} {t : List ByteArray} (h : RuleI ws k x S cs (y :: t)) (hy : ∀ c0 r, CondRd c0 → t.map bL ≠ condW c0 ++ r) : RuleNo ws := fun r0 hr he => by
  obtain ⟨_, ds, h1, h2⟩ := h.rest hr he
  cases ds with
  | nil => simp [condsW] at h2
  | cons d ds =>
    rw [condsW_cons, List.map_cons, List.cons.injEq] at h2
    exact hy d _ (h1 d (by simp)) h2.2
theorem RuleI.next {ws : List (List UInt8)} {k x : Int} {S : ByteArray} {cs : List CondD} {y : ByteArray} {t : List ByteArray} (h : RuleI ws k x S cs (y :: t)) (hy : bL y = wordK cs.length) {c : CondD} (hc : CondRd c) {n : Nat} (hn : n = (condW c).length) {r : List (List UInt8)} (ht : t.map bL = condW c ++ r) :
    RuleI ws k x S (cs ++ [c]) (t.drop n) := by
  refine ⟨h.act, ?_, fun d hd => ?_⟩
  · have h1 := h.eq
    rw [List.map_cons, hy] at h1
    have h2 : (t.drop n).map bL = r := by
      rw [List.map_drop, ht, hn, List.drop_left]
    rw [h1, condsW_snoc, h2, ht]
    simp
  · rcases List.mem_append.1 hd with hd | hd
    · exact h.con d hd
    · obtain rfl := List.mem_singleton.1 hd; exact hc
theorem nameIx_le (S : ByteArray) : ∀ k : Nat, -1 ≤ nameIx S k ∧ nameIx S k < (k : Int) ∨ nameIx S k = -1
  | 0 => .inr rfl
  | k + 1 => by
    rw [nameIx]
    split
    · left; omega
    · rcases nameIx_le S k with h | h
      · left; omega
      · right; exact h
theorem nameIx_name (S : ByteArray) : ∀ k : Nat, 0 ≤ nameIx S k → formName (nameIx S k).toNat = S
  | 0 => fun h => by simp [nameIx] at h
  | k + 1 => fun h => by
    rw [nameIx] at h ⊢
    split at h
    · rename_i h1
      rw [if_pos h1]; simpa using h1
    · rename_i h1
      rw [if_neg h1]; exact nameIx_name S k h
theorem RuleI.fin {ws : List (List UInt8)} {k x : Int} {S : ByteArray} {cs : List CondD} (h : RuleI ws k x S cs []) :
    (0 ≤ nameIx S 9 → RuleRd ⟨nameIx S 9, cs, k, x⟩ ∧ ruleW ⟨nameIx S 9, cs, k, x⟩ = ws) ∧ (¬ 0 ≤ nameIx S 9 → RuleNo ws) := by
  refine ⟨fun h0 => ⟨⟨h.act, ⟨h0, ?_⟩, h.con⟩, ?_⟩, fun h0 r0 hr he => ?_⟩
  · have := nameIx_le S 9
    simp only at this ⊢
    omega
  · rw [h.eq]
    unfold ruleW nameW
    simp only [List.map_nil, List.append_nil]
    rw [nameIx_name S 9 h0]
    rfl
  · obtain ⟨h1, _⟩ := h.rest hr he
    have hn := hr.nr
    have := nameIx_of (by omega) h1
    omega
end Go.Proofs.YtmgngapkgcofnaaGreatDoor
