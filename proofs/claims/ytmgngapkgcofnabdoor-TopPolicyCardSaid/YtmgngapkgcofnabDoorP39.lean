/- A policy's text, piece by piece: plain laws. -/
import Derived.Test.YtmgngapkgcofnabDoorP38
namespace Go.Proofs.YtmgngapkgcofnabDoor
open Go.RowKit

def condsT : Nat → List CondD → List UInt8
  | _, [] => []
  | k, x :: r => (if k = 0 then [32, 105, 102, 32] else [32, 97, 110, 100, 32]) ++ ctL x ++ condsT (k + 1) r
def ruleT (r : RuleD) : List UInt8 := joinW 32 (actW r.kind r.errno) ++ [32] ++ nameW r.nr.toNat ++ condsT 0 r.conds ++ [10]
def rulesT : List RuleD → List UInt8
  | [] => []
  | r :: rs => ruleT r ++ rulesT rs
def elseT (p : PolD) : List UInt8 := [101, 108, 115, 101, 32] ++ joinW 32 (actW p.kind p.errno) ++ [10]
theorem actW_ne (k e : Int) : actW k e ≠ [] := by unfold actW; split; simp; split <;> simp
theorem condW_ne (x : CondD) : condW x ≠ [] := by unfold condW; simp
theorem join_conds : ∀ (cs : List CondD) (k : Nat) (ws : List (List UInt8)), ws ≠ [] → joinW 32 (ws ++ condsW k cs) = joinW 32 ws ++ condsT k cs
  | [], k, ws, _ => by simp [condsW, condsT]
  | x :: r, k, ws, h => by
    rw [condsW, joinW_append 32 ws _ h (by simp)]
    have ih := join_conds r (k + 1) (condW x) (condW_ne x)
    have h2 : condW x ++ condsW (k + 1) r ≠ [] := by simp [condW_ne]
    obtain ⟨y, t, hy⟩ := List.exists_cons_of_ne_nil h2
    rw [hy] at ih ⊢
    rw [joinW, ih, condsT]
    by_cases hk : k = 0
    · rw [if_pos hk, if_pos hk]; simp [wIf, ctL]
    · rw [if_neg hk, if_neg hk]; simp [wAnd, ctL]
theorem line_text (r : RuleD) : lineR r ++ [10] = ruleT r := by
  unfold lineR ruleW ruleT
  rw [show actW r.kind r.errno ++ nameW r.nr.toNat :: condsW 0 r.conds = (actW r.kind r.errno ++ [nameW r.nr.toNat]) ++ condsW 0 r.conds from by simp, join_conds _ _ _ (by simp), joinW_append 32 _ _ (actW_ne _ _) (by simp)]
  simp [joinW]
theorem lines_text : ∀ (rs : List RuleD), joinW 10 (rs.map lineR ++ [[]]) = rulesT rs
  | [] => rfl
  | r :: rs => by
    have ih := lines_text rs
    rw [List.map_cons, List.cons_append]
    have h2 : rs.map lineR ++ [[]] ≠ [] := by simp
    obtain ⟨y, t, hy⟩ := List.exists_cons_of_ne_nil h2
    rw [hy] at ih ⊢
    rw [joinW, ih, rulesT, ← line_text]
    simp
theorem polT_text (p : PolD) : polT p = elseT p ++ rulesT p.rules := by
  unfold polT linesP
  have h2 : p.rules.map lineR ++ [[]] ≠ [] := by simp
  have ih := lines_text p.rules
  obtain ⟨y, t, hy⟩ := List.exists_cons_of_ne_nil h2
  rw [hy] at ih ⊢
  rw [joinW, ih]
  unfold lineE elseT
  have h3 := actW_ne p.kind p.errno
  obtain ⟨y2, t2, hy2⟩ := List.exists_cons_of_ne_nil h3
  rw [hy2, joinW]
  simp [wElse]
theorem rulesT_snoc : ∀ (a : List RuleD) (r : RuleD), rulesT (a ++ [r]) = rulesT a ++ ruleT r
  | [], r => by simp [rulesT]
  | x :: a, r => by rw [List.cons_append, rulesT, rulesT_snoc a r, rulesT]; simp
theorem condsT_snoc : ∀ (a : List CondD) (k : Nat) (x : CondD), condsT k (a ++ [x]) = condsT k a ++ ((if k + a.length = 0 then [32, 105, 102, 32] else [32, 97, 110, 100, 32]) ++ ctL x)
  | [], k, x => by simp [condsT]
  | y :: a, k, x => by
    rw [List.cons_append, condsT, condsT_snoc a (k + 1) x, condsT, if_neg (by omega : ¬ k + 1 + a.length = 0), if_neg (by simp : ¬ k + (y :: a).length = 0)]
    simp
theorem take_next {α : Type} {l : List α} {k : Nat} {x : α} (h : l[k]? = some x) : l.take (k + 1) = l.take k ++ [x] := by
  rw [List.take_add_one, h]; rfl

/-! How long they are. -/
theorem joinW_len (c : UInt8) (B : Nat) : ∀ ws : List (List UInt8), (∀ w ∈ ws, w.length ≤ B) → (joinW c ws).length ≤ ws.length * (B + 1)
  | [], _ => by simp [joinW]
  | [a], h => by have := h a (by simp); simp [joinW]; omega
  | a :: b :: r, h => by
    have ih := joinW_len c B (b :: r) (fun w hw => h w (by simp [List.mem_cons.1 hw]))
    have := h a (by simp)
    rw [joinW]
    simp only [List.length_append, List.length_cons] at ih ⊢
    rw [Nat.add_mul (r.length + 1) 1 (B + 1)]
    omega
structure CondSm (x : CondD) : Prop where
  rd : CondRd x
  gl : x.op = 8 → x.glob.size ≤ 24
theorem condSm_of {n : Nat} {x : CondD} (hok : x.ok) (h : condF n x = 0) : CondSm x := ⟨condRd_of hok h, fun h8 => by
  unfold condF at h
  split at h
  · omega
  · split at h
    · omega
    · unfold globF at h
      split at h
      · omega
      · rename_i h2; unfold bytesOf at h2; simp at h2; exact h2⟩
theorem ctL_len {x : CondD} (h : CondSm x) : (ctL x).length ≤ 1005 := by
  obtain ⟨⟨ha, ho, hv, hm, _, _, _, _, hn⟩, hg⟩ := h
  have hw : ∀ w ∈ condW x, w.length ≤ 200 := by
    intro w hw
    unfold condW at hw
    rcases List.mem_cons.1 hw with rfl | hw
    · have := dec_len20 x.arg.toNat (by omega); omega
    · split at hw
      · simp only [List.mem_cons, List.not_mem_nil, or_false] at hw
        rcases hw with rfl | rfl | rfl | rfl
        · decide
        · have := dec_len20 x.m.toNat (by omega); omega
        · decide
        · have := dec_len20 x.v.toNat (by omega); omega
      · split at hw
        · simp only [List.mem_cons, List.not_mem_nil, or_false] at hw
          rcases hw with rfl | rfl
          · decide
          · have := hg (by assumption)
            unfold quoteW
            simp
            omega
        · split at hw
          · simp only [List.mem_cons, List.not_mem_nil, or_false] at hw
            rcases hw with rfl | rfl
            · decide
            · obtain ⟨h1, h2⟩ := hn (by assumption)
              exact textN_len h1 h2
          · simp only [List.mem_cons, List.not_mem_nil, or_false] at hw
            rcases hw with rfl | rfl
            · unfold signW; split <;> decide
            · have := dec_len20 x.v.toNat (by omega); omega
  have hc : (condW x).length ≤ 5 := by
    unfold condW
    split
    · simp
    · split
      · simp
      · split <;> simp
  have h1 := joinW_len 32 200 (condW x) hw
  have h2 : (condW x).length * (200 + 1) ≤ 5 * (200 + 1) := Nat.mul_le_mul_right _ hc
  unfold ctL
  omega
theorem condsT_len : ∀ (cs : List CondD) (k : Nat), (∀ x ∈ cs, CondSm x) → (condsT k cs).length ≤ 1010 * cs.length
  | [], _, _ => by simp [condsT]
  | x :: r, k, h => by
    have ih := condsT_len r (k + 1) (fun y hy => h y (by simp [hy]))
    have h1 := ctL_len (h x (by simp))
    rw [condsT]
    simp only [List.length_append, List.length_cons]
    have : (if k = 0 then [32, 105, 102, 32] else [32, 97, 110, 100, 32] : List UInt8).length ≤ 5 := by split <;> decide
    omega
theorem act_len {k e : Int} (h : actF k e = 0) : (joinW 32 (actW k e)).length ≤ 25 := by
  rcases actF_cases h with ⟨rfl, rfl⟩ | ⟨rfl, rfl⟩ | ⟨rfl, h1, h2⟩
  · rw [joinA1]; decide
  · rw [joinA3]; decide
  · obtain ⟨n, rfl⟩ : ∃ n : Nat, e = n := ⟨e.toNat, by omega⟩
    rw [joinA2]
    have := dec_len20 n (by omega)
    simp only [List.length_append, List.length_cons, List.length_nil]
    omega
theorem name_len (n : Nat) (h : n ≤ 8) : (nameW n).length ≤ 10 := by
  have h1 : n = 0 ∨ n = 1 ∨ n = 2 ∨ n = 3 ∨ n = 4 ∨ n = 5 ∨ n = 6 ∨ n = 7 ∨ n = 8 := by omega
  rcases h1 with rfl | rfl | rfl | rfl | rfl | rfl | rfl | rfl | rfl <;> decide
structure RuleSm (r : RuleD) : Prop where
  act : actF r.kind r.errno = 0
  nr : 0 ≤ r.nr ∧ r.nr ≤ 8
  few : r.conds.length ≤ 4
  con : ∀ x ∈ r.conds, CondSm x ∧ x.ok ∧ condF r.nr.toNat x = 0
theorem ruleSm_of {r : RuleD} (hok : ∀ c ∈ r.conds, c.ok) (h : ruleF r = 0) : RuleSm r := by
  obtain ⟨h1, h2, h3, _, h5⟩ := ruleF_zero h
  exact ⟨h5, ⟨h1, h2⟩, h3, fun x hx => ⟨condSm_of (hok x hx) (ruleF_conds h x hx), hok x hx, ruleF_conds h x hx⟩⟩
theorem ruleT_len {r : RuleD} (h : RuleSm r) : (ruleT r).length ≤ 4100 := by
  have h1 := act_len h.act
  have h2 := name_len r.nr.toNat (by have := h.nr; omega)
  have h3 := condsT_len r.conds 0 (fun x hx => (h.con x hx).1)
  have h4 := h.few
  unfold ruleT
  simp only [List.length_append, List.length_cons, List.length_nil]
  omega
theorem rulesT_len : ∀ (rs : List RuleD), (∀ r ∈ rs, RuleSm r) → (rulesT rs).length ≤ 4100 * rs.length
  | [], _ => by simp [rulesT]
  | r :: rs, h => by
    have ih := rulesT_len rs (fun x hx => h x (by simp [hx]))
    have := ruleT_len (h r (by simp))
    rw [rulesT]
    simp only [List.length_append, List.length_cons]
    omega
theorem elseT_len {p : PolD} (h : actF p.kind p.errno = 0) : (elseT p).length ≤ 31 := by
  have := act_len h
  unfold elseT
  simp only [List.length_append, List.length_cons, List.length_nil]
  omega
end Go.Proofs.YtmgngapkgcofnabDoor
