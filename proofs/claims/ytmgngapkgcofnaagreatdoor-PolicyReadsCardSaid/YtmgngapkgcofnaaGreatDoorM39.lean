/- A policy's text in the reference's reading, in plain words. -/
import Derived.Test.YtmgngapkgcofnaaGreatDoorM32
import Derived.Test.YtmgngapkgcofnaaGreatDoorM38
namespace Go.Proofs.YtmgngapkgcofnaaGreatDoor
open Go.RowKit Go.PlainAid

/-- No policy's lines. -/
def PolNo (L : List (List UInt8)) : Prop := ∀ p0 : PolD, PolOk p0 → polF p0 = 0 → linesP p0 ≠ L
theorem readP_none {s : ByteArray} {L : List (List UInt8)} (hL : L = cutW 10 (bL s)) (h : PolNo L) : ReadP (bL s) none := fun p0 hok hf e => by
  refine h p0 hok hf ?_
  rw [hL, e, cut_pol hf]
theorem linesP_len (p : PolD) : (linesP p).length = p.rules.length + 2 := by simp [linesP]
theorem polNo_short {L : List (List UInt8)} (h : L.length < 2) : PolNo L := fun p0 _ _ e => by
  have := linesP_len p0
  rw [e] at this; omega
theorem polNo_long {L : List (List UInt8)} (h : 14 < L.length) : PolNo L := fun p0 _ hf e => by
  have := linesP_len p0
  obtain ⟨h12, _⟩ := polF_zero hf
  rw [e] at this; omega
theorem polNo_last {L : List (List UInt8)} {n : Nat} {x : List UInt8} (hn : L.length = n + 1) (hx : L[n]? = some x) (h : x ≠ []) : PolNo L := fun p0 _ _ e => by
  have h1 := linesP_len p0
  rw [e] at h1
  obtain rfl : n = p0.rules.length + 1 := by omega
  rw [← e, linesP, List.getElem?_cons_succ, List.getElem?_append_right (by simp)] at hx
  simp at hx
  exact h hx
/-- The first line's words. -/
theorem polNo_head {L : List (List UInt8)} {x y : List UInt8} {T : List (List UInt8)} (hx : L[0]? = some x) (hw : cutW 32 x = y :: T) {k e : Int} {n : Nat} (ha : ActOf T k e n) (h : y ≠ wElse ∨ n = 0 ∨ n + 1 ≠ (y :: T).length) : PolNo L := fun p0 _ hf e0 => by
  obtain ⟨_, hact, _⟩ := polF_zero hf
  rw [← e0, linesP, List.getElem?_cons_zero, Option.some.injEq] at hx
  subst hx
  rw [cut_else, List.cons.injEq] at hw
  obtain ⟨rfl, rfl⟩ := hw
  rcases h with h | h
  · exact h rfl
  · rcases ha with ⟨_, _, _, h4⟩ | ⟨h1, h2, r, h3⟩
    · exact h4 _ _ [] (actRd_of hact) (by simp)
    · have h5 : actW p0.kind p0.errno ++ [] = actW k e ++ r := by simpa using h3
      obtain ⟨rfl, rfl, rfl⟩ := actW_inj (actRd_of hact) h1 h5
      have h6 := actW_ne p0.kind p0.errno
      rw [List.ne_nil_iff_length_pos] at h6
      simp only [List.length_cons] at h
      omega
theorem polNo_rule {L : List (List UInt8)} {n i : Nat} {x : List UInt8} (hn : L.length = n + 1) (hi : 1 ≤ i) (hin : i < n) (hx : L[i]? = some x) (h : RuleNo (cutW 32 x)) : PolNo L := fun p0 hok hf e => by
  have h1 := linesP_len p0
  rw [e] at h1
  obtain ⟨_, _, hr⟩ := polF_zero hf
  obtain ⟨j, rfl⟩ : ∃ j, i = j + 1 := ⟨i - 1, by omega⟩
  rw [← e, linesP, List.getElem?_cons_succ, List.getElem?_append_left (by simp; omega), List.getElem?_map] at hx
  obtain ⟨r, h2, rfl⟩ := Option.map_eq_some_iff.1 hx
  have hm := List.mem_of_getElem? h2
  exact h r (ruleRd_of (hok r hm) (hr r hm)) (by rw [cut_line (hr r hm)])
/-- How far the lines have been read. -/
structure PolI (L : List (List UInt8)) (k e : Int) (rs : List RuleD) : Prop where
  act : ActRd k e
  hd : ∃ x, L[0]? = some x ∧ cutW 32 x = wElse :: actW k e
  rul : ∀ i r, rs[i]? = some r → ∃ x, L[i + 1]? = some x ∧ cutW 32 x = ruleW r
  con : ∀ r ∈ rs, RuleRd r
  oks : ∀ r ∈ rs, ∀ c ∈ r.conds, c.ok
theorem PolI.snoc {L : List (List UInt8)} {k e : Int} {rs : List RuleD} (h : PolI L k e rs) {r : RuleD} {x : List UInt8} (hx : L[rs.length + 1]? = some x) (hw : ruleW r = cutW 32 x) (hr : RuleRd r) (ho : ∀ c ∈ r.conds, c.ok) : PolI L k e (rs ++ [r]) := by
  refine ⟨h.act, h.hd, fun i r' hi => ?_, fun r' hr' => ?_, fun r' hr' => ?_⟩
  · rcases Nat.lt_or_ge i rs.length with h1 | h1
    · rw [List.getElem?_append_left h1] at hi
      exact h.rul i r' hi
    · rw [List.getElem?_append_right h1] at hi
      have h2 : i - rs.length = 0 := by
        rcases Nat.eq_zero_or_pos (i - rs.length) with h2 | h2
        · exact h2
        · rw [List.getElem?_eq_none (by simp; omega)] at hi; cases hi
      rw [h2] at hi
      simp only [List.getElem?_cons_zero, Option.some.injEq] at hi
      subst hi
      exact ⟨x, by rw [show i = rs.length from by omega]; exact hx, hw.symm⟩
  · rcases List.mem_append.1 hr' with h1 | h1
    · exact h.con r' h1
    · obtain rfl := List.mem_singleton.1 h1; exact hr
  · rcases List.mem_append.1 hr' with h1 | h1
    · exact h.oks r' h1
    · obtain rfl := List.mem_singleton.1 h1; exact ho
theorem PolI.lines {L : List (List UInt8)} {k e : Int} {rs : List RuleD} (h : PolI L k e rs) (hl : L.length = rs.length + 2) (hz : L[rs.length + 1]? = some []) : linesP ⟨rs, k, e⟩ = L := by
  apply List.ext_getElem?
  intro i
  rcases Nat.eq_zero_or_pos i with h0 | h0
  · subst h0
    obtain ⟨x, h1, h2⟩ := h.hd
    rw [h1, linesP, List.getElem?_cons_zero, lineE, ← h2, join_cut]
  · obtain ⟨j, rfl⟩ : ∃ j, i = j + 1 := ⟨i - 1, by omega⟩
    rw [linesP, List.getElem?_cons_succ]
    rcases Nat.lt_or_ge j rs.length with h1 | h1
    · obtain ⟨x, h2, h3⟩ := h.rul j rs[j] (by simp)
      rw [List.getElem?_append_left (by simp; exact h1), List.getElem?_map, h2, List.getElem?_eq_getElem h1]
      simp only [Option.map_some, lineR]
      rw [← h3, join_cut]
    · rw [List.getElem?_append_right (by simp; exact h1)]
      simp only [List.length_map]
      rcases Nat.eq_or_lt_of_le h1 with h2 | h2
      · rw [← h2, Nat.sub_self]
        exact hz.symm
      · rw [List.getElem?_eq_none (by simp; omega), List.getElem?_eq_none (by omega)]
theorem PolI.yes {s : ByteArray} {L : List (List UInt8)} (hL : L = cutW 10 (bL s)) {k e : Int} {rs : List RuleD} (h : PolI L k e rs) (hl : L.length = rs.length + 2) (hz : L[rs.length + 1]? = some []) (hf : polF ⟨rs, k, e⟩ = 0) : ReadP (bL s) (some ⟨rs, k, e⟩) :=
  ⟨h.oks, hf, by rw [polT, h.lines hl hz, hL, join_cut]⟩
theorem PolI.no {L : List (List UInt8)} {k e : Int} {rs : List RuleD} (h : PolI L k e rs) (hl : L.length = rs.length + 2) (hf : polF ⟨rs, k, e⟩ ≠ 0) : PolNo L := fun p0 hok hf0 e0 => by
  have h1 := linesP_len p0
  rw [e0] at h1
  have hlen : p0.rules.length = rs.length := by omega
  obtain ⟨_, hact, hr⟩ := polF_zero hf0
  obtain ⟨x, h2, h3⟩ := h.hd
  rw [← e0, linesP, List.getElem?_cons_zero, Option.some.injEq] at h2
  subst h2
  rw [cut_else, List.cons.injEq] at h3
  have h4 : actW p0.kind p0.errno ++ [] = actW k e ++ [] := by simpa using h3.2
  obtain ⟨rfl, rfl, _⟩ := actW_inj (actRd_of hact) h.act h4
  have h5 : p0.rules = rs := by
    apply List.ext_getElem hlen
    intro i hi1 hi2
    obtain ⟨x, h6, h7⟩ := h.rul i rs[i] (by simp)
    rw [← e0, linesP, List.getElem?_cons_succ, List.getElem?_append_left (by simp; exact hi1), List.getElem?_map, List.getElem?_eq_getElem hi1] at h6
    simp only [Option.map_some, Option.some.injEq] at h6
    subst h6
    have hm : p0.rules[i] ∈ p0.rules := List.getElem_mem hi1
    rw [cut_line (hr _ hm)] at h7
    exact ruleW_inj (ruleRd_of (hok _ hm) (hr _ hm)) (h.con _ (List.getElem_mem hi2)) h7
  subst h5
  exact hf hf0
end Go.Proofs.YtmgngapkgcofnaaGreatDoor
