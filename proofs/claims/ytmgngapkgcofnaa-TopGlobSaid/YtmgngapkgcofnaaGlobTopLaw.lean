/- Plain laws of patterns for TopGlob: patterns one behind the other; slashes. -/
import Derived.Test.YtmgngapkgcofnaaGlobLaw2
namespace Go.Proofs.Ytmgngapkgcofnaa

theorem classL_append (not : Bool) (q : List Int) : ∀ (m : Nat) (n : Bool) (l : List Int) (f g : Nat → Bool) (r : List Int), l.length ≤ m → classL not n l f = some (g, r) → classL not n (l ++ q) f = some (g, r ++ q) := by
  intro m
  induction m with
  | zero => intro n l f g r hl h; rcases l with _ | ⟨x, l⟩ <;> simp [classL] at h hl
  | succ m ih =>
    intro n l f g r hl h
    rcases l with _ | ⟨x, l⟩
    · simp [classL] at h
    · by_cases hx : x = 93
      · subst hx
        cases n with
        | false => rw [classL_bad] at h; simp at h
        | true =>
          rw [classL_end] at h
          simp only [Option.some.injEq, Prod.mk.injEq] at h
          rw [List.cons_append, classL_end, h.1, h.2]
      · cases hm : memberF x with
        | false => rw [classL_not _ _ _ _ hx hm] at h; simp at h
        | true =>
          rcases l with _ | ⟨y, l⟩
          · rw [classL_last _ _ _ hx] at h; simp at h
          · by_cases hy : y = 45
            · subst hy
              rcases l with _ | ⟨z, l⟩
              · rw [classL_two _ _ _ hx hm, classL_last _ _ _ (by decide)] at h; simp at h
              · by_cases hz : memberF z = false ∨ z < x
                · rw [classL_worse _ _ _ _ hx hm hz] at h; simp at h
                · have hz1 : memberF z = true := by
                    cases e : memberF z with
                    | true => rfl
                    | false => exact (hz (.inl e)).elim
                  have hz2 : x ≤ z := by have := fun h => hz (.inr h); omega
                  rw [classL_span _ _ _ _ hx hm hz1 hz2] at h
                  have := ih _ _ _ _ _ (by simp at hl ⊢; omega) h
                  simp only [List.cons_append]
                  rw [classL_span _ _ _ _ hx hm hz1 hz2]
                  exact this
            · rw [classL_go _ _ _ _ hx hm (fun z r e => hy (by simp at e; exact e.1))] at h
              have := ih _ _ _ _ _ (by simp at hl ⊢; omega) h
              rw [List.cons_append, classL_go _ _ _ _ hx hm (fun z r e => hy (by simp at e; exact e.1))]
              exact this
theorem classF_not (l : List Int) : classF (33 :: l) = (classL true false l (fun _ => false)).map fun x => (⟨x.1, false⟩, x.2) := rfl
theorem classF_in {x : Int} (l : List Int) (h : x ≠ 33) : classF (x :: l) = (classL false false (x :: l) (fun _ => false)).map fun x => (⟨x.1, false⟩, x.2) := by
  unfold classF
  split
  · rename_i e; simp at e; exact (h e.1).elim
  · rfl
theorem classF_append {l : List Int} {p : Part} {r : List Int} (q : List Int) (h : classF l = some (p, r)) : classF (l ++ q) = some (p, r ++ q) := by
  rcases l with _ | ⟨x, l⟩
  · simp [classF, classL] at h
  · by_cases hx : x = 33
    · subst hx
      rw [classF_not] at h
      rw [List.cons_append, classF_not]
      simp only [Option.map_eq_some_iff] at h ⊢
      obtain ⟨⟨g, r'⟩, h1, h2⟩ := h
      simp only [Prod.mk.injEq] at h2
      obtain ⟨rfl, rfl⟩ := h2
      exact ⟨(g, r' ++ q), classL_append _ q _ _ _ _ _ _ (Nat.le_refl _) h1, rfl⟩
    · rw [classF_in _ hx] at h
      rw [List.cons_append, classF_in _ hx]
      simp only [Option.map_eq_some_iff] at h ⊢
      obtain ⟨⟨g, r'⟩, h1, h2⟩ := h
      simp only [Prod.mk.injEq] at h2
      obtain ⟨rfl, rfl⟩ := h2
      exact ⟨(g, r' ++ q), classL_append _ q _ _ _ _ _ _ (Nat.le_refl _) h1, rfl⟩
theorem partL_append {l : List Int} {p : Part} {r : List Int} (q : List Int) (h : partL l = some (p, r)) (hs : l = [42] → q.head? ≠ some 42) : partL (l ++ q) = some (p, r ++ q) := by
  rcases l with _ | ⟨c, l⟩
  · simp [partL] at h
  · simp only [List.cons_append, partL] at h ⊢
    by_cases h1 : c = 42
    · rw [if_pos h1] at h ⊢
      rcases l with _ | ⟨y, l⟩
      · simp only [Option.some.injEq, Prod.mk.injEq] at h
        have := hs (by rw [h1])
        rcases q with _ | ⟨z, q⟩
        · simp [h.1, ← h.2]
        · simp only [List.head?_cons] at this
          simp only [List.nil_append]
          split
          · rename_i e; simp at e; exact (this (by rw [e.1])).elim
          · simp [h.1, ← h.2]
      · by_cases hy : y = 42
        · subst hy
          simp only [Option.some.injEq, Prod.mk.injEq] at h
          simp [h.1, ← h.2]
        · simp only [List.cons_append]
          split at h
          · rename_i e; simp at e; exact (hy e.1).elim
          · split
            · rename_i e; simp at e; exact (hy e.1).elim
            · simp only [Option.some.injEq, Prod.mk.injEq] at h ⊢
              exact ⟨h.1, by rw [← h.2]; rfl⟩
    · rw [if_neg h1] at h ⊢
      by_cases h2 : c = 63
      · rw [if_pos h2] at h ⊢
        simp only [Option.some.injEq, Prod.mk.injEq] at h ⊢
        exact ⟨h.1, by rw [← h.2]⟩
      · rw [if_neg h2] at h ⊢
        by_cases h3 : c = 91
        · rw [if_pos h3] at h ⊢
          exact classF_append q h
        · rw [if_neg h3] at h ⊢
          by_cases h4 : c = 92
          · rw [if_pos h4] at h ⊢
            rcases l with _ | ⟨y, l⟩
            · simp at h
            · simp only [List.cons_append] at h ⊢
              split at h
              · rename_i hy
                simp only [Option.some.injEq, Prod.mk.injEq] at h
                simp [hy, h.1, ← h.2]
              · simp at h
          · rw [if_neg h4] at h ⊢
            split at h
            · rename_i hy
              simp only [Option.some.injEq, Prod.mk.injEq] at h
              simp [hy, h.1, ← h.2]
            · simp at h
/-- Two patterns, one behind the other: of parts of both; not, if '*' meets '*'. -/
theorem partsP_append (q : List Int) {B : List (List Int × Part)} (hq : partsP q = some B) : ∀ (m : Nat) (l : List Int) (A : List (List Int × Part)), l.length ≤ m → partsP l = some A → ¬ (l.getLast? = some 42 ∧ q.head? = some 42) → partsP (l ++ q) = some (A ++ B) := by
  intro m
  induction m with
  | zero => intro l A hl h hs; rcases l with _ | ⟨x, l⟩
            · simp [partsP_nil] at h; subst h; simpa using hq
            · simp at hl
  | succ m ih =>
    intro l A hl h hs
    by_cases hn : l = []
    · subst hn; simp [partsP_nil] at h; subst h; simpa using hq
    · rw [partsP_cons hn] at h
      rw [partsP_cons (by simp [hn])]
      cases hp : partL l with
      | none => simp [hp] at h
      | some x =>
        obtain ⟨P, r⟩ := x
        simp only [hp, Option.bind_some, Option.map_eq_some_iff] at h
        obtain ⟨C, h1, rfl⟩ := h
        have hlen := partL_len hp
        obtain ⟨a, ha⟩ := partL_suffix hp
        rw [partL_append q hp (fun e hq2 => hs ⟨by rw [e]; rfl, hq2⟩)]
        simp only [Option.bind_some]
        rw [ih r C (by omega) h1 (fun ⟨e1, e2⟩ => hs ⟨by rw [ha, List.getLast?_append, e1]; rfl, e2⟩)]
        simp only [Option.map_some, List.cons_append, Option.some.injEq, List.cons.injEq, Prod.mk.injEq, and_true]
        have : (l ++ q).length - (r ++ q).length = l.length - r.length := by simp; omega
        rw [this, List.take_append_of_le_length (by omega)]
theorem partsF_append {l q : List Int} {A B : List Part} (hl : partsF l = some A) (hq : partsF q = some B) (hs : ¬ (l.getLast? = some 42 ∧ q.head? = some 42)) : partsF (l ++ q) = some (A ++ B) := by
  rw [partsF_eq] at hl hq ⊢
  simp only [Option.map_eq_some_iff] at hl hq
  obtain ⟨A', h1, rfl⟩ := hl
  obtain ⟨B', h2, rfl⟩ := hq
  rw [partsP_append q h2 _ l A' (Nat.le_refl _) h1 hs]
  simp

theorem reach_congr (p : Part) {sb tb : Nat → Nat} {A B : Nat → Bool} : ∀ i, (∀ j, j < i → sb j = tb j) → (∀ j, j ≤ i → A j = B j) → reach p sb A i = reach p tb B i := by
  intro i
  induction i with
  | zero => intro _ h; simp only [reach]; rw [h 0 (Nat.le_refl _)]
  | succ i ih =>
    intro h1 h2
    simp only [reach]
    rw [h1 i (by omega), h2 i (by omega), h2 (i + 1) (Nat.le_refl _), ih (fun j hj => h1 j (by omega)) (fun j hj => h2 j (by omega))]
theorem Mk_front (A B : List Part) {sb cb : Nat → Nat} {n : Nat} (hb : ∀ j, j < n → cb j = sb j) : ∀ k i, k ≤ A.length → i ≤ n → Mk (A ++ B) cb k i = Mk A sb k i := by
  intro k
  induction k with
  | zero => intro i _ _; rfl
  | succ k ih =>
    intro i hk hi
    rw [Mk_some (by simp; omega), Mk_some (by omega)]
    rw [List.getElem_append_left (by omega)]
    exact reach_congr _ i (fun j hj => hb j (by omega)) (fun j hj => ih j (by omega) (by omega))
theorem Mk_back (A B : List Part) {tb cb : Nat → Nat} {n : Nat} (hb : ∀ j, cb (n + j) = tb j) (h0 : Mk (A ++ B) cb A.length n = true) : ∀ k j, k ≤ B.length → Mk B tb k j = true → Mk (A ++ B) cb (A.length + k) (n + j) = true := by
  intro k
  induction k with
  | zero => intro j _ h; simp [Mk] at h; subst h; exact h0
  | succ k ih =>
    intro j hk h
    rw [Mk_some (by omega), reach_any] at h
    rw [← Nat.add_assoc, Mk_some (by simp; omega), reach_any]
    rw [List.getElem_append_right (by omega)]
    simp only [Nat.add_sub_cancel_left]
    obtain ⟨i0, h1, h2⟩ := h
    refine ⟨n + i0, ih i0 (by omega) h1, ?_⟩
    split
    · rename_i hm
      rw [if_pos hm] at h2
      refine ⟨by omega, fun x hx hx' => ?_⟩
      obtain ⟨y, rfl⟩ : ∃ y, x = n + y := ⟨x - n, by omega⟩
      rw [hb]
      exact h2.2 y (by omega) (by omega)
    · rename_i hm
      rw [if_neg hm] at h2
      exact ⟨by omega, by rw [hb]; exact h2.2⟩
theorem Mk_both (A B : List Part) {sb tb cb : Nat → Nat} {n m : Nat} (h1 : ∀ j, j < n → cb j = sb j) (h2 : ∀ j, cb (n + j) = tb j) (hA : Mk A sb A.length n = true) (hB : Mk B tb B.length m = true) : Mk (A ++ B) cb (A ++ B).length (n + m) = true := by
  rw [List.length_append]
  exact Mk_back A B h2 (by rw [Mk_front A B h1 _ _ (Nat.le_refl _) (Nat.le_refl _)]; exact hA) _ _ (Nat.le_refl _) hB

/-- How many bytes are '/'. -/
def cnt (l : List Int) : Nat := (l.filter (· == 47)).length
theorem cnt_append (a b : List Int) : cnt (a ++ b) = cnt a + cnt b := by simp [cnt]
theorem cnt_cons (x : Int) (l : List Int) : cnt (x :: l) = (if x = 47 then 1 else 0) + cnt l := by
  unfold cnt
  rw [List.filter_cons]
  by_cases h : x = 47
  · simp [h]; omega
  · simp [h]
/-- How many of the first bytes are '/'. -/
def cntN (sb : Nat → Nat) : Nat → Nat
  | 0 => 0
  | i + 1 => cntN sb i + if sb i = 47 then 1 else 0
/-- A part passes just the '/' that it has. -/
def Slash (a : List Int) (P : Part) : Prop := (∀ c, P.has c = true → (if c = 47 then 1 else 0) = cnt a) ∧ (P.many = true → cnt a = 0)
theorem cntN_same (sb : Nat → Nat) {i j : Nat} (h : i ≤ j) (hh : ∀ x, i ≤ x → x < j → sb x ≠ 47) : cntN sb j = cntN sb i := by
  induction j with
  | zero => obtain rfl : i = 0 := by omega
            rfl
  | succ j ih =>
    by_cases e : i = j + 1
    · subst e; rfl
    · rw [cntN, if_neg (hh j (by omega) (by omega)), Nat.add_zero]
      exact ih (by omega) (fun x h1 h2 => hh x h1 (by omega))
theorem Mk_slash (ps : List (List Int × Part)) (hs : ∀ x ∈ ps, Slash x.1 x.2) (sb : Nat → Nat) : ∀ k i, k ≤ ps.length → Mk (ps.map (·.2)) sb k i = true → cntN sb i = cnt ((ps.take k).map (·.1)).flatten := by
  intro k
  induction k with
  | zero => intro i _ h; simp [Mk] at h; subst h; rfl
  | succ k ih =>
    intro i hk h
    rw [Mk_some (by simp; omega), reach_any] at h
    obtain ⟨i0, h1, h2⟩ := h
    have h3 := ih i0 (by omega) h1
    have h4 := hs ps[k] (by simp)
    rw [List.getElem_map] at h2
    have h5 : cnt ((ps.take (k + 1)).map (·.1)).flatten = cnt ((ps.take k).map (·.1)).flatten + cnt ps[k].1 := by
      rw [List.take_succ_eq_append_getElem (by omega), List.map_append, List.flatten_append, cnt_append]
      simp
    rw [h5, ← h3]
    split at h2
    · rename_i hm
      rw [h4.2 hm, Nat.add_zero]
      refine cntN_same sb h2.1 (fun x hx hx' => ?_)
      have := h4.1 _ (h2.2 x hx' hx)
      rw [h4.2 hm] at this
      intro e
      rw [if_pos e] at this
      omega
    · obtain ⟨rfl, h6⟩ := h2
      rw [cntN, h4.1 _ h6]

theorem classL_clean (not : Bool) : ∀ (m : Nat) (n : Bool) (l : List Int) (f g : Nat → Bool) (r : List Int), l.length ≤ m → classL not n l f = some (g, r) → ∃ a, l = a ++ r ∧ cnt a = 0 ∧ g 47 = false := by
  intro m
  induction m with
  | zero => intro n l f g r hl h; rcases l with _ | ⟨x, l⟩ <;> simp [classL] at h hl
  | succ m ih =>
    intro n l f g r hl h
    rcases l with _ | ⟨x, l⟩
    · simp [classL] at h
    · by_cases hx : x = 93
      · subst hx
        cases n with
        | false => rw [classL_bad] at h; simp at h
        | true =>
          rw [classL_end] at h
          simp only [Option.some.injEq, Prod.mk.injEq] at h
          exact ⟨[93], by rw [h.2]; rfl, by decide, by rw [← h.1]; simp [closeF]⟩
      · cases hm : memberF x with
        | false => rw [classL_not _ _ _ _ hx hm] at h; simp at h
        | true =>
          have hx47 : x ≠ 47 := by rintro rfl; revert hm; decide
          rcases l with _ | ⟨y, l⟩
          · rw [classL_last _ _ _ hx] at h; simp at h
          · by_cases hy : y = 45
            · subst hy
              rcases l with _ | ⟨z, l⟩
              · rw [classL_two _ _ _ hx hm, classL_last _ _ _ (by decide)] at h; simp at h
              · by_cases hz : memberF z = false ∨ z < x
                · rw [classL_worse _ _ _ _ hx hm hz] at h; simp at h
                · have hz1 : memberF z = true := by
                    cases e : memberF z with
                    | true => rfl
                    | false => exact (hz (.inl e)).elim
                  have hz2 : x ≤ z := by have := fun h => hz (.inr h); omega
                  have hz47 : z ≠ 47 := by rintro rfl; revert hz1; decide
                  rw [classL_span _ _ _ _ hx hm hz1 hz2] at h
                  obtain ⟨a, ha, hc, hg⟩ := ih _ _ _ _ _ (by simp at hl ⊢; omega) h
                  refine ⟨x :: 45 :: z :: a, by rw [ha]; rfl, ?_, hg⟩
                  rw [cnt_cons, cnt_cons, cnt_cons, hc, if_neg hx47, if_neg hz47]; rfl
            · rw [classL_go _ _ _ _ hx hm (fun z r e => hy (by simp at e; exact e.1))] at h
              obtain ⟨a, ha, hc, hg⟩ := ih _ _ _ _ _ (by simp at hl ⊢; omega) h
              exact ⟨x :: a, by rw [ha]; rfl, by rw [cnt_cons, hc, if_neg hx47], hg⟩
theorem classF_clean {l : List Int} {p : Part} {r : List Int} (h : classF l = some (p, r)) : ∃ a, l = a ++ r ∧ cnt a = 0 ∧ p.has 47 = false ∧ p.many = false := by
  unfold classF at h
  simp only [Option.map_eq_some_iff] at h
  obtain ⟨⟨g, r'⟩, h1, h2⟩ := h
  simp only [Prod.mk.injEq] at h2
  obtain ⟨rfl, rfl⟩ := h2
  split at h1
  · obtain ⟨a, ha, hc, hg⟩ := classL_clean _ _ _ _ _ _ _ (Nat.le_refl _) h1
    exact ⟨33 :: a, by rw [ha]; rfl, by rw [cnt_cons, hc]; rfl, hg, rfl⟩
  · obtain ⟨a, ha, hc, hg⟩ := classL_clean _ _ _ _ _ _ _ (Nat.le_refl _) h1
    exact ⟨a, ha, hc, hg, rfl⟩
theorem slash_none {a : List Int} {P : Part} (h : P.has 47 = false) (hc : cnt a = 0) : Slash a P := by
  refine ⟨fun c hP => ?_, fun _ => hc⟩
  rw [hc, if_neg]
  rintro rfl
  rw [h] at hP; simp at hP
theorem partL_slash {l : List Int} {p : Part} {r : List Int} (h : partL l = some (p, r)) (h2 : ¬ ∃ x, l = 42 :: 42 :: x) : ∃ a, l = a ++ r ∧ Slash a p := by
  rcases l with _ | ⟨c, l⟩
  · simp [partL] at h
  · simp only [partL] at h
    split at h
    · rename_i hc
      split at h
      · rename_i r'
        exact (h2 ⟨r', by rw [hc]⟩).elim
      · simp only [Option.some.injEq, Prod.mk.injEq] at h
        obtain ⟨rfl, rfl⟩ := h
        exact ⟨[c], rfl, slash_none rfl (by rw [hc]; decide)⟩
    · split at h
      · rename_i hc
        simp only [Option.some.injEq, Prod.mk.injEq] at h
        obtain ⟨rfl, rfl⟩ := h
        exact ⟨[c], rfl, slash_none rfl (by rw [hc]; decide)⟩
      · split at h
        · rename_i hc
          obtain ⟨a, ha, hcn, hg, hm⟩ := classF_clean h
          refine ⟨c :: a, by rw [ha]; rfl, slash_none hg ?_⟩
          rw [cnt_cons, hcn, hc]; rfl
        · split at h
          · rename_i hc
            split at h
            · rename_i x r'
              split at h
              · rename_i hsp
                simp only [Option.some.injEq, Prod.mk.injEq] at h
                obtain ⟨rfl, rfl⟩ := h
                have hx : x ≠ 47 := by rintro rfl; revert hsp; decide
                refine ⟨[c, x], rfl, slash_none ?_ ?_⟩
                · simp only [oneP, decide_eq_false_iff_not]; omega
                · rw [cnt_cons, cnt_cons, hc, if_neg hx]; rfl
              · simp at h
            · simp at h
          · split at h
            · simp only [Option.some.injEq, Prod.mk.injEq] at h
              obtain ⟨rfl, rfl⟩ := h
              refine ⟨[c], rfl, ?_, fun hm => by simp [oneP] at hm⟩
              intro d hd
              simp only [oneP, decide_eq_true_eq] at hd
              rw [cnt_cons]
              have : (d = 47) ↔ (c = 47) := by omega
              simp only [this]
              rfl
            · simp at h
/-- Are two '*' side by side? -/
def twoStars : List Int → Bool
  | 42 :: 42 :: _ => true
  | _ :: r => twoStars r
  | [] => false
theorem twoStars_tail {a r : List Int} (h : twoStars (a ++ r) = false) : twoStars r = false := by
  induction a with
  | nil => exact h
  | cons x a ih =>
    refine ih ?_
    rw [List.cons_append] at h
    unfold twoStars at h
    split at h
    · simp at h
    · rename_i e; simp at e; rw [← e.2] at h; exact h
    · rename_i e; simp at e
theorem partsP_slash : ∀ (m : Nat) (l : List Int) (A : List (List Int × Part)), l.length ≤ m → partsP l = some A → twoStars l = false → (∀ x ∈ A, Slash x.1 x.2) ∧ (A.map (·.1)).flatten = l := by
  intro m
  induction m with
  | zero => intro l A hl h _; rcases l with _ | ⟨x, l⟩
            · simp [partsP_nil] at h; subst h; simp
            · simp at hl
  | succ m ih =>
    intro l A hl h hs
    by_cases hn : l = []
    · subst hn; simp [partsP_nil] at h; subst h; simp
    · rw [partsP_cons hn] at h
      cases hp : partL l with
      | none => simp [hp] at h
      | some x =>
        obtain ⟨P, r⟩ := x
        simp only [hp, Option.bind_some, Option.map_eq_some_iff] at h
        obtain ⟨C, h1, rfl⟩ := h
        have hlen := partL_len hp
        obtain ⟨a, ha, hsl⟩ := partL_slash hp (by rintro ⟨x, rfl⟩; simp [twoStars] at hs)
        have hta : l.take (l.length - r.length) = a := by
          rw [ha, List.length_append, Nat.add_sub_cancel, List.take_left]
        obtain ⟨h2, h3⟩ := ih r C (by omega) h1 (twoStars_tail (by rw [← ha]; exact hs))
        rw [hta]
        refine ⟨fun y hy => ?_, ?_⟩
        · rcases List.mem_cons.1 hy with rfl | hy
          · exact hsl
          · exact h2 y hy
        · simp only [List.map_cons, List.flatten_cons, h3]
          exact ha.symm
/-- Without '**' a pattern passes no '/' that it has not. -/
theorem match_slash {l : List Int} {A : List Part} (h : partsF l = some A) (hs : twoStars l = false) (sb : Nat → Nat) (n : Nat) (hm : Mk A sb A.length n = true) : cntN sb n = cnt l := by
  rw [partsF_eq] at h
  simp only [Option.map_eq_some_iff] at h
  obtain ⟨A', h1, rfl⟩ := h
  obtain ⟨h2, h3⟩ := partsP_slash _ _ _ (Nat.le_refl _) h1 hs
  have := Mk_slash A' h2 sb A'.length n (Nat.le_refl _) (by simpa using hm)
  rw [this, List.take_length, h3]

end Go.Proofs.Ytmgngapkgcofnaa
