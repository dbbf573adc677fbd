/- What stands behind a part is a tail of the pattern. -/
import Derived.Test.YtmgngapkgcofnaaGlobLaw
namespace Go.Proofs.Ytmgngapkgcofnaa

theorem classL_suffix (not : Bool) : ∀ (m : Nat) (n : Bool) (l : List Int) (f : Nat → Bool) (g : Nat → Bool) (r : List Int), l.length ≤ m → classL not n l f = some (g, r) → ∃ a, l = a ++ r := by
  intro m
  induction m with
  | zero => intro n l f g r hl h; rcases l with _ | ⟨x, l⟩ <;> simp [classL] at h hl
  | succ m ih =>
    intro n l f g r hl h
    rcases l with _ | ⟨x, _ | ⟨y, l⟩⟩
    · simp [classL] at h
    · simp only [classL] at h
      split at h
      · split at h <;> simp at h
        exact ⟨[x], by simp [← h.2]⟩
      · simp at h
    · rcases l with _ | ⟨z, l⟩
      · simp only [classL] at h
        (repeat' split at h) <;> simp at h <;> (obtain ⟨_, rfl⟩ := h; first | exact ⟨[x], rfl⟩ | exact ⟨[x, y], rfl⟩)
      · simp only [classL] at h
        split at h
        · split at h <;> simp at h
          exact ⟨[x], by simp [← h.2]⟩
        · split at h
          · simp at h
          · split at h
            · split at h
              · simp at h
              · obtain ⟨a, ha⟩ := ih _ _ _ _ _ (by simp at hl ⊢; omega) h
                exact ⟨x :: y :: z :: a, by rw [ha]; rfl⟩
            · obtain ⟨a, ha⟩ := ih _ _ _ _ _ (by simp at hl ⊢; omega) h
              exact ⟨x :: a, by rw [ha]; rfl⟩
theorem classF_suffix {l : List Int} {p : Part} {r : List Int} (h : classF l = some (p, r)) : ∃ a, l = a ++ r := by
  unfold classF at h
  simp only [Option.map_eq_some_iff] at h
  obtain ⟨⟨g, r'⟩, h1, h2⟩ := h
  simp only [Prod.mk.injEq] at h2
  obtain ⟨_, rfl⟩ := h2
  split at h1
  · obtain ⟨a, ha⟩ := classL_suffix _ _ _ _ _ _ _ (Nat.le_refl _) h1
    exact ⟨33 :: a, by rw [ha]; rfl⟩
  · exact classL_suffix _ _ _ _ _ _ _ (Nat.le_refl _) h1
theorem partL_suffix {l : List Int} {p : Part} {r : List Int} (h : partL l = some (p, r)) : ∃ a, l = a ++ r := by
  rcases l with _ | ⟨c, l⟩
  · simp [partL] at h
  · simp only [partL] at h
    split at h
    · split at h <;> simp at h <;> obtain ⟨_, rfl⟩ := h
      · exact ⟨[c, 42], rfl⟩
      · exact ⟨[c], rfl⟩
    · split at h
      · simp at h; obtain ⟨_, rfl⟩ := h; exact ⟨[c], rfl⟩
      · split at h
        · obtain ⟨a, ha⟩ := classF_suffix h
          exact ⟨c :: a, by rw [ha]; rfl⟩
        · split at h
          · split at h
            · split at h <;> simp at h
              obtain ⟨_, rfl⟩ := h
              exact ⟨[c, _], rfl⟩
            · simp at h
          · split at h <;> simp at h
            obtain ⟨_, rfl⟩ := h; exact ⟨[c], rfl⟩

end Go.Proofs.Ytmgngapkgcofnaa
