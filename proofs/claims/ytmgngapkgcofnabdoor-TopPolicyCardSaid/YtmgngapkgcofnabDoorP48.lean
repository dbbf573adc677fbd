/- strings.Split at a byte, in plain words. -/
import Derived.Test.YtmgngapkgcofnabDoorP33
import Derived.Test.YtmgngapkgcofnabDoorP26
import Derived.Lib.SplitLaws
import Derived.Lib.IndexBytes
namespace Go.Proofs.YtmgngapkgcofnabDoor
open Go.RowKit

theorem index_at (c : UInt8) : ∀ (a r : List UInt8), (∀ b ∈ a, b ≠ c) → Lib.indexByte (a ++ c :: r) c = a.length
  | [], r, _ => by simp [Lib.indexByte]
  | x :: a, r, h => by
    have ih := index_at c a r (fun b hb => h b (by simp [hb]))
    have hx := h x (by simp)
    rw [List.cons_append, Lib.indexByte, if_neg (by simpa using hx), ih, if_neg (by simp)]
    simp
theorem first_of {c : UInt8} : ∀ {l : List UInt8}, c ∈ l → ∃ a r, l = a ++ c :: r ∧ c ∉ a
  | [], h => by simp at h
  | x :: l, h => by
    by_cases hx : x = c
    · subst hx; exact ⟨[], l, rfl, by simp⟩
    · obtain ⟨a, r, rfl, ha⟩ := first_of (List.mem_of_ne_of_mem (Ne.symm hx) h)
      exact ⟨x :: a, r, rfl, by simp [ha]; exact fun e => hx e.symm⟩
theorem splitK_cut (c : UInt8) : ∀ (n : Nat) (l : List UInt8), l.length ≤ n → Lib.splitK [c] 0 (l.count c) l = cutW c l
  | n, l, hn => by
    by_cases hc : c ∈ l
    · obtain ⟨a, r, rfl, ha⟩ := first_of hc
      have ha' : ∀ b ∈ a, b ≠ c := fun b hb e => ha (e ▸ hb)
      have hcnt : (a ++ c :: r).count c = r.count c + 1 := by
        rw [List.count_append, List.count_cons_self, List.count_eq_zero.2 ha]; omega
      have hix : Lib.index (a ++ c :: r) [c] = a.length := by rw [Lib.index_one, index_at c a r ha']
      rw [hcnt, Lib.splitK, hix, if_neg (by simp), cutW_app c a r ha']
      cases n with
      | zero => simp at hn
      | succ n =>
        have ih := splitK_cut c n r (by simp at hn; omega)
        simp only [Int.toNat_natCast, Nat.add_zero, List.length_cons, List.length_nil, Nat.zero_add]
        rw [List.take_left, show (a ++ c :: r).drop (a.length + 1) = r from by simp, ih]
    · rw [List.count_eq_zero.2 hc, Lib.splitK, cutW_one c l (fun b hb e => hc (e ▸ hb))]
theorem cutW_len (c : UInt8) : ∀ l : List UInt8, (cutW c l).length ≤ l.length + 1
  | [] => by simp [cutW]
  | b :: r => by
    have ih := cutW_len c r
    rw [cutW]
    split
    · simp; omega
    · split
      · simp
      · rename_i h t e; rw [e] at ih; simp at ih ⊢; omega
theorem cutW_word (c : UInt8) : ∀ (l : List UInt8), ∀ w ∈ cutW c l, w.length ≤ l.length
  | [], w, hw => by simp [cutW] at hw; subst hw; simp
  | b :: r, w, hw => by
    rw [cutW] at hw
    split at hw
    · rcases List.mem_cons.1 hw with rfl | hw
      · simp
      · have := cutW_word c r w hw; simp; omega
    · cases h : cutW c r with
      | nil => exact absurd h (cutW_ne _ _)
      | cons y t =>
        rw [h] at hw
        simp only at hw
        rcases List.mem_cons.1 hw with rfl | hw
        · have := cutW_word c r y (by rw [h]; simp); simp; omega
        · have := cutW_word c r w (by rw [h]; simp [hw]); simp; omega
theorem split_any (s : ByteArray) (c : UInt8) (w : World) (hs : s.size ≤ 1000000) (hG : Grd w) :
    Calls Tryd.prog 33 #[.string s, .string ⟨#[c]⟩] w fun e w' => ∃ ws : List ByteArray, ws.map bL = cutW c (bL s) ∧ e = .returned (.slice (some ⟨w.heap.size, 0, none⟩) ws.length ws.length) ∧ w' = w.alloc (.cells (ws.map Value.string).toArray 9) ∧ (∀ x ∈ ws, x.size ≤ s.size) ∧ ws.length ≤ s.size + 1 ∧ ws ≠ [] := by
  obtain ⟨m, hm⟩ := hG.maxl
  refine (Tryd.strings_Split s ⟨#[c]⟩ m w (by omega) hm (Nat.le_refl 1)).mono fun e w' ⟨h1, h2⟩ => ?_
  have hd := Lib.splitB_data ⟨#[c]⟩ 0 (Lib.countB s ⟨#[c]⟩) s
  have hlen := Lib.splitB_all ⟨#[c]⟩ (Nat.le_refl 1) 0 _ s rfl
  have hk : (Lib.splitB ⟨#[c]⟩ 0 (Lib.countB s ⟨#[c]⟩) s).map bL = cutW c (bL s) := by
    show (Lib.splitB ⟨#[c]⟩ 0 (Lib.countB s ⟨#[c]⟩) s).map (·.data.toList) = _
    rw [hd]
    have : Lib.countB s ⟨#[c]⟩ = (bL s).count c := by
      unfold Lib.countB
      rw [Lib.count_one]
      rfl
    rw [this]
    exact splitK_cut c _ _ (Nat.le_refl _)
  have hsz : (bL s).length = s.size := by unfold bL; simp
  refine ⟨_, hk, by rw [h1, hlen], h2, fun x hx => ?_, ?_, fun h0 => ?_⟩
  · have := cutW_word c (bL s) (bL x) (by rw [← hk]; exact List.mem_map_of_mem hx)
    unfold bL at this
    simp at this
    exact this
  · have := cutW_len c (bL s)
    rw [← hk, List.length_map] at this
    omega
  · rw [h0] at hlen; simp at hlen
end Go.Proofs.YtmgngapkgcofnabDoor
