/- glob.Check and glob.Match: the walks. -/
import Derived.Test.YtmgngapkgcofnabGlobParts
import Derived.Test.YtmgngapkgcofnabGlobSkip
import Derived.Laws.MakeOwn
namespace Go.Proofs.Ytmgngapkgcofnab
open Go.RowKit

theorem parts_yes (s : ByteArray) (w : World) (hs : s.size ≤ 4096) {ps : List Part} (h : partsF (bytesOf s) = some ps) :
    Calls Try.prog 30 #[.string s] w fun e w' => ∃ v, e = .returned (.tuple #[v, .bool true]) ∧ w'.ownsRow w.heap.size 94 257 v ps.length (flatP ps) ∧ Below w.heap.size w w' :=
  (parts_any s w hs).mono fun e w' ⟨h1, h2⟩ => by
    unfold PartsR at h1
    rw [h] at h1
    obtain ⟨v, h3, h4⟩ := h1
    exact ⟨v, h3, h4, h2⟩
theorem parts_no (s : ByteArray) (w : World) (hs : s.size ≤ 4096) (h : partsF (bytesOf s) = none) :
    Calls Try.prog 30 #[.string s] w fun e w' => e = .returned (.tuple #[.slice none 0 0, .bool false]) ∧ Below w.heap.size w w' :=
  (parts_any s w hs).mono fun e w' ⟨h1, h2⟩ => by
    unfold PartsR at h1
    rw [h] at h1
    exact ⟨h1, h2⟩

set_option maxHeartbeats 1000000 in
theorem globCheck_any (p : ByteArray) (w : World) (hsB : p.size ≤ 100000) :
    Calls Try.prog 25 #[.string p] w fun e w' => e = .returned (errV (globF (bytesOf p))) ∧ Below w.heap.size w w' := by
  by_cases h24 : 24 < p.size
  · have HF : Hid (globF (bytesOf p) = 2) := by show _ = _; unfold globF; rw [bytesOf_length, if_pos h24]
    have k : (24 : Int) < (p.size : Int) := by omega
    clear h24
    go_enter Try.func25, Try.ntmps25
    go_wp2_with fail
    go_ret
    exact ⟨by rw [HF.out]; rfl, Below.refl _ _⟩
  · have hs : p.size ≤ 4096 := by omega
    have k : ¬ (24 : Int) < (p.size : Int) := by omega
    rcases Nat.eq_zero_or_pos p.size with h0 | h0
    · have y1 : p.toList.isEmpty = true := by rw [isEmpty_of]; simpa using h0
      have HF : Hid (globF (bytesOf p) = 4) := by show _ = _; unfold globF; rw [bytesOf_length, if_neg h24, if_pos (bytesOf_nil h0)]
      have hp : Hid (partsF (bytesOf p) = some []) := by show _ = _; rw [bytesOf_nil h0]; rfl
      clear h24 h0
      go_enter Try.func25, Try.ntmps25
      go_wp2_with (go_at_call 30; refine (parts_yes _ _ hs hp.out).mono ?_; rintro e w1 ⟨v, rfl, hown, hb⟩; have hown2 := Lib.hid hown; clear hown)
      go_ret
      exact ⟨by rw [HF.out]; rfl, hb⟩
    · have y1 : p.toList.isEmpty = false := by rw [isEmpty_of]; exact decide_eq_false (by omega)
      have hne : bytesOf p ≠ [] := by intro h; have := bytesOf_length p; rw [h] at this; simp at this; omega
      cases hp : partsF (bytesOf p) with
      | none =>
        have HF : Hid (globF (bytesOf p) = 4) := by show _ = _; unfold globF; rw [bytesOf_length, if_neg h24, if_neg hne, hp]
        have HP := Lib.hid hp
        clear h24 h0 hp hne
        go_enter Try.func25, Try.ntmps25
        go_wp2_with (go_at_call 30; refine (parts_no _ _ hs HP.out).mono ?_; rintro e w1 ⟨rfl, hb⟩)
        go_ret
        exact ⟨by rw [HF.out]; rfl, hb⟩
      | some ps =>
        have HF : Hid (globF (bytesOf p) = 0) := by show _ = _; unfold globF; rw [bytesOf_length, if_neg h24, if_neg hne, hp]
        have HP := Lib.hid hp
        clear h24 h0 hp hne
        go_enter Try.func25, Try.ntmps25
        go_wp2_with (go_at_call 30; refine (parts_yes _ _ hs HP.out).mono ?_; rintro e w1 ⟨v, rfl, hown, hb⟩; have hown2 := Lib.hid hown; clear hown)
        go_ret
        exact ⟨by rw [HF.out]; rfl, hb⟩

/-- The byte at a place. -/
def byteN (s : ByteArray) (j : Nat) : Nat := if h : j < s.size then s[j].toNat else 0
/-- What Match answers. -/
def matchB (p s : ByteArray) : Bool := if globF (bytesOf p) ≠ 0 then false else match partsF (bytesOf p) with
  | none => false
  | some l => Mk l (byteN s) l.length s.size
theorem matchB_some {p s : ByteArray} {l : List Part} (h0 : globF (bytesOf p) = 0) (h : partsF (bytesOf p) = some l) : matchB p s = Mk l (byteN s) l.length s.size := by
  unfold matchB; rw [if_neg (by rw [h0]; simp), h]
theorem globF_parts {l : List Int} (h : globF l = 0) : ∃ ps, partsF l = some ps ∧ l.length ≤ 24 ∧ l ≠ [] := by
  unfold globF at h
  split at h
  · simp at h
  · split at h
    · simp at h
    · cases hp : partsF l with
      | none => rw [hp] at h; simp at h
      | some ps => exact ⟨ps, rfl, by omega, by assumption⟩
theorem partsL_length : ∀ (n : Nat) (l : List Int) (ps : List Part), partsL n l = some ps → ps.length ≤ l.length := by
  intro n
  induction n with
  | zero => intro l ps h; rcases l with _ | ⟨c, r⟩ <;> simp [partsL] at h; subst h; simp
  | succ n ih =>
    intro l ps h
    rcases l with _ | ⟨c, r⟩
    · simp [partsL] at h; subst h; simp
    · simp only [partsL] at h
      cases hp : partL (c :: r) with
      | none => simp [hp] at h
      | some x =>
        simp only [hp, Option.bind_some, Option.map_eq_some_iff] at h
        obtain ⟨qs, h1, rfl⟩ := h
        have := ih _ _ h1
        have := partL_len (p := x.1) (r := x.2) hp
        simp at this ⊢; omega
theorem partsF_length {l : List Int} {ps : List Part} (h : partsF l = some ps) : ps.length ≤ l.length := partsL_length _ _ _ h
theorem partsF_pos {l : List Int} {ps : List Part} (h : partsF l = some ps) (hl : l ≠ []) : 0 < ps.length := by
  rw [partsF_cons hl] at h
  cases hp : partL l with
  | none => simp [hp] at h
  | some x =>
    simp only [hp, Option.bind_some, Option.map_eq_some_iff] at h
    obtain ⟨qs, _, rfl⟩ := h
    simp

theorem flatP_at (l : List Part) (i : Nat) (p : Part) (hp : l[i]? = some p) (j : Nat) (v : Value) (hv : p.row[j]? = some v) : (flatP l)[i * 257 + j]? = some v := by
  have hj : j < 257 := by
    rw [← p.row_size]
    rcases Nat.lt_or_ge j p.row.size with h | h
    · exact h
    · simp [Array.getElem?_eq_none h] at hv
  induction l generalizing i with
  | nil => simp at hp
  | cons q l ih =>
    rcases i with _ | i
    · simp at hp; subst hp
      simp only [flatP, List.flatMap_cons, Nat.zero_mul, Nat.zero_add]
      rw [List.getElem?_append_left (by rw [Part.row_len]; exact hj)]
      simpa using hv
    · simp only [List.getElem?_cons_succ] at hp
      have := ih i hp
      simp only [flatP, List.flatMap_cons] at this ⊢
      rw [List.getElem?_append_right (by rw [Part.row_len]; omega), Part.row_len, show (i + 1) * 257 + j - 257 = i * 257 + j from by omega]
      exact this
theorem parts_of_own {w : World} {B : Nat} {v : Value} {l : List Part} (h : w.ownsRow B 94 257 v l.length (flatP l)) (hl : 0 < l.length) :
    ∃ g cap, v = .slice (some ⟨g, 0, none⟩) l.length cap ∧ B ≤ g ∧ g < w.heap.size ∧ PartsAt w g 0 l := by
  obtain ⟨h1, (⟨rfl, h2⟩ | ⟨g, cap, cur, rfl, hB, hg, h3, h4, h5, h6⟩)⟩ := h
  · omega
  · refine ⟨g, cap, rfl, hB, ?_, ?_⟩
    · rcases Nat.lt_or_ge g w.heap.size with h | h
      · exact h
      · simp [Array.getElem?_eq_none h] at hg
    · intro i p hp j v hv
      have h7 := flatP_at l i p hp j v hv
      rw [cell_of_row w _ _ _ _ _ hg, Nat.zero_add]
      rw [← h6, List.getElem?_take] at h7
      split at h7
      · simpa using h7
      · simp at h7

theorem bool_i : (Try.prog.info? 4).map (fun i => (i.zero, i.size, i.bytes)) = some (some (.bool false), 1, 1) := by kernel_rfl
theorem upd_zero : upd (fun _ => false) 0 true = fun i => i == 0 := by
  funext i
  unfold upd
  by_cases h : i = 0
  · subst h; rfl
  · rw [if_neg h]; simp [h]
theorem byteN_at {s : ByteArray} {i : Nat} (h : i < s.size) : byteN s i = s[i].toNat := by simp [byteN, h]
theorem stepF_yes {l : List Part} {f : Nat → Bool} {c k : Nat} {p : Part} (h : l[k]? = some p) (h1 : f k = true) (h2 : p.has c = true) :
    stepF l f c (k + 1) = upd (upd (stepF l f c k) k (stepF l f c k k || p.many)) (k + 1) (stepF l f c k (k + 1) || !p.many) := by
  funext i
  simp only [stepF, h, h1, h2, Bool.and_self, if_true, upd]
  by_cases e : i = k
  · subst e; simp
  · rw [if_neg e]
    by_cases e2 : i = k + 1
    · subst e2; simp
    · rw [if_neg e2, if_neg e2, if_neg e]
theorem stepF_no {l : List Part} {f : Nat → Bool} {c k : Nat} {p : Part} (h : l[k]? = some p) (h1 : f k = false ∨ p.has c = false) : stepF l f c (k + 1) = stepF l f c k := by
  funext i
  simp only [stepF, h]
  rw [if_neg]
  rcases h1 with h | h <;> simp [h]
theorem bools_lt {w : World} {b n : Nat} {f : Nat → Bool} (h : BoolsAt w b n f) : b < w.heap.size := by
  rcases Nat.lt_or_ge b w.heap.size with h1 | h1
  · exact h1
  · have h2 : w.heap[b]? = some _ := h
    simp [Array.getElem?_eq_none h1] at h2
theorem stepF_above (l : List Part) (f : Nat → Bool) (c : Nat) : ∀ k i, k < i → stepF l f c k i = false := by
  intro k
  induction k with
  | zero => intro i _; rfl
  | succ k ih =>
    intro i hi
    simp only [stepF]
    split
    · exact ih i (by omega)
    · split
      · rw [if_neg (by omega), if_neg (by omega)]; exact ih i (by omega)
      · exact ih i (by omega)

end Go.Proofs.Ytmgngapkgcofnab
