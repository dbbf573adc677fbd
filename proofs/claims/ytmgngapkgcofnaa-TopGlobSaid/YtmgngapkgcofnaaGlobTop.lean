/- slashes and stars of the law TopGlob: the walks. -/
import Derived.Test.YtmgngapkgcofnaaGlobRefMatch
import Derived.Test.YtmgngapkgcofnaaGlobTopLaw
namespace Go.Proofs.Ytmgngapkgcofnaa
open Go.RowKit Go.PlainAid

set_option maxHeartbeats 1000000 in
theorem slashes_any (s : ByteArray) (w : World) (hs : s.size ≤ 100000) :
    Calls Try.prog 61 #[.string s] w fun e w' => e = .returned (.int .i64 (cntN (byteN s) s.size)) ∧ w = w' := by
  have gx := get_bt s
  have hle : ∀ i, cntN (byteN s) i ≤ i := by
    intro i
    induction i with
    | zero => exact Nat.le_refl _
    | succ i ih => simp only [cntN]; split <;> omega
  have HLE := Lib.hid hle
  clear hle
  go_enter Try.func61, Try.ntmps61
  go_wp2_with fail
  go_loop [3, 4] (fun nv iv => ∃ i : Nat, i ≤ s.size ∧ iv = .int .i64 i ∧ nv = .int .i64 (cntN (byteN s) i)) (fun _ iv => s.size - (intOf iv).toNat)
  case atStart => exact ⟨0, Nat.zero_le _, rfl, rfl⟩
  case round =>
    obtain ⟨i, hi, rfl, rfl⟩ := hrel
    by_cases hlt : i < s.size
    · have x1 : (i : Int) < (s.size : Int) := by omega
      have x2 : (0 : Int) ≤ (i : Int) := by omega
      have hb := byteN_bt s i
      have hl := HLE.out i
      by_cases h47 : bt s i = 47
      · have d : (bt s i == 47) = true := by simpa using h47
        have hc : Hid (cntN (byteN s) (i + 1) = cntN (byteN s) i + 1) := by show _ = _; rw [cntN, if_pos (by omega)]
        clear h47 hb
        generalize cntN (byteN s) i = C at *
        go_wp2_with fail
        go_round
        case rel => exact ⟨i + 1, by omega, by go_num, by rw [hc.out]; go_num⟩
        case measure => simp [intOf]; omega
      · have d : (bt s i == 47) = false := by simpa using h47
        have hc : Hid (cntN (byteN s) (i + 1) = cntN (byteN s) i) := by show _ = _; rw [cntN, if_neg (by omega)]; rfl
        clear h47 hb
        generalize cntN (byteN s) i = C at *
        go_wp2_with fail
        go_round
        case rel => exact ⟨i + 1, by omega, by go_num, by rw [hc.out]⟩
        case measure => simp [intOf]; omega
    · obtain rfl : i = s.size := by omega
      go_wp2_with fail
      go_ret
      exact ⟨rfl, rfl⟩

/-- Does a text begin with '*'? end with it? -/
def beginB (s : ByteArray) : Bool := bt s 0 == 42
def endB (s : ByteArray) : Bool := bt s (s.size - 1) == 42
theorem twoStars_no : ∀ (l : List Int), (∀ j, j + 1 < l.length → ¬ (l[j]? = some 42 ∧ l[j + 1]? = some 42)) → twoStars l = false := by
  intro l
  induction l with
  | nil => intro _; rfl
  | cons x l ih =>
    intro h
    unfold twoStars
    split
    · rename_i e
      simp at e
      exact (h 0 (by rw [e.2]; simp) ⟨by simp [e.1], by rw [e.2]; rfl⟩).elim
    · rename_i e
      simp at e
      rw [← e.2]
      exact ih (fun j hj ⟨h1, h2⟩ => h (j + 1) (by simp; omega) ⟨by simpa using h1, by simpa using h2⟩)
    · rfl
theorem bytesOf_at {s : ByteArray} {j : Nat} (h : j < s.size) : (bytesOf s)[j]? = some (bt s j) := by
  have := drop_bt h
  have h2 : ((bytesOf s).drop j)[0]? = some (bt s j) := by rw [this]; rfl
  rwa [List.getElem?_drop] at h2

/-- What stars answers. -/
def StarsR (s : ByteArray) (w : World) (e : Ending) (w' : World) : Prop := ∃ T : Bool, e = .returned (.tuple #[.bool (beginB s), .bool (endB s), .bool T]) ∧ (T = false → twoStars (bytesOf s) = false) ∧ Below w.heap.size w w'
set_option linter.unusedSimpArgs false in
set_option maxHeartbeats 1000000 in
theorem stars_any (s : ByteArray) (w : World) (hs : s.size ≤ 100000) :
    Calls Try.prog 60 #[.string s] w (StarsR s w) := by
  have gx := get_bt s
  rcases Nat.eq_zero_or_pos s.size with h0 | h0
  · have y1 : s.toList.isEmpty = true := by rw [isEmpty_of]; simpa using h0
    have e1 : Hid (beginB s = false) := by show _ = _; unfold beginB; rw [bt_end s (by omega)]; rfl
    have e2 : Hid (endB s = false) := by show _ = _; unfold endB; rw [bt_end s (by omega)]; rfl
    have e3 : Hid (twoStars (bytesOf s) = false) := by show _ = _; rw [bytesOf_nil h0]; rfl
    go_enter Try.func60, Try.ntmps60
    go_wp2_with fail
    go_ret3
    exact ⟨false, by rw [e1.out, e2.out]; rfl, fun _ => e3.out, Below.refl _ _⟩
  · have y1 : s.toList.isEmpty = false := by rw [isEmpty_of]; exact decide_eq_false (by omega)
    go_enter Try.func60, Try.ntmps60
    go_wp2_with fail
    go_loop [5, 6] (fun tv iv => ∃ (j : Nat) (T : Bool), j + 1 ≤ s.size ∧ iv = .int .i64 ((j : Int) + 1) ∧ tv = .bool T ∧ Hid (T = false → ∀ k, k < j → ¬ (bt s k = 42 ∧ bt s (k + 1) = 42))) (fun _ iv => s.size - (intOf iv).toNat)
    case atStart => exact ⟨0, false, h0, rfl, rfl, fun _ k hk => by omega⟩
    case round =>
      obtain ⟨j, T, hj, rfl, rfl, hT⟩ := hrel
      have x0 : (0 : Int) ≤ (j : Int) := by omega
      by_cases hlt : j + 1 < s.size
      · have x1 : (j : Int) + 1 < (s.size : Int) := by omega
        have x3 : (j : Int) < (s.size : Int) := by omega
        have hj2 : j < s.size := by omega
        cases T with
        | true =>
          go_wp2_with fail
          go_round
          case rel => exact ⟨j + 1, true, by omega, by go_num, rfl, fun h => by simp at h⟩
          case measure => simp [intOf]; omega
        | false =>
          by_cases h1 : bt s (j + 1) = 42
          · have d1 : (bt s (j + 1) == 42) = true := by simpa using h1
            by_cases h2 : bt s j = 42
            · have d2 : (bt s j == 42) = true := by simpa using h2
              clear h1 h2
              go_wp2_with fail
              go_round
              case rel => exact ⟨j + 1, true, by omega, by go_num, rfl, fun h => by simp at h⟩
              case measure => simp [intOf]; omega
            · have d2 : (bt s j == 42) = false := by simpa using h2
              have hT2 : Hid (∀ k, k < j + 1 → ¬ (bt s k = 42 ∧ bt s (k + 1) = 42)) := by
                intro k hk
                rcases Nat.lt_succ_iff_lt_or_eq.1 hk with h | rfl
                · exact hT.out rfl k h
                · exact fun h => h2 h.1
              clear h1 h2 hT
              go_wp2_with fail
              go_round
              case rel => exact ⟨j + 1, false, by omega, by go_num, rfl, fun _ => hT2.out⟩
              case measure => simp [intOf]; omega
          · have d1 : (bt s (j + 1) == 42) = false := by simpa using h1
            have hT2 : Hid (∀ k, k < j + 1 → ¬ (bt s k = 42 ∧ bt s (k + 1) = 42)) := by
              intro k hk
              rcases Nat.lt_succ_iff_lt_or_eq.1 hk with h | rfl
              · exact hT.out rfl k h
              · exact fun h => h1 h.2
            clear h1 hT
            go_wp2_with fail
            go_round
            case rel => exact ⟨j + 1, false, by omega, by go_num, rfl, fun _ => hT2.out⟩
            case measure => simp [intOf]; omega
      · have e1 : j + 1 = s.size := by omega
        have e2 : s.size - 1 = j := by omega
        have x1 : ¬ (j : Int) + 1 < (s.size : Int) := by omega
        have x4 : (0 : Int) ≤ (s.size : Int) - 1 := by omega
        have x5 : (s.size : Int) - 1 < (s.size : Int) := by omega
        have x6 : ((s.size : Int) - 1).toNat = s.size - 1 := by omega
        have x7 : s.size - 1 < s.size := by omega
        have hb : Hid (beginB s = (bt s 0 == 42)) := rfl
        have he : Hid (endB s = (bt s (s.size - 1) == 42)) := rfl
        have hF : Hid (T = false → twoStars (bytesOf s) = false) := by
          intro h
          refine twoStars_no _ (fun k hk => ?_)
          rw [bytesOf_length] at hk
          rw [bytesOf_at (by omega), bytesOf_at (by omega)]
          simp only [Option.some.injEq]
          exact hT.out h k (by omega)
        clear hT e1 e2
        go_upto_region 8 with fail
        go_quiet (fail)
        go_wp2_with fail
        go_ret3
        exact ⟨T, by rw [hb.out, he.out]; rfl, hF.out, below_drewN (Below.refl _ _) _⟩

end Go.Proofs.Ytmgngapkgcofnaa
