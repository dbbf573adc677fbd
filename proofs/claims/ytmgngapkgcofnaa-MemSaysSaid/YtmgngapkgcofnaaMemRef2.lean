/- The reference's memory: Get, Text: the walks. -/
import Derived.Test.YtmgngapkgcofnaaMemRef1
namespace Go.Proofs.Ytmgngapkgcofnaa
open Go.RowKit Go.PlainAid

set_option linter.unusedSimpArgs false in
set_option maxHeartbeats 2000000 in
theorem refGet_any (r : Nat) (S : MemS) (a : Nat) (n : Int) (w : World) (h : RefAt w r S) :
    Calls Try.prog 39 #[.pointer (some ⟨r, 0, none⟩), .int .u64 a, .int .i64 n] w fun e w' => e = .returned (.tuple #[.string (getP (byteS S) a n).1, .int .i64 (getP (byteS S) a n).2]) ∧ Below w.heap.size w w' := by
  by_cases h1 : n < 0 ∨ 512 < n
  · have HV : Hid (getP (byteS S) a n = (⟨#[]⟩, 1)) := if_pos h1
    by_cases h2 : n < 0
    · clear h1 h
      go_enter Try.func39, Try.ntmps39
      go_wp2_with fail
      go_ret2
      exact ⟨by rw [HV.out]; rfl, Below.refl _ _⟩
    · have h3 : 512 < n := by omega
      clear h1 h
      go_enter Try.func39, Try.ntmps39
      go_wp2_with fail
      go_ret2
      exact ⟨by rw [HV.out]; rfl, Below.refl _ _⟩
  · obtain ⟨N, rfl⟩ : ∃ N : Nat, n = N := ⟨n.toNat, by omega⟩
    have HV : Hid (getP (byteS S) a N = match readL (byteS S) a N with
      | some l => (strOfNums l, 0)
      | none => (⟨#[]⟩, 5)) := by show _ = _; unfold getP; rw [if_neg h1]; simp; rfl
    have y1 : ¬ (N : Int) < 0 := by omega
    have y2 : ¬ (512 : Int) < (N : Int) := by omega
    have hN : N ≤ 512 := by omega
    obtain ⟨i0, hi, hz0, hz1, hz2⟩ := info_parts u8Info
    have H := Lib.hid h
    have hlt := h.lt
    clear h h1
    go_enter Try.func39, Try.ntmps39
    go_wp2_with fail
    go_loopw [8, 9] (fun ov iv wr => ∃ (k : Nat) (l : List Int), k ≤ N ∧ iv = .int .i64 k ∧ Hid (readL (byteS S) a k = some l) ∧ Hid (wr.ownsRow w.heap.size 5 1 ov k (u8s l)) ∧ Below w.heap.size w wr) (fun _ iv _ => N - (intOf iv).toNat)
    case atStart => exact ⟨0, [], Nat.zero_le _, rfl, rfl, World.ownsRow_nil _ _ _ _, Below.refl _ _⟩
    case round =>
      obtain ⟨k, l, hk, rfl, hl, hown, hb⟩ := hrel
      by_cases hlt2 : k < N
      · have x1 : (k : Int) < (N : Int) := by omega
        have x2 : (0 : Int) ≤ (k : Int) := by omega
        have hM : RefAt wr r S := H.out.via hb hlt
        have HM := Lib.hid hM
        have hbs := hb.size
        clear hM
        have hw := wrap_sum a k
        have hlen := readL_length hl.out
        obtain ⟨X, hX⟩ : ∃ X, Hid ((a + k) % 18446744073709551616 = X) := ⟨_, rfl⟩
        have hX1 : X < 18446744073709551616 := by rw [← hX.out]; omega
        rw [hX.out] at hw
        cases hby : byteS S X with
        | none =>
          have hR : Hid (readL (byteS S) a N = none) := by
            refine readL_none (k := k + 1) ?_ N hlt2
            rw [readL, hl.out]
            simp only
            rw [hX.out, hby]; rfl
          have hBV : Hid (byteP S X = (0, 5)) := by show _ = _; unfold byteP; rw [hby]
          clear hby
          go_wp2_with (go_at_call 47; refine (refByte_any r S X _ HM.out hX1).mono ?_; rintro e w1 ⟨rfl, rfl⟩; rw [hBV.out])
          go_ret2
          exact ⟨by rw [HV.out, hR.out]; rfl, hb⟩
        | some v =>
          have hR : Hid (readL (byteS S) a (k + 1) = some (l ++ [v])) := by
            show _ = _
            rw [readL, hl.out]
            simp only
            rw [hX.out, hby]; rfl
          have hBV : Hid (byteP S X = (v, 0)) := by show _ = _; unfold byteP; rw [hby]
          clear hby
          go_wp2_with (first
            | (go_at_call 47; refine (refByte_any r S X _ HM.out hX1).mono ?_; rintro e w1 ⟨rfl, rfl⟩; rw [hBV.out])
            | (at_builtin; refine wpList_append_own _ rfl _ _ _ rfl w.heap.size 5 i0 _ 1 1 Try.underlying131 hi hz0 hz1 hz2 rfl (by omega) _ k (u8s l) rfl (hown.out.alloc _) ⟨wr.heap.size, 0, none⟩ 1 1 [.int .u8 v] rfl rfl (cell1 _ _ _ _ (heap_alloc_new _ _)) (by simp [Value.oneCell']) (by unfold maxLen; omega) (by omega) (by simp; omega) ?_; intro v' w1 hown3 hgrow _))
          have hb4 : Below w.heap.size w w1 := (hb.alloc (by omega) _).grown hgrow (by simp; omega) (own_ge hown.out)
          have hown4 : Hid (w1.ownsRow w.heap.size 5 1 v' (k + 1) (u8s (l ++ [v]))) := by rw [u8s, List.map_append]; exact hown3
          clear hown3 hgrow hown
          go_wp2_with fail
          go_roundw
          case rel => exact ⟨k + 1, l ++ [v], by omega, by go_num, hR, hown4, hb4⟩
          case measure => simp [intOf]; omega
      · obtain rfl : k = N := by omega
        have hc := conv_own hown.out
        have hR := hl
        clear hown hl
        go_wp2_with fail
        go_ret2
        exact ⟨by rw [HV.out, hR.out]; rfl, hb⟩

set_option linter.unusedSimpArgs false in
set_option maxHeartbeats 2000000 in
theorem refText_any (r : Nat) (S : MemS) (a : Nat) (w : World) (h : RefAt w r S) :
    Calls Try.prog 41 #[.pointer (some ⟨r, 0, none⟩), .int .u64 a] w fun e w' => e = .returned (.tuple #[.string (textP (byteS S) a).1, .int .i64 (textP (byteS S) a).2]) ∧ Below w.heap.size w w' := by
  obtain ⟨i0, hi, hz0, hz1, hz2⟩ := info_parts u8Info
  have H := Lib.hid h
  have hrlt := h.lt
  obtain ⟨RES, hRES⟩ : ∃ R, Hid (textP (byteS S) a = R) := ⟨_, rfl⟩
  clear h
  rw [hRES.out]
  go_enter Try.func41, Try.ntmps41
  go_wp2_with fail
  go_loopw [6, 7] (fun ov iv wr => ∃ (n k : Nat) (l : List Int), iv = .int .i64 k ∧ Hid (l.length = k) ∧ n + k = 41 ∧ 0 < n ∧ Hid (RES = textPR (byteS S) a n l) ∧ Hid (wr.ownsRow w.heap.size 5 1 ov k (u8s l)) ∧ Below w.heap.size w wr) (fun _ iv _ => 41 - (intOf iv).toNat)
  case atStart => exact ⟨41, 0, [], rfl, rfl, rfl, by omega, hRES.out.symm, World.ownsRow_nil _ _ _ _, Below.refl _ _⟩
  case round =>
    obtain ⟨n, k, l, rfl, hlk, hn, hn0, hR, hown, hb⟩ := hrel
    obtain ⟨n, rfl⟩ : ∃ j, n = j + 1 := ⟨n - 1, by omega⟩
    have hM : RefAt wr r S := H.out.via hb hrlt
    have HM := Lib.hid hM
    have hbs := hb.size
    clear hM
    have hw := wrap_sum a k
    obtain ⟨X, hX⟩ : ∃ X, Hid ((a + k) % 18446744073709551616 = X) := ⟨_, rfl⟩
    have hX1 : X < 18446744073709551616 := by rw [← hX.out]; omega
    rw [hX.out] at hw
    have hR2 : Hid (RES = match byteS S X with
      | none => (⟨#[]⟩, 5)
      | some v => if v = 0 then (strOfNums l, 0) else if k = 40 then (⟨#[]⟩, 6) else textPR (byteS S) a n (l ++ [v])) := by
      show _ = _
      rw [hR.out, textPR, hlk.out, hX.out]; rfl
    have x1 : (0 : Int) ≤ (k : Int) := by omega
    have x2 : (k : Int) ≤ 40 := by omega
    clear hR
    cases hby : byteS S X with
    | none =>
      have hF : Hid (RES = (⟨#[]⟩, 5)) := by show _ = _; rw [hR2.out, hby]
      have hBV : Hid (byteP S X = (0, 5)) := by show _ = _; unfold byteP; rw [hby]
      clear hby hR2
      go_wp2_with (go_at_call 47; refine (refByte_any r S X _ HM.out hX1).mono ?_; rintro e w1 ⟨rfl, rfl⟩; rw [hBV.out])
      go_ret2
      exact ⟨by rw [hF.out]; rfl, hb⟩
    | some v =>
      have hBV : Hid (byteP S X = (v, 0)) := by show _ = _; unfold byteP; rw [hby]
      by_cases hv : v = 0
      · have hF : Hid (RES = (strOfNums l, 0)) := by
          show _ = _
          rw [hR2.out, hby]; simp only; rw [if_pos hv]
        have hc := conv_own hown.out
        subst hv
        clear hby hR2 hown
        go_wp2_with (go_at_call 47; refine (refByte_any r S X _ HM.out hX1).mono ?_; rintro e w1 ⟨rfl, rfl⟩; rw [hBV.out])
        go_ret2
        exact ⟨by rw [hF.out]; rfl, hb⟩
      · have hv' : (v == 0) = false := by simpa using hv
        by_cases h40 : k = 40
        · have hF : Hid (RES = (⟨#[]⟩, 6)) := by
            show _ = _
            rw [hR2.out, hby]; simp only; rw [if_neg hv, if_pos h40]
          have h40' : ((k : Int) == 40) = true := by simp; omega
          clear hby hR2 hv h40
          go_wp2_with (go_at_call 47; refine (refByte_any r S X _ HM.out hX1).mono ?_; rintro e w1 ⟨rfl, rfl⟩; rw [hBV.out])
          go_ret2
          exact ⟨by rw [hF.out]; rfl, hb⟩
        · have hF : Hid (RES = textPR (byteS S) a n (l ++ [v])) := by
            show _ = _
            rw [hR2.out, hby]; simp only; rw [if_neg hv, if_neg h40]
          have h40' : ((k : Int) == 40) = false := by simp; omega
          clear hby hR2 hv
          have hlk2 : (l ++ [v]).length = k + 1 := by have := hlk.out; simp; exact this
          have HLK2 := Lib.hid hlk2
          clear hlk2
          go_wp2_with (first
            | (go_at_call 47; refine (refByte_any r S X _ HM.out hX1).mono ?_; rintro e w1 ⟨rfl, rfl⟩; rw [hBV.out])
            | (at_builtin; refine wpList_append_own _ rfl _ _ _ rfl w.heap.size 5 i0 _ 1 1 Try.underlying131 hi hz0 hz1 hz2 rfl (by omega) _ k (u8s l) rfl (hown.out.alloc _) ⟨wr.heap.size, 0, none⟩ 1 1 [.int .u8 v] rfl rfl (cell1 _ _ _ _ (heap_alloc_new _ _)) (by simp [Value.oneCell']) (by unfold maxLen; omega) (by omega) (by simp; omega) ?_; intro v' w1 hown3 hgrow _))
          have hb4 : Below w.heap.size w w1 := (hb.alloc (by omega) _).grown hgrow (by simp; omega) (own_ge hown.out)
          have hown4 : Hid (w1.ownsRow w.heap.size 5 1 v' (k + 1) (u8s (l ++ [v]))) := by rw [u8s, List.map_append]; exact hown3
          clear hown3 hgrow hown
          go_wp2_with fail
          go_roundw
          case rel => exact ⟨n, k + 1, l ++ [v], by go_num, HLK2, by omega, by omega, hF, hown4, hb4⟩
          case measure => simp [intOf]; omega

end Go.Proofs.Ytmgngapkgcofnaa
