/- The reference's Digits and Figures: the walks. -/
import Derived.Test.YtmgngapkgcofnaaGreatDoorP21
import Derived.Laws.IdiomStrings
namespace Go.Proofs.YtmgngapkgcofnaaGreatDoor
open Go.RowKit Go.PlainAid

theorem nDigits_le : ∀ (k n : Nat), n < 10 ^ (k + 1) → Lib.nDigits n ≤ k + 1
  | 0, n, h => by rw [Lib.nDigits_small (by simpa using h)]; omega
  | k + 1, n, h => by
    by_cases hn : n < 10
    · rw [Lib.nDigits_small hn]; omega
    · rw [Lib.nDigits_big hn]
      have := nDigits_le k (n / 10) (by rw [Nat.pow_succ] at h; omega)
      omega
set_option linter.unusedSimpArgs false in
set_option maxRecDepth 100000 in
set_option maxHeartbeats 2000000 in
theorem digits_any (n : Nat) (w : World) (hn : n < 18446744073709551616) :
    Calls Tryz.prog 64 #[.int .u64 n] w fun e w' => e = .returned (.string ⟨(Lib.decDigits n).toArray⟩) ∧ Below w.heap.size w w' := by
  have HNN := Lib.hid hn
  go_enter Tryz.func64, Tryz.ntmps64
  go_wp2_with fail
  go_loopw [0, 3] (fun nv sv wr => ∃ (m : Nat) (l : List UInt8), nv = .int .u64 m ∧ sv = .string ⟨l.toArray⟩ ∧ m ≤ n ∧ Hid (Lib.decDigits n = Lib.decDigits m ++ l) ∧ Hid (Below w.heap.size w wr)) (fun nv _ _ => (intOf nv).toNat)
  case atStart => exact ⟨n, [], rfl, rfl, Nat.le_refl _, by show _ = _; simp, Below.refl _ _⟩
  case round =>
    obtain ⟨m, l, rfl, rfl, hm, HD, HB⟩ := hrel
    have HN : Hid (m < 18446744073709551616) := by show _ < _; omega
    have HMN : Hid (m / 10 ≤ n) := by show _ ≤ _; omega
    clear hn hm
    have hcv : (convert 88 9 (.slice (some ⟨wr.heap.size, 0, none⟩) 1 1)).run Tryz.prog (wr.alloc (.cells #[.int .u8 (48 + (m : Int) % 10)] 5)) = .ok (.string ⟨#[UInt8.ofNat (48 + m % 10)]⟩) (wr.alloc (.cells #[.int .u8 (48 + (m : Int) % 10)] 5)) := by
      refine run_convert_bytes_back (wr.alloc (.cells #[.int .u8 (48 + (m : Int) % 10)] 5)) 88 9 5 ⟨wr.heap.size, 0, none⟩ 1 [UInt8.ofNat (48 + m % 10)] Tryz.underlying88 Tryz.underlying5 Tryz.underlying9 ?_
      intro j hj
      obtain rfl : j = 0 := by simp at hj; exact hj
      rw [show (⟨wr.heap.size, 0, none⟩ : Addr).add 0 = ⟨wr.heap.size, 0, none⟩ from rfl, cell_of_row _ _ _ _ _ _ (heap_alloc_new _ _)]
      have := ofNat_val (d := m % 10) (by omega)
      simp only [List.getElem_cons_zero, this]
      simp
    have HC2 : Hid (⟨#[UInt8.ofNat (48 + m % 10)]⟩ ++ ⟨l.toArray⟩ = (⟨(UInt8.ofNat (48 + m % 10) :: l).toArray⟩ : ByteArray)) := by
      show _ = _
      apply ByteArray.ext
      simp
    have HB2 : Hid (Below w.heap.size w (wr.alloc (.cells #[.int .u8 (48 + (m : Int) % 10)] 5))) := HB.out.alloc HB.out.size _
    have hll : (1 + l.length) ≤ 30 := by
      have h1 := congrArg List.length HD.out
      rw [List.length_append, Lib.decDigits_length] at h1
      have h2 := nDigits_le 19 n (by have := HNN.out; omega)
      omega
    have hll2 : ¬ 9223372036854775807 < 1 + l.length := by omega
    by_cases hm : m < 10
    · have hz : (m : Int) / 10 = 0 := by omega
      have HF : Hid (Lib.decDigits n = UInt8.ofNat (48 + m % 10) :: l) := by
        show _ = _
        rw [HD.out, decDigits_small hm, Nat.mod_eq_of_lt hm]; rfl
      clear hm hll
      generalize UInt8.ofNat (48 + m % 10) = c at *
      go_wp2_with fail
      go_returns
      exact ⟨by rw [HF.out, HC2.out]; rfl, HB2.out⟩
    · have hz : ¬ (m : Int) / 10 = 0 := by omega
      have hwr : IntKind.u64.wrap ((m : Int) / 10) = (m : Int) / 10 := IntWalk.u64_in _ (by have := HN.out; omega)
      have HF : Hid (Lib.decDigits n = Lib.decDigits (m / 10) ++ (UInt8.ofNat (48 + m % 10) :: l)) := by
        show _ = _
        rw [HD.out, decDigits_big hm]; simp
      have hme : Hid (m / 10 < m) := by show _ < _; omega
      clear hm hll
      generalize UInt8.ofNat (48 + m % 10) = c at *
      go_wp2_with fail
      go_roundw
      case rel => exact ⟨m / 10, _, by go_num, by rw [HC2.out], HMN.out, HF, HB2⟩
      case measure => have := hme.out; simp [intOf]; omega

/-- What Figures answers. -/
def FigR (l : List UInt8) (x : Nat) (ok : Bool) : Prop := (ok = true → l = Lib.decDigits x) ∧ ∀ k, k < 18446744073709551616 → l = Lib.decDigits k → x = k ∧ ok = true
def FigE (l : List UInt8) (e : Ending) : Prop := ∃ (x : Nat) (ok : Bool), e = .returned (.tuple #[.int .u64 (x : Nat), .bool ok]) ∧ x < 18446744073709551616 ∧ FigR l x ok
theorem figR_no {l : List UInt8} (h : ∀ k, k < 18446744073709551616 → l ≠ Lib.decDigits k) : FigR l 0 false := ⟨fun h => (by cases h), fun k hk e => absurd e (h k hk)⟩
theorem step64 (V : Nat) (d : Int) (h0 : 48 ≤ d) (h1 : d ≤ 57) (N N' : Nat) (hN : N = V % 18446744073709551616) (hN' : N' = (10 * V + (d.toNat - 48)) % 18446744073709551616) : IntKind.u64.wrap (IntKind.u64.wrap ((N : Int) * 10) + (d - 48)) = (N' : Int) := by
  simp only [IntKind.wrap_u64]
  omega
set_option linter.unusedSimpArgs false in
set_option maxRecDepth 100000 in
set_option maxHeartbeats 2000000 in
theorem figures_any (s : ByteArray) (w : World) :
    Calls Tryz.prog 48 #[.string s] w fun e w' => FigE s.data.toList e ∧ Below w.heap.size w w' := by
  have hsz : s.data.toList.length = s.size := by simp
  have hb := get_bt s
  by_cases h20 : 20 < s.size
  · have HF : Hid (FigR s.data.toList 0 false) := figR_no (fun k hk e => by
      have h1 := congrArg List.length e
      rw [Lib.decDigits_length] at h1
      have h2 := nDigits_le 19 k (by omega)
      omega)
    have x1 : (20 : Int) < (s.size : Int) := by omega
    clear h20 hsz hb
    go_enter Tryz.func48, Tryz.ntmps48
    go_wp2_with fail
    go_returns
    exact ⟨⟨0, false, rfl, by omega, HF.out⟩, Below.refl _ _⟩
  · have x1 : ¬ (20 : Int) < (s.size : Int) := by omega
    have H20 := Lib.hid h20
    clear h20
    go_enter Tryz.func48, Tryz.ntmps48
    go_wp2_with fail
    go_loop [4, 5] (fun nv iv => ∃ k N : Nat, k ≤ s.size ∧ iv = .int .i64 k ∧ nv = .int .u64 N ∧ Hid (N = valD (s.data.toList.take k) % 18446744073709551616) ∧ Hid (∀ b ∈ s.data.toList.take k, isDig b = true)) (fun _ iv => s.size - (intOf iv).toNat)
    case atStart => exact ⟨0, 0, Nat.zero_le _, rfl, rfl, rfl, fun b hb => by simp at hb⟩
    case round =>
      obtain ⟨k, N, hk, rfl, rfl, HN, hD⟩ := hrel
      by_cases hlt : k < s.size
      · have hkl : k < s.data.toList.length := by omega
        have i1 : (k : Int) < (s.size : Int) := by omega
        have i2 : (0 : Int) ≤ (k : Int) := by omega
        have hdig := isDig_bt s k hkl
        by_cases hd : 48 ≤ bt s k ∧ bt s k ≤ 57
        · have HD2 : Hid (∀ b ∈ s.data.toList.take (k + 1), isDig b = true) := by
            intro b hb'
            rw [take_snoc s k hkl, List.mem_append] at hb'
            rcases hb' with h | h
            · exact hD.out b h
            · simp only [List.mem_singleton] at h; subst h; exact hdig.2 hd
          have hv : valD (s.data.toList.take (k + 1)) = 10 * valD (s.data.toList.take k) + ((bt s k).toNat - 48) := by
            rw [take_snoc s k hkl, valD_snoc, bt_list s k hkl, Int.toNat_natCast]
          obtain ⟨N', HN'⟩ : ∃ N', Hid (N' = valD (s.data.toList.take (k + 1)) % 18446744073709551616) := ⟨_, rfl⟩
          have hst := step64 _ (bt s k) hd.1 hd.2 N N' HN.out (by rw [HN'.out, hv])
          have d1 : ¬ bt s k < 48 := by omega
          have d2 : ¬ 57 < bt s k := by omega
          have d3 : (bt s k - 48) % 256 = bt s k - 48 := by omega
          clear hv hdig hkl hd
          go_wp2_with fail
          go_round
          case rel => exact ⟨k + 1, N', by omega, by go_num, by first | rfl | rw [hst], HN', HD2⟩
          case measure => simp [intOf]; omega
        · have HF : Hid (FigR s.data.toList 0 false) := figR_no (fun j _ e => by
            have h1 : isDig s.data.toList[k] = true := decDigits_dig j _ (by rw [← e]; exact List.getElem_mem hkl)
            exact hd (hdig.1 h1))
          clear hdig hkl
          have hd2 : bt s k < 48 ∨ 57 < bt s k := by omega
          clear hd
          rcases hd2 with hd | hd
          · go_wp2_with fail
            go_returns
            exact ⟨⟨0, false, rfl, by omega, HF.out⟩, Below.refl _ _⟩
          · go_wp2_with fail
            go_returns
            exact ⟨⟨0, false, rfl, by omega, HF.out⟩, Below.refl _ _⟩
      · obtain rfl : k = s.size := by omega
        have htk : s.data.toList.take s.size = s.data.toList := by rw [← hsz]; exact List.take_length
        rw [htk] at HN
        have HNL : Hid (N < 18446744073709551616) := by show _ < _; have := HN.out; omega
        have HDG : Hid (∀ w, Calls Tryz.prog 64 #[.int .u64 N] w fun e w' => e = .returned (.string ⟨(Lib.decDigits N).toArray⟩) ∧ Below w.heap.size w w') := fun w => digits_any N w HNL.out
        have htl : s.toList = s.data.toList := ByteArray.toList_eq s
        clear htk hsz
        go_wp2_with (go_at_call 64; refine cargs (by simp [Act.eval]) ((HDG.out _).mono ?_); rintro e w1 ⟨rfl, hb1⟩)
        go_returns
        refine ⟨⟨N, Lib.decDigits N == s.data.toList, rfl, HNL.out, fun h => ?_, fun j hj e => ?_⟩, hb1⟩
        · simp only [beq_iff_eq] at h
          exact h.symm
        · have hNj : N = j := by
            have h1 := HN.out
            rw [e, valD_dec] at h1
            omega
          subst hNj
          exact ⟨rfl, by rw [e]; simp⟩
end Go.Proofs.YtmgngapkgcofnaaGreatDoor
