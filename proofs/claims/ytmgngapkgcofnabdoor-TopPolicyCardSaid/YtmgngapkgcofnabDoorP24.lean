/- addr.number: the walk. -/
import Derived.Test.YtmgngapkgcofnabDoorP23
import Derived.PlainAid
namespace Go.Proofs.YtmgngapkgcofnabDoor
open Go.RowKit Go.PlainAid

theorem bt_list (s : ByteArray) (k : Nat) (h : k < s.data.toList.length) : bt s k = (s.data.toList[k].toNat : Int) := by
  have : k < s.size := by simpa using h
  unfold bt
  rw [dif_pos this]
  rfl
theorem take_snoc (s : ByteArray) (k : Nat) (h : k < s.data.toList.length) : s.data.toList.take (k + 1) = s.data.toList.take k ++ [s.data.toList[k]] := by rw [List.take_add_one, List.getElem?_eq_getElem h]; rfl
theorem isDig_bt (s : ByteArray) (k : Nat) (h : k < s.data.toList.length) : isDig s.data.toList[k] = true ↔ 48 ≤ bt s k ∧ bt s k ≤ 57 := by
  rw [bt_list s k h]; unfold isDig; simp; omega
theorem valD_bt (s : ByteArray) (k : Nat) (h : k < s.data.toList.length) (hd : 48 ≤ bt s k) : (valD (s.data.toList.take (k + 1)) : Int) = 10 * (valD (s.data.toList.take k) : Int) + (bt s k - 48) := by
  have hb := bt_list s k h
  rw [take_snoc s k h, valD_snoc, hb]
  rw [hb] at hd
  push_cast
  omega
theorem valD_lt (l : List UInt8) (hd : ∀ b ∈ l, isDig b = true) : valD l < 10 ^ l.length := by
  obtain ⟨n, hn⟩ : ∃ n, l.length = n := ⟨_, rfl⟩
  induction n generalizing l with
  | zero => obtain rfl := List.eq_nil_of_length_eq_zero hn; simp [valD]
  | succ n ih =>
    rcases List.eq_nil_or_concat l with rfl | ⟨t, b, rfl⟩
    · simp at hn
    · rw [List.concat_eq_append] at *
      have ht : t.length = n := by rw [List.length_append] at hn; simp at hn; omega
      have := ih t (fun x hx => hd x (by simp [hx])) ht
      have hb := hd b (by simp)
      simp only [isDig, Bool.and_eq_true, decide_eq_true_eq] at hb
      rw [valD_snoc, hn, Nat.pow_succ]
      rw [ht] at this
      omega
theorem nEmpty_of (t : ByteArray) : t.toList.isEmpty = decide (t.size = 0) := by
  rw [ByteArray.toList_eq, Bool.eq_iff_iff]
  simp [← ByteArray.size_data]
/-- What number answers. -/
def NumR (l : List UInt8) (e : Ending) : Prop := match numP l with
  | some k => e = .returned (.tuple #[.int .i64 k, .bool true])
  | none => e = .returned (.tuple #[.int .i64 0, .bool false])

set_option linter.unusedSimpArgs false in
set_option maxHeartbeats 2000000 in
theorem number_any (s : ByteArray) (w : World) :
    Calls Tryd.prog 27 #[.string s] w fun e w' => NumR s.data.toList e ∧ w = w' := by
  have hsz : s.data.toList.length = s.size := by simp
  have hb := get_bt s
  by_cases h5 : 5 < s.size
  · have HF : Hid (numP s.data.toList = none) := by show _ = _; unfold numP; rw [if_pos (Or.inr (Or.inl (by omega)))]
    have x1 : (5 : Int) < (s.size : Int) := by omega
    have y1 : s.toList.isEmpty = false := by rw [nEmpty_of]; exact decide_eq_false (by omega)
    clear h5 hsz hb
    go_enter Tryd.func27, Tryd.ntmps27
    go_wp2_with fail
    go_returns
    exact ⟨by unfold NumR; rw [HF.out]; rfl, rfl⟩
  · have x1 : ¬ (5 : Int) < (s.size : Int) := by omega
    by_cases h0 : s.size = 0
    · have HF : Hid (numP s.data.toList = none) := by show _ = _; unfold numP; rw [if_pos (Or.inl (List.eq_nil_of_length_eq_zero (by omega)))]
      have y1 : s.toList.isEmpty = true := by rw [nEmpty_of]; exact decide_eq_true h0
      clear h5 hsz hb h0
      go_enter Tryd.func27, Tryd.ntmps27
      go_wp2_with fail
      go_returns
      exact ⟨by unfold NumR; rw [HF.out]; rfl, rfl⟩
    · have y1 : s.toList.isEmpty = false := by rw [nEmpty_of]; exact decide_eq_false h0
      have hp : 0 < s.size := by omega
      have hl0 : 0 < s.data.toList.length := by omega
      have hb0 := bt_list s 0 hl0
      have hcons : ∃ r, s.data.toList = s.data.toList[0] :: r := ⟨s.data.toList.tail, by
        rw [List.getElem_zero]; exact (List.cons_head_tail _).symm⟩
      have htl : s.toList = s.data.toList := ByteArray.toList_eq s
      by_cases hz : bt s 0 = 48 ∧ s.data.toList ≠ [48]
      · have HF : Hid (numP s.data.toList = none) := by
          have hh : s.data.toList.head? = some 48 := by
            obtain ⟨r, hr⟩ := hcons
            rw [hr, List.head?_cons]
            have h1 := hz.1
            rw [hb0] at h1
            congr 1
            exact UInt8.toNat_inj.1 (by show _ = 48; omega)
          show _ = _; unfold numP; exact if_pos (Or.inr (Or.inr (Or.inl ⟨hh, hz.2⟩)))
        have z1 := hz.1
        have z2 : (s.toList == [48]) = false := by rw [htl]; simpa using hz.2
        clear h5 hsz h0 hl0 hb0 hcons htl hz
        go_enter Tryd.func27, Tryd.ntmps27
        go_wp2_with fail
        go_returns
        exact ⟨by unfold NumR; rw [HF.out]; rfl, rfl⟩
      · have HN : Hid (∀ b, numP s.data.toList = b ↔ (if s.data.toList.all isDig = false then none else some (valD s.data.toList)) = b) := fun b => by
          unfold numP
          have e : (s.data.toList = [] ∨ 5 < s.data.toList.length ∨ (s.data.toList.head? = some 48 ∧ s.data.toList ≠ [48]) ∨ s.data.toList.all isDig = false) ↔ s.data.toList.all isDig = false := by
            refine ⟨fun h => ?_, fun h => Or.inr (Or.inr (Or.inr h))⟩
            rcases h with h | h | h | h
            · rw [h] at hl0; simp at hl0
            · omega
            · exfalso
              refine hz ⟨?_, h.2⟩
              obtain ⟨r, hr⟩ := hcons
              have h1 := h.1
              rw [hr, List.head?_cons] at h1
              rw [hb0, Option.some.inj h1]; rfl
            · exact h
          simp only [e]
        have HZ : Hid (bt s 0 = 48 → (s.toList == [48]) = false → False) := fun h1 h2 => hz ⟨h1, by rw [htl] at h2; simpa using h2⟩
        have H5 : Hid (s.size ≤ 5) := by show s.size ≤ 5; omega
        clear hz hcons htl hb0 hl0 h5 h0
        go_enter Tryd.func27, Tryd.ntmps27
        go_wp2_with fail
        all_goals first
          | (exfalso; rename_i q1 q2; exact HZ.out q1 (by simpa using q2))
          | skip
        all_goals
          go_loop [4, 24] (fun nv iv => ∃ k : Nat, k ≤ s.size ∧ iv = .int .i64 k ∧ nv = .int .i64 (valD (s.data.toList.take k)) ∧ Hid (∀ b ∈ s.data.toList.take k, isDig b = true)) (fun _ iv => s.size - (intOf iv).toNat)
          case atStart => exact ⟨0, Nat.zero_le _, rfl, rfl, fun b hb => by simp at hb⟩
          case round =>
            obtain ⟨k, hk, rfl, rfl, hD⟩ := hrel
            by_cases hlt : k < s.size
            · have hkl : k < s.data.toList.length := by omega
              have i1 : (k : Int) < (s.size : Int) := by omega
              have i2 : (0 : Int) ≤ (k : Int) := by omega
              have hdig := isDig_bt s k hkl
              by_cases hd : 48 ≤ bt s k ∧ bt s k ≤ 57
              · have hv := valD_bt s k hkl hd.1
                have hv2 := valD_lt _ hD.out
                have hv3 : 10 ^ (s.data.toList.take k).length ≤ 10 ^ 4 := Nat.pow_le_pow_right (by omega) (by rw [List.length_take]; have := H5.out; omega)
                have HD2 : Hid (∀ b ∈ s.data.toList.take (k + 1), isDig b = true) := by
                  intro b hb'
                  rw [take_snoc s k hkl, List.mem_append] at hb'
                  rcases hb' with h | h
                  · exact hD.out b h
                  · simp only [List.mem_singleton] at h; subst h; exact hdig.2 hd
                have d1 : ¬ bt s k < 48 := by omega
                have d2 : ¬ 57 < bt s k := by omega
                generalize valD (s.data.toList.take k) = V at *
                have hV : (V : Int) < 10000 := by omega
                have HV := Lib.hid hv
                clear hv hv2 hv3 hdig hkl
                go_wp2_with fail
                go_round
                case rel => exact ⟨k + 1, by omega, by go_num, by rw [HV.out]; try go_num, HD2⟩
                case measure => simp [intOf]; omega
              · have HF : Hid (numP s.data.toList = none) := (HN.out _).2 (by
                  rw [if_pos]
                  rw [Bool.eq_false_iff]
                  intro h
                  rw [List.all_eq_true] at h
                  exact hd (hdig.1 (h _ (List.getElem_mem hkl))))
                clear hdig hkl
                have hd2 : bt s k < 48 ∨ 57 < bt s k := by omega
                clear hd
                rcases hd2 with hd | hd
                · go_wp2_with fail
                  go_returns
                  exact ⟨by unfold NumR; rw [HF.out]; rfl, rfl⟩
                · go_wp2_with fail
                  go_returns
                  exact ⟨by unfold NumR; rw [HF.out]; rfl, rfl⟩
            · obtain rfl : k = s.size := by omega
              have htk : s.data.toList.take s.size = s.data.toList := by rw [← hsz]; exact List.take_length
              rw [htk] at hD
              have HF : Hid (numP s.data.toList = some (valD s.data.toList)) := (HN.out _).2 (if_neg (by rw [Bool.not_eq_false, List.all_eq_true]; exact hD.out))
              rw [htk]
              go_wp2_with fail
              go_returns
              exact ⟨by unfold NumR; rw [HF.out]; rfl, rfl⟩
end Go.Proofs.YtmgngapkgcofnabDoor
