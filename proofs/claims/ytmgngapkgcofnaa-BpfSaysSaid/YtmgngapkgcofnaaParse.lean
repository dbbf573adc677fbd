/- bpf.Parse: what it reads out of bytes. -/
import Derived.Test.YtmgngapkgcofnaaIns
namespace Go.Proofs.Ytmgngapkgcofnaa
open Go.RowKit Go.PlainAid

set_option maxRecDepth 100000 in
set_option maxHeartbeats 1000000 in
theorem parse_loop (s : ByteArray) (w : World) (h0 : s.size % 8 = 0) (h1 : s.size ≤ 32768) :
    Calls Try.prog 12 #[.string s] w fun e w' => ParseR s e w' ∧ Below w.heap.size w w' := by
  have HP : Hid (parseF s = if clean s (s.size / 8) then (if checkF (insList s (s.size / 8)) = 0 then some (insList s (s.size / 8)) else none) else none) := by
    show parseF s = _
    unfold parseF; rw [if_neg (by omega)]
  obtain ⟨i0, hi, hz0, hz1, hz2⟩ := info_parts insInfo
  obtain ⟨n, hn, hn2⟩ : ∃ n, 8 * n ≤ s.size ∧ s.size ≤ 8 * n := ⟨s.size / 8, by omega⟩
  clear h0
  have t0 : decide (0 < ((s.size : Int) % 8)) = false := by simp; omega
  have t1 : decide (32768 < (s.size : Int)) = false := by simp; omega
  have hnn : ((s.size : Int) / 8) = (n : Int) := by omega
  go_enter Try.func12, Try.ntmps12
  go_wp2
  go_loopw [4, 21] (fun v i wr => ∃ k : Nat, k ≤ n ∧ i = .int .i64 k ∧ Below w.heap.size w wr ∧ wr.ownsRow w.heap.size 42 4 v k (flat (insList s k)) ∧ Hid (clean s k)) (fun _ i _ => n - (intOf i).toNat)
  case atStart => exact ⟨0, Nat.zero_le _, rfl, Below.refl _ _, World.ownsRow_nil _ _ _ _, by intro j hj; omega⟩
  case round =>
    obtain ⟨k, hk, rfl, hb, hown, HC⟩ := hrel
    by_cases hlt : k < n
    · have hk2 : 8 * k + 8 ≤ s.size := by omega
      have h8 : min (8 * k + 8) s.size - 8 * k = 8 := by omega
      have gx := get_bt (s.extract (8 * k) (8 * k + 8))
      have B0 := bt_nonneg (s.extract (8 * k) (8 * k + 8)) 4
      by_cases hz : bt s (8 * k + 1) = 0
      · have hz' : (bt (s.extract (8 * k) (8 * k + 8)) 1 != 0) = false := by rw [bt_extract s (by omega) hk2, hz]; rfl
        have HZ := Lib.hid hz
        clear hz
        go_wp2_with fail
        go_quiet (fail)
        go_wp2_with fail
        rw [or32 (bt_nonneg _ _) (bt_le _ _) (bt_nonneg _ _) (bt_le _ _) (bt_nonneg _ _) (bt_le _ _) (bt_nonneg _ _) (bt_le _ _)]
        have c0 := bt_nonneg (s.extract (8 * k) (8 * k + 8)) 0
        have c1 := bt_le (s.extract (8 * k) (8 * k + 8)) 0
        have c2 := bt_nonneg (s.extract (8 * k) (8 * k + 8)) 2
        have c3 := bt_le (s.extract (8 * k) (8 * k + 8)) 2
        have c4 := bt_nonneg (s.extract (8 * k) (8 * k + 8)) 3
        have c5 := bt_le (s.extract (8 * k) (8 * k + 8)) 3
        obtain ⟨K, HK⟩ : ∃ K, Hid (bt (s.extract (8 * k) (8 * k + 8)) 4 + 256 * bt (s.extract (8 * k) (8 * k + 8)) 5 + 65536 * bt (s.extract (8 * k) (8 * k + 8)) 6 + 16777216 * bt (s.extract (8 * k) (8 * k + 8)) 7 = K) := ⟨_, rfl⟩
        rw [show bt (s.extract (8 * k) (8 * k + 8)) 4 + 256 * bt (s.extract (8 * k) (8 * k + 8)) 5 + 65536 * bt (s.extract (8 * k) (8 * k + 8)) 6 + 16777216 * bt (s.extract (8 * k) (8 * k + 8)) 7 = K from HK.out]
        have HO : Hid ((wr.drewN nq).drew.ownsRow w.heap.size 42 4 u4 k (flat (insList s k))) := hown
        clear hown
        have hbs := hb.size
        have E0 := Lib.hid (IntWalk.i64_in (bt (s.extract (8 * k) (8 * k + 8)) 0) (by omega))
        have E2 := Lib.hid (IntWalk.i64_in (bt (s.extract (8 * k) (8 * k + 8)) 2) (by omega))
        have E3 := Lib.hid (IntWalk.i64_in (bt (s.extract (8 * k) (8 * k + 8)) 3) (by omega))
        go_region_law (refine step_append_lies _ rfl (.tmp 53) (.tmp 65) _ rfl w.heap.size 42 i0 _ 4 32 Try.underlying23 hi hz0 hz1 hz2 rfl (by omega) u4 k (flat (insList s k)) (by simp [Act.eval]) (HO.out.alloc _) ⟨wr.heap.size, 0, none⟩ 1 1 [.int .i64 (bt (s.extract (8 * k) (8 * k + 8)) 0), .int .i64 (bt (s.extract (8 * k) (8 * k + 8)) 2), .int .i64 (bt (s.extract (8 * k) (8 * k + 8)) 3), .int .u32 K] (by simp [Act.eval]) rfl (ins_cells _ _ _ _ _ _ _ (heap_alloc_new _ _) (by simp only [E0.out, E2.out, E3.out])) (by simp [Value.oneCell']) (by omega) (by unfold maxLen; omega) (by omega) (by simp; omega) _ rfl ?_; intro g cap w' hown' hgrow hat hlt2)
        all_goals
          have hb2 : Below w.heap.size w w' := Below.grown ((below_drewN hb _).alloc (by simpa using hbs) _) hgrow (by simp; omega) (own_ge HO.out)
          rw [ins_step hk2 HK.out] at hown'
          have HC2 : Hid (clean s (k + 1)) := by
            intro j hj
            rcases Nat.lt_succ_iff_lt_or_eq.1 hj with h | rfl
            · exact HC.out j h
            · exact HZ.out
          clear HO hgrow hat E0 E2 E3 HK gx hb HC HZ hz'
          go_wp2
          go_roundw
          case rel => exact ⟨k + 1, by omega, by go_num, hb2, hown', HC2⟩
          case measure => simp [intOf]; omega
      · have hz' : (bt (s.extract (8 * k) (8 * k + 8)) 1 != 0) = true := by rw [bt_extract s (by omega) hk2]; exact bne_iff_ne.2 hz
        have HF : Hid (parseF s = none) := by
          show parseF s = none
          rw [HP.out, if_neg]
          intro hcl
          exact hz (hcl k (by omega))
        clear hz hown HC
        go_wp2
        go_ret2
        exact ⟨ParseR.no HF.out rfl, hb⟩
    · obtain rfl : k = n := by omega
      have hnd : s.size / 8 = k := by omega
      have HP2 : Hid (parseF s = if checkF (insList s k) = 0 then some (insList s k) else none) := by
        show parseF s = _
        rw [HP.out, hnd, if_pos HC.out]
      have hsl := insSl_of_own (l := insList s k) (by rw [insList_length]; exact hown) (insList_ok s k)
      have hll : (insList s k).length ≤ 140737488355328 := by rw [insList_length]; omega
      have HS := Lib.hid hsl
      clear hnd hown HC HP hsl
      by_cases hc : checkF (insList s k) = 0
      · have HE := Lib.hid hc
        have HF : Hid (parseF s = some (insList s k)) := by show _ = _; rw [HP2.out, if_pos hc]
        clear hc HP2
        go_wp2_with (go_at_call 26; refine (check_any _ _ _ HS.out hll).mono ?_; rintro e w' ⟨rfl, hb'⟩; rw [HE.out, errV_zero])
        go_ret2
        exact ⟨ParseR.yes HF.out rfl ((HS.out.below hb').mono hb'.size), below_then hb (Nat.le_refl _) hb'⟩
      · have HE := Lib.hid hc
        have HF : Hid (parseF s = none) := by show _ = _; rw [HP2.out, if_neg hc]
        clear hc HP2
        go_wp2_with (go_at_call 26; refine (check_any _ _ _ HS.out hll).mono ?_; rintro e w' ⟨rfl, hb'⟩; rw [errV_pos HE.out])
        go_ret2
        exact ⟨ParseR.no HF.out rfl, below_then hb (Nat.le_refl _) hb'⟩

end Go.Proofs.Ytmgngapkgcofnaa
