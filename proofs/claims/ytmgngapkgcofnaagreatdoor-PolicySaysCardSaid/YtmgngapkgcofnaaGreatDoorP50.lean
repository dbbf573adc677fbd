/- The reference's PolicyFault: the walk. -/
import Derived.Test.YtmgngapkgcofnaaGreatDoorP17
import Derived.Test.YtmgngapkgcofnaaGreatDoorP49
namespace Go.Proofs.YtmgngapkgcofnaaGreatDoor
open Go.RowKit

set_option linter.unusedSimpArgs false in
set_option maxRecDepth 100000 in
set_option maxHeartbeats 4000000 in
theorem polFault_any (v : Value) (p : PolD) (w : World) (h : PolAt w w.heap.size v p) (hg : ∀ r ∈ p.rules, ∀ c ∈ r.conds, c.glob.size ≤ 100000) (hl : p.rules.length ≤ 100000) (hcl : ∀ r ∈ p.rules, r.conds.length ≤ 100000) :
    Calls Tryz.prog 13 #[v] w fun e w' => e = .returned (.int .i64 (polF p)) ∧ Below w.heap.size w w' := by
  obtain ⟨A, cp, rfl, hr⟩ := h
  obtain ⟨A1, cp1, hA, hr⟩ := hr
  obtain ⟨rfl, rfl⟩ : A = A1 ∧ cp = cp1 := by simpa using hA
  clear hA
  obtain ⟨rules, pk, pe⟩ := p
  simp only at hr hg hl hcl ⊢
  have HR := Lib.hid hr
  have HG := Lib.hid hg
  have HCL := Lib.hid hcl
  clear hr hg hcl
  have HAC : Hid (∀ k e (w : World), Calls Tryz.prog 28 #[.agg #[.int .i64 k, .int .i64 e]] w fun e' w' => e' = .returned (.int .i64 (actF k e)) ∧ Below w.heap.size w w') := fun k e w => actionFault_any k e w
  by_cases h12 : 12 < rules.length
  · have HF : Hid (polF ⟨rules, pk, pe⟩ = 2) := by show _ = _; unfold polF; rw [if_pos h12]
    have x1 : (12 : Int) < (rules.length : Int) := by omega
    clear h12
    go_enter Tryz.func13, Tryz.ntmps13
    go_wp2_with fail
    go_ret
    exact ⟨by rw [HF.out]; rfl, by go_grown⟩
  · have x1 : ¬ (12 : Int) < (rules.length : Int) := by omega
    by_cases ha : actF pk pe = 0
    · have HF0 : Hid (polF ⟨rules, pk, pe⟩ = firstNZ ruleF rules) := by show _ = _; unfold polF; rw [if_neg h12, if_neg (fun k => k ha)]
      have HA0 : Hid (∀ w : World, Calls Tryz.prog 28 #[.agg #[.int .i64 pk, .int .i64 pe]] w fun e' w' => e' = .returned (.int .i64 0) ∧ Below w.heap.size w w') := fun w => by
        have := HAC.out pk pe w
        rw [ha] at this; exact this
      have HC3 := Lib.hid (cell3 w (.slice A rules.length cp) (.int .i64 pk) (.int .i64 pe) 27)
      have HAB := Lib.hid (above w (.cells #[.slice A rules.length cp, .int .i64 pk, .int .i64 pe] 27))
      clear ha h12
      go_enter Tryz.func13, Tryz.ntmps13
      go_upto_region 6 with (go_at_call 28; refine cargs (by simp [Act.eval]) ((HA0.out _).mono ?_); rintro e w1 ⟨rfl, hb1⟩; have HB1 := Lib.hid hb1; clear hb1)
      have hw0 : w.heap.size < (w.alloc (.cells #[.slice A rules.length cp, .int .i64 pk, .int .i64 pe] 27)).heap.size := by simp
      generalize w.alloc (.cells #[.slice A rules.length cp, .int .i64 pk, .int .i64 pe] 27) = W0 at *
      go_wp2_with fail
      go_loopw [4] (fun iv wr => ∃ i : Nat, i ≤ rules.length ∧ iv = .int .i64 i ∧ Hid (∀ (j : Nat) y, j < i → rules[j]? = some y → ruleF y = 0) ∧ Hid (Below W0.heap.size W0 wr)) (fun iv _ => rules.length - (intOf iv).toNat)
      case atStart => exact ⟨0, Nat.zero_le _, rfl, fun j y hj _ => absurd hj (Nat.not_lt_zero j), HB1⟩
      case round =>
        obtain ⟨i, hi, rfl, hZ, hB0⟩ := hrel
        have hBw : Hid (Below w.heap.size w wr) := HAB.out wr hB0.out
        obtain ⟨p0, p1, p2⟩ := HC3.out wr hB0.out
        by_cases hlt : i < rules.length
        · have x2 : (i : Int) < (rules.length : Int) := by omega
          have x3 : (0 : Int) ≤ (i : Int) := by omega
          have hli : rules[i]? = some rules[i] := by simp
          obtain ⟨b, o, rfl, hb, hrow⟩ := HR.out.resolve_left (by intro e; rw [e] at hlt; simp at hlt)
          obtain ⟨A', c', hcs, hrg⟩ := hrow i _ hli
          have hrg2 := rangeAt_below hrg hBw.out hb
          have hcs2 := hcs.below hBw.out (Nat.le_refl _)
          have HN : Hid (ruleF rules[i] ≠ 0 → firstNZ ruleF rules = ruleF rules[i]) := fun h1 => firstNZ_at ruleF rules i rules[i] hli h1 hZ.out
          have HG2 : Hid (∀ c ∈ rules[i].conds, c.glob.size ≤ 100000) := fun c hc => HG.out rules[i] (by simp) c hc
          have hcl2 := HCL.out rules[i] (by simp)
          have HZ2 : Hid (ruleF rules[i] = 0 → ∀ (j : Nat) y, j < i + 1 → rules[j]? = some y → ruleF y = 0) := fun h0 j y hj hy => by
            by_cases e : j = i
            · subst e; rw [hli] at hy; obtain rfl := Option.some.inj hy; exact h0
            · exact hZ.out j y (by omega) hy
          clear hrg hcs hrow hli hZ
          generalize rules[i] = R at *
          obtain ⟨nr, conds, rk, re⟩ := R
          simp only at hrg2 hcs2 hcl2 HG2
          have f0 : wr.cell? ⟨b, o + i * 4, none⟩ = some (.int .i64 nr) := hrg2 0 _ rfl
          have f1 := hrg2 1 _ rfl
          have f2 := hrg2 2 _ rfl
          have f3 := hrg2 3 _ rfl
          clear hrg2
          have HCS := Lib.hid hcs2
          clear hcs2
          have HC4 := Lib.hid (cell4 wr (.int .i64 nr) (.slice A' conds.length c') (.int .i64 rk) (.int .i64 re) 73)
          have HAB4 := Lib.hid (above wr (.cells #[.int .i64 nr, .slice A' conds.length c', .int .i64 rk, .int .i64 re] 73))
          obtain ⟨GB, hGB⟩ : ∃ g, g = wr.heap.size := ⟨_, rfl⟩
          have hsz1 : wr.heap.size < (wr.alloc (.cells #[.int .i64 nr, .slice A' conds.length c', .int .i64 rk, .int .i64 re] 73)).heap.size := by simp
          go_upto_region 10 with fail
          rw [← hGB] at HC4 hsz1 ⊢
          have HGB := Lib.hid hGB
          clear hGB
          generalize wr.alloc (.cells #[.int .i64 nr, .slice A' conds.length c', .int .i64 rk, .int .i64 re] 73) = W1 at *
          obtain ⟨g0, g1, g2, g3⟩ := HC4.out W1 (Below.refl _ _)
          have HB4 := Lib.hid (HAB4.out W1 (Below.refl _ _))
          have HBW1 : Hid (Below W0.heap.size W0 W1) := hB0.out.trans (HB4.out.mono hB0.out.size)
          clear f0 f1 f2 f3 HAB4
          by_cases n0 : nr < 0
          · have hrf : ruleF ⟨nr, conds, rk, re⟩ = 1 := by unfold ruleF; rw [if_pos (Or.inl n0)]
            have HFE : Hid (polF ⟨rules, pk, pe⟩ = 1) := by show _ = _; rw [HF0.out, HN.out (by rw [hrf]; omega), hrf]
            clear hrf
            go_wp2_with fail
            go_ret
            exact ⟨by rw [HFE.out]; rfl, HAB.out _ HBW1.out⟩
          · by_cases n8 : 8 < nr
            · have hrf : ruleF ⟨nr, conds, rk, re⟩ = 1 := by unfold ruleF; rw [if_pos (Or.inr (by simp only; omega))]
              have HFE : Hid (polF ⟨rules, pk, pe⟩ = 1) := by show _ = _; rw [HF0.out, HN.out (by rw [hrf]; omega), hrf]
              clear hrf
              go_wp2_with fail
              go_ret
              exact ⟨by rw [HFE.out]; rfl, HAB.out _ HBW1.out⟩
            · have hnr : ¬ (nr < 0 ∨ 8 < nr) := by omega
              by_cases c4 : 4 < conds.length
              · have y1 : (4 : Int) < (conds.length : Int) := by omega
                have hrf : ruleF ⟨nr, conds, rk, re⟩ = 2 := by unfold ruleF; rw [if_neg hnr, if_pos c4]
                have HFE : Hid (polF ⟨rules, pk, pe⟩ = 2) := by show _ = _; rw [HF0.out, HN.out (by rw [hrf]; omega), hrf]
                clear hrf
                clear c4
                go_wp2_with fail
                go_ret
                exact ⟨by rw [HFE.out]; rfl, HAB.out _ HBW1.out⟩
              · have y1 : ¬ (4 : Int) < (conds.length : Int) := by omega
                obtain ⟨n, rfl⟩ : ∃ n : Nat, nr = n := ⟨nr.toNat, by omega⟩
                have hn9 : n < 9 := by omega
                have hrf : ruleF ⟨(n : Int), conds, rk, re⟩ = if firstNZ (condF n) conds ≠ 0 then firstNZ (condF n) conds else actF rk re := by unfold ruleF; rw [if_neg hnr, if_neg c4]; simp
                have HRF := Lib.hid hrf
                clear hrf hnr c4 n0 n8
                go_wp2_with fail
                go_loopw [6] (fun kv wr => ∃ k : Nat, k ≤ conds.length ∧ kv = .int .i64 k ∧ Hid (∀ (j : Nat) y, j < k → conds[j]? = some y → condF n y = 0) ∧ Hid (Below W1.heap.size W1 wr)) (fun kv _ => conds.length - (intOf kv).toNat)
                case atStart => exact ⟨0, Nat.zero_le _, rfl, fun j y hj _ => absurd hj (Nat.not_lt_zero j), Below.refl _ _⟩
                case round =>
                  obtain ⟨k, hk, rfl, hZk, hB2⟩ := hrel
                  have HBW2 : Hid (Below W0.heap.size W0 wr) := HBW1.out.trans (hB2.out.mono HBW1.out.size)
                  obtain ⟨r0, r1, r2, r3⟩ := HC4.out wr hB2.out
                  by_cases hkl : k < conds.length
                  · have y2 : (k : Int) < (conds.length : Int) := by omega
                    have y3 : (0 : Int) ≤ (k : Int) := by omega
                    have hlk : conds[k]? = some conds[k] := by simp
                    have hcs3 := (HCS.out.below (HB4.out) (by have := hBw.out.size; omega)).below hB2.out (by have := HBW1.out.size; omega)
                    obtain ⟨hcok, A2, c2, hA2, hrw⟩ := hcs3
                    obtain ⟨rfl, rfl⟩ : A' = A2 ∧ c' = c2 := by simpa using hA2
                    obtain ⟨b2, o2, rfl, hb2, hrow2⟩ := hrw.resolve_left (by intro e; rw [e] at hkl; simp at hkl)
                    have hr9 := hrow2 k _ hlk
                    have HNk : Hid (condF n conds[k] ≠ 0 → firstNZ (condF n) conds = condF n conds[k]) := fun h1 => firstNZ_at (condF n) conds k conds[k] hlk h1 hZk.out
                    have HZ3 : Hid (condF n conds[k] = 0 → ∀ (j : Nat) y, j < k + 1 → conds[j]? = some y → condF n y = 0) := fun h0 j y hj hy => by
                      by_cases e : j = k
                      · subst e; rw [hlk] at hy; obtain rfl := Option.some.inj hy; exact h0
                      · exact hZk.out j y (by omega) hy
                    have HCC : Hid (∀ W : World, Calls Tryz.prog 29 #[.int .i64 n, conds[k].val] W fun e w' => e = .returned (.int .i64 (condF n conds[k])) ∧ Below W.heap.size W w') := fun W => condFault_any n conds[k] W hn9 (hcok _ (by simp)) (HG2.out _ (by simp))
                    clear hcok hA2 hrw hrow2 hlk hZk
                    generalize conds[k] = CC at *
                    obtain ⟨arg, op, v, m, glob, ⟨ip, bits, lo, hi⟩⟩ := CC
                    have e0 : wr.cell? ⟨b2, o2 + k * 9, none⟩ = some (.int .i64 arg) := hr9 0 _ rfl
                    have e1 := hr9 1 _ rfl
                    have e2 := hr9 2 _ rfl
                    have e3 := hr9 3 _ rfl
                    have e4 := hr9 4 _ rfl
                    have e5 := hr9 5 _ rfl
                    have e6 := hr9 6 _ rfl
                    have e7 := hr9 7 _ rfl
                    have e8 := hr9 8 _ rfl
                    simp only at e1 e2 e3 e4 e5 e6 e7 e8
                    have HC9 := Lib.hid (cell9 wr (.int .i64 arg) (.int .i64 op) (.int .u64 v) (.int .u64 m) (.string glob) (.int .u32 ip) (.int .i64 bits) (.int .i64 lo) (.int .i64 hi) 84)
                    have HAB9 := Lib.hid (above wr (.cells #[.int .i64 arg, .int .i64 op, .int .u64 v, .int .u64 m, .string glob, .int .u32 ip, .int .i64 bits, .int .i64 lo, .int .i64 hi] 84))
                    unfold CondD.val at HCC
                    simp only at HCC
                    clear hr9
                    have HS : Hid (∀ W' : World, Below wr.heap.size wr W' → W'.cell? ⟨GB, 0, none⟩ = some (.int .i64 (n : Int)) ∧ W'.cell? ⟨GB, 1, none⟩ = some (.slice (some ⟨b2, o2, none⟩) conds.length c') ∧ W'.cell? ⟨b2, o2 + k * 9, none⟩ = some (.int .i64 arg) ∧ W'.cell? ⟨b2, o2 + k * 9 + 1, none⟩ = some (.int .i64 op) ∧ W'.cell? ⟨b2, o2 + k * 9 + 2, none⟩ = some (.int .u64 v) ∧ W'.cell? ⟨b2, o2 + k * 9 + 3, none⟩ = some (.int .u64 m) ∧ W'.cell? ⟨b2, o2 + k * 9 + 4, none⟩ = some (.string glob) ∧ W'.cell? ⟨b2, o2 + k * 9 + 5, none⟩ = some (.int .u32 ip) ∧ W'.cell? ⟨b2, o2 + k * 9 + 6, none⟩ = some (.int .i64 bits) ∧ W'.cell? ⟨b2, o2 + k * 9 + 7, none⟩ = some (.int .i64 lo) ∧ W'.cell? ⟨b2, o2 + k * 9 + 8, none⟩ = some (.int .i64 hi)) := fun W' h => by
                      obtain ⟨q0, q1, _, _⟩ := HC4.out W' (hB2.out.trans (h.mono hB2.out.size))
                      have hlt9 : b2 < wr.heap.size := by have := HBW2.out.size; omega
                      exact ⟨q0, q1, (h.cell (p := ⟨b2, _, none⟩) hlt9).trans e0, (h.cell (p := ⟨b2, _, none⟩) hlt9).trans e1, (h.cell (p := ⟨b2, _, none⟩) hlt9).trans e2, (h.cell (p := ⟨b2, _, none⟩) hlt9).trans e3, (h.cell (p := ⟨b2, _, none⟩) hlt9).trans e4, (h.cell (p := ⟨b2, _, none⟩) hlt9).trans e5, (h.cell (p := ⟨b2, _, none⟩) hlt9).trans e6, (h.cell (p := ⟨b2, _, none⟩) hlt9).trans e7, (h.cell (p := ⟨b2, _, none⟩) hlt9).trans e8⟩
                    clear HAB9 HC9
                    by_cases hz : condF n ⟨arg, op, v, m, glob, ⟨ip, bits, lo, hi⟩⟩ = 0
                    · have HZ4 := Lib.hid (HZ3.out hz)
                      rw [hz] at HCC
                      clear hz HNk HZ3
                      have HCC2 : Hid (∀ W : World, Calls Tryz.prog 29 #[.int .i64 n, .agg #[.int .i64 arg, .int .i64 op, .int .u64 v, .int .u64 m, .string glob, .int .u32 ip, .int .i64 bits, .int .i64 lo, .int .i64 hi]] W fun e w' => e = .returned (.int .i64 0) ∧ Below W.heap.size W w') := HCC.out
                      clear HCC
                      go_upto_region 17 with fail
                      go_region_held3 (fun W' : World => W'.cell? ⟨GB, 0, none⟩ = some (.int .i64 (n : Int)) ∧ W'.cell? ⟨GB, 1, none⟩ = some (.slice (some ⟨b2, o2, none⟩) conds.length c') ∧ W'.cell? ⟨b2, o2 + k * 9, none⟩ = some (.int .i64 arg) ∧ W'.cell? ⟨b2, o2 + k * 9 + 1, none⟩ = some (.int .i64 op) ∧ W'.cell? ⟨b2, o2 + k * 9 + 2, none⟩ = some (.int .u64 v) ∧ W'.cell? ⟨b2, o2 + k * 9 + 3, none⟩ = some (.int .u64 m) ∧ W'.cell? ⟨b2, o2 + k * 9 + 4, none⟩ = some (.string glob) ∧ W'.cell? ⟨b2, o2 + k * 9 + 5, none⟩ = some (.int .u32 ip) ∧ W'.cell? ⟨b2, o2 + k * 9 + 6, none⟩ = some (.int .i64 bits) ∧ W'.cell? ⟨b2, o2 + k * 9 + 7, none⟩ = some (.int .i64 lo) ∧ W'.cell? ⟨b2, o2 + k * 9 + 8, none⟩ = some (.int .i64 hi)) (first | exact HS.out _ ⟨rfl, rfl, rfl, Nat.le_refl _, fun _ _ => rfl⟩ | exact HS.out _ ⟨hb4.os, hb4.tape, hb4.output, hb4.size, hb4.block⟩) (first
                        | (go_at_call 29; refine cargs (by simp [Act.eval]) ((HCC2.out _).mono ?_); rintro e w4 ⟨rfl, hb4⟩))
                      have HB4' : Hid (Below wr.heap.size wr w4) := ⟨hb4.os, hb4.tape, hb4.output, hb4.size, hb4.block⟩
                      clear hb4
                      go_wp2_with fail
                      go_roundw
                      case rel => exact ⟨k + 1, by omega, by go_num, HZ4, hB2.out.trans (HB4'.out.mono hB2.out.size)⟩
                      case measure => simp [intOf]; omega
                    · have hrf : ruleF ⟨(n : Int), conds, rk, re⟩ = condF n ⟨arg, op, v, m, glob, ⟨ip, bits, lo, hi⟩⟩ := by rw [HRF.out, HNk.out hz, if_pos hz]
                      have HFE : Hid (polF ⟨rules, pk, pe⟩ = (condF n ⟨arg, op, v, m, glob, ⟨ip, bits, lo, hi⟩⟩)) := by show _ = _; rw [HF0.out, HN.out (by rw [hrf]; exact hz), hrf]
                      skip
                      have hcp : 0 < condF n ⟨arg, op, v, m, glob, ⟨ip, bits, lo, hi⟩⟩ := by have := condF_ge n ⟨arg, op, v, m, glob, ⟨ip, bits, lo, hi⟩⟩; omega
                      clear hz HNk HZ3 hrf
                      generalize condF n ⟨arg, op, v, m, glob, ⟨ip, bits, lo, hi⟩⟩ = cf at *
                      have HCC2 : Hid (∀ W : World, Calls Tryz.prog 29 #[.int .i64 n, .agg #[.int .i64 arg, .int .i64 op, .int .u64 v, .int .u64 m, .string glob, .int .u32 ip, .int .i64 bits, .int .i64 lo, .int .i64 hi]] W fun e w' => e = .returned (.int .i64 cf) ∧ Below W.heap.size W w') := HCC.out
                      clear HCC
                      go_upto_region 17 with fail
                      go_region_held3 (fun W' : World => W'.cell? ⟨GB, 0, none⟩ = some (.int .i64 (n : Int)) ∧ W'.cell? ⟨GB, 1, none⟩ = some (.slice (some ⟨b2, o2, none⟩) conds.length c') ∧ W'.cell? ⟨b2, o2 + k * 9, none⟩ = some (.int .i64 arg) ∧ W'.cell? ⟨b2, o2 + k * 9 + 1, none⟩ = some (.int .i64 op) ∧ W'.cell? ⟨b2, o2 + k * 9 + 2, none⟩ = some (.int .u64 v) ∧ W'.cell? ⟨b2, o2 + k * 9 + 3, none⟩ = some (.int .u64 m) ∧ W'.cell? ⟨b2, o2 + k * 9 + 4, none⟩ = some (.string glob) ∧ W'.cell? ⟨b2, o2 + k * 9 + 5, none⟩ = some (.int .u32 ip) ∧ W'.cell? ⟨b2, o2 + k * 9 + 6, none⟩ = some (.int .i64 bits) ∧ W'.cell? ⟨b2, o2 + k * 9 + 7, none⟩ = some (.int .i64 lo) ∧ W'.cell? ⟨b2, o2 + k * 9 + 8, none⟩ = some (.int .i64 hi)) (first | exact HS.out _ ⟨rfl, rfl, rfl, Nat.le_refl _, fun _ _ => rfl⟩ | exact HS.out _ ⟨hb4.os, hb4.tape, hb4.output, hb4.size, hb4.block⟩) (first
                        | (go_at_call 29; refine cargs (by simp [Act.eval]) ((HCC2.out _).mono ?_); rintro e w4 ⟨rfl, hb4⟩))
                      have HB4' : Hid (Below wr.heap.size wr w4) := ⟨hb4.os, hb4.tape, hb4.output, hb4.size, hb4.block⟩
                      clear hb4
                      go_wp2_with fail
                      go_ret
                      exact ⟨by rw [HFE.out]; rfl, HAB.out _ (HBW2.out.trans (HB4'.out.mono HBW2.out.size))⟩
                  · obtain rfl : k = conds.length := by omega
                    have hall : firstNZ (condF n) conds = 0 := firstNZ_all _ _ (fun j y hy => hZk.out j y (by
                      rcases Nat.lt_or_ge j conds.length with h | h
                      · exact h
                      · rw [List.getElem?_eq_none h] at hy; cases hy) hy)
                    have hrf : ruleF ⟨(n : Int), conds, rk, re⟩ = actF rk re := by rw [HRF.out, hall]; simp
                    clear hall hZk
                    by_cases hz : actF rk re = 0
                    · have HZ4 := Lib.hid (HZ2.out (by rw [hrf]; exact hz))
                      have HA1 : Hid (∀ w : World, Calls Tryz.prog 28 #[.agg #[.int .i64 rk, .int .i64 re]] w fun e' w' => e' = .returned (.int .i64 0) ∧ Below w.heap.size w w') := fun w => by
                        have := HAC.out rk re w
                        rw [hz] at this; exact this
                      clear hz hrf
                      go_wp2_with (go_at_call 28; refine cargs (by simp [Act.eval]) ((HA1.out _).mono ?_); rintro e w4 ⟨rfl, hb4⟩; have HB4' := Lib.hid hb4; clear hb4)
                      go_roundw
                      case rel => exact ⟨i + 1, by omega, by go_num, HZ4, HBW2.out.trans (HB4'.out.mono HBW2.out.size)⟩
                      case measure => simp [intOf]; omega
                    · have HA1 : Hid (∀ w : World, Calls Tryz.prog 28 #[.agg #[.int .i64 rk, .int .i64 re]] w fun e' w' => e' = .returned (.int .i64 (actF rk re)) ∧ Below w.heap.size w w') := fun w => by
                        have := HAC.out rk re w
                        exact this
                      have HFE : Hid (polF ⟨rules, pk, pe⟩ = (actF rk re)) := by show _ = _; rw [HF0.out, HN.out (by rw [hrf]; exact hz), hrf]
                      clear hrf
                      have hap : 0 < actF rk re := by have := actF_ge rk re; omega
                      generalize actF rk re = af at *
                      go_wp2_with (go_at_call 28; refine cargs (by simp [Act.eval]) ((HA1.out _).mono ?_); rintro e w4 ⟨rfl, hb4⟩; have HB4' := Lib.hid hb4; clear hb4)
                      go_ret
                      exact ⟨by rw [HFE.out]; rfl, HAB.out _ (HBW2.out.trans (HB4'.out.mono HBW2.out.size))⟩
        · obtain rfl : i = rules.length := by omega
          have HF : Hid (polF ⟨rules, pk, pe⟩ = 0) := by
            show _ = _
            rw [HF0.out, firstNZ_all ruleF rules (fun j y hy => hZ.out j y (by
              rcases Nat.lt_or_ge j rules.length with h | h
              · exact h
              · rw [List.getElem?_eq_none h] at hy; cases hy) hy)]
          go_wp2_with fail
          go_ret
          exact ⟨by rw [HF.out]; rfl, hBw.out⟩
    · have HF : Hid (polF ⟨rules, pk, pe⟩ = actF pk pe) := by show _ = _; unfold polF; rw [if_neg h12, if_pos ha]
      have HA0 : Hid (∀ w : World, Calls Tryz.prog 28 #[.agg #[.int .i64 pk, .int .i64 pe]] w fun e' w' => e' = .returned (.int .i64 (actF pk pe)) ∧ Below w.heap.size w w') := fun w => by
        have := HAC.out pk pe w
        exact this
      have HFE : Hid (polF ⟨rules, pk, pe⟩ = (actF pk pe)) := by show _ = _; rw [HF.out]
      have HAB := Lib.hid (above w (.cells #[.slice A rules.length cp, .int .i64 pk, .int .i64 pe] 27))
      have hap : 0 < actF pk pe := by have := actF_ge pk pe; omega
      generalize actF pk pe = af at *
      clear ha h12
      go_enter Tryz.func13, Tryz.ntmps13
      go_wp2_with (go_at_call 28; refine cargs (by simp [Act.eval]) ((HA0.out _).mono ?_); rintro e w1 ⟨rfl, hb1⟩; have HB1 := Lib.hid (HAB.out w1 hb1); clear hb1)
      go_ret
      exact ⟨by rw [HFE.out]; rfl, HB1.out⟩

end Go.Proofs.YtmgngapkgcofnaaGreatDoor
