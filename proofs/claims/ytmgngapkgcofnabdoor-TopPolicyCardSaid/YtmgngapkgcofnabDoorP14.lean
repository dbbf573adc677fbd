/- Conditions: checkCond: the walk. Printed by gencond.py. -/
import Derived.Test.YtmgngapkgcofnabDoorP07
import Derived.Test.YtmgngapkgcofnabDoorP13
import Derived.Deep.RegionHeld3
namespace Go.Proofs.YtmgngapkgcofnabDoor
open Go.RowKit

set_option linter.unusedSimpArgs false in
set_option maxRecDepth 100000 in
set_option maxHeartbeats 4000000 in
theorem checkCond_any (nr : Nat) (c : CondD) (w : World) (hn : nr < 9) (hok : c.ok) (hg : c.glob.size ≤ 100000) :
    Calls Tryd.prog 29 #[.int .i64 nr, c.val] w fun e w' => e = .returned (errV (condF nr c)) ∧ Below w.heap.size w w' := by
  obtain ⟨arg, op, v, m, glob, ⟨ip, bits, lo, hi⟩⟩ := c
  obtain ⟨_, _, ⟨v0, v1⟩, ⟨m0, m1⟩, _, hnet⟩ := hok
  simp only at v0 v1 m0 m1 hg hnet
  unfold CondD.val
  have HGC : Hid (∀ w : World, Calls Tryd.prog 46 #[.string glob] w fun e w' => e = .returned (errV (globF (bytesOf glob))) ∧ Below w.heap.size w w') := fun w => globCheck_any glob w hg
  have HNC : Hid (∀ w : World, Calls Tryd.prog 10 #[.agg #[.int .u32 ip, .int .i64 bits, .int .i64 lo, .int .i64 hi]] w fun e w' => e = .returned (errV (netF ⟨ip, bits, lo, hi⟩)) ∧ Below w.heap.size w w') := fun w => netCheck_any ⟨ip, bits, lo, hi⟩ w hnet
  obtain ⟨GV, hGV⟩ : ∃ V : Value, V = errV (globF (bytesOf glob)) := ⟨_, rfl⟩
  obtain ⟨NV, hNV⟩ : ∃ V : Value, V = errV (netF ⟨ip, bits, lo, hi⟩) := ⟨_, rfl⟩
  rw [← hGV] at HGC
  rw [← hNV] at HNC
  have HGV := Lib.hid hGV
  have HNV := Lib.hid hNV
  have hge := isEmpty_of2 glob
  have HGE := Lib.hid hge
  clear hGV hNV hnet hge
  by_cases h0 : arg < 0
  · have HF : Hid (errV (condF nr ⟨arg, op, v, m, glob, ⟨ip, bits, lo, hi⟩⟩) = .iface 64 (.int .i64 1)) := by show _ = _; unfold condF; rw [if_pos (Or.inl h0)]; rfl
    go_enter Tryd.func29, Tryd.ntmps29
    go_wp2_with fail
    go_ret
    exact ⟨by rw [HF.out]; rfl, by go_grown⟩
  · skip
    by_cases h1 : 3 < arg
    · have HF : Hid (errV (condF nr ⟨arg, op, v, m, glob, ⟨ip, bits, lo, hi⟩⟩) = .iface 64 (.int .i64 1)) := by show _ = _; unfold condF; rw [if_pos (Or.inr (Or.inl h1))]; rfl
      go_enter Tryd.func29, Tryd.ntmps29
      go_wp2_with fail
      go_ret
      exact ⟨by rw [HF.out]; rfl, by go_grown⟩
    · skip
      by_cases h2 : op < 1
      · have HF : Hid (errV (condF nr ⟨arg, op, v, m, glob, ⟨ip, bits, lo, hi⟩⟩) = .iface 64 (.int .i64 1)) := by show _ = _; unfold condF; rw [if_pos (Or.inr (Or.inr (Or.inl h2)))]; rfl
        go_enter Tryd.func29, Tryd.ntmps29
        go_wp2_with fail
        go_ret
        exact ⟨by rw [HF.out]; rfl, by go_grown⟩
      · skip
        by_cases h3 : 9 < op
        · have HF : Hid (errV (condF nr ⟨arg, op, v, m, glob, ⟨ip, bits, lo, hi⟩⟩) = .iface 64 (.int .i64 1)) := by show _ = _; unfold condF; rw [if_pos (Or.inr (Or.inr (Or.inr h3)))]; rfl
          go_enter Tryd.func29, Tryd.ntmps29
          go_wp2_with fail
          go_ret
          exact ⟨by rw [HF.out]; rfl, by go_grown⟩
        · skip
          obtain ⟨a, rfl⟩ : ∃ a : Nat, arg = a := ⟨arg.toNat, by omega⟩
          have ha : a < 4 := by omega
          have z1 : (a : Int) < 4 := by omega
          have z2 : (0 : Int) ≤ (a : Int) := by omega
          have z3 : (nr : Int) < 9 := by omega
          have z4 : (0 : Int) ≤ (nr : Int) := by omega
          have HF0 : condF nr ⟨(a : Int), op, v, m, glob, ⟨ip, bits, lo, hi⟩⟩ = if CondD.bad nr ⟨(a : Int), op, v, m, glob, ⟨ip, bits, lo, hi⟩⟩ then 3 else if op = 8 then globF (bytesOf glob) else if op = 9 then netF ⟨ip, bits, lo, hi⟩ else 0 := by
            unfold condF; rw [if_neg (by rintro (h | h | h | h) <;> simp only at h <;> omega)]
          have HX := Lib.hid HF0
          have HBD : Hid (CondD.bad nr ⟨(a : Int), op, v, m, glob, ⟨ip, bits, lo, hi⟩⟩ ↔ (kindF nr a ≠ kindOf op ∨ (op ≠ 7 ∧ m ≠ 0) ∨ (7 < op ∧ v ≠ 0) ∨ (op ≠ 8 ∧ glob.size ≠ 0) ∨ (op ≠ 9 ∧ (⟨ip, bits, lo, hi⟩ : NetD) ≠ ⟨0, 0, 0, 0⟩))) := by show _ ↔ _; unfold CondD.bad; simp
          have hix := fun w : World => formIdx nr hn w
          have hfl := formFld
          have hix2 := fun w : World => argIdx nr a ha w
          have hnq := fun w : World => netNeq ⟨ip, bits, lo, hi⟩ w
          simp only at hnq
          obtain ⟨Z, hZ⟩ : ∃ Z, Z = decide ((⟨ip, bits, lo, hi⟩ : NetD) ≠ ⟨0, 0, 0, 0⟩) := ⟨_, rfl⟩
          rw [← hZ] at hnq
          have HZ := Lib.hid hZ
          obtain ⟨kk, hkk⟩ : ∃ kk, kk = kindF nr a := ⟨_, rfl⟩
          rw [← hkk] at hix2
          have HKK := Lib.hid hkk
          have HALL : Hid (∀ W' : World, Below (w.alloc (.cells #[.int .i64 (a : Int), .int .i64 op, .int .u64 v, .int .u64 m, .string glob, .int .u32 ip, .int .i64 bits, .int .i64 lo, .int .i64 hi] 86)).heap.size (w.alloc (.cells #[.int .i64 (a : Int), .int .i64 op, .int .u64 v, .int .u64 m, .string glob, .int .u32 ip, .int .i64 bits, .int .i64 lo, .int .i64 hi] 86)) W' → W'.cell? ⟨w.heap.size, 0, none⟩ = some (.int .i64 (a : Int)) ∧ W'.cell? ⟨w.heap.size, 1, none⟩ = some (.int .i64 op) ∧ W'.cell? ⟨w.heap.size, 2, none⟩ = some (.int .u64 v) ∧ W'.cell? ⟨w.heap.size, 3, none⟩ = some (.int .u64 m) ∧ W'.cell? ⟨w.heap.size, 4, none⟩ = some (.string glob) ∧ W'.cell? ⟨w.heap.size, 5, none⟩ = some (.int .u32 ip) ∧ W'.cell? ⟨w.heap.size, 6, none⟩ = some (.int .i64 bits) ∧ W'.cell? ⟨w.heap.size, 7, none⟩ = some (.int .i64 lo) ∧ W'.cell? ⟨w.heap.size, 8, none⟩ = some (.int .i64 hi)) := fun W' h => by
            have hs : w.heap.size < (w.alloc (.cells #[.int .i64 (a : Int), .int .i64 op, .int .u64 v, .int .u64 m, .string glob, .int .u32 ip, .int .i64 bits, .int .i64 lo, .int .i64 hi] 86)).heap.size := by simp
            refine ⟨?_, ?_, ?_, ?_, ?_, ?_, ?_, ?_, ?_⟩ <;> (rw [h.cell (p := ⟨w.heap.size, _, none⟩) hs, cell_of_row _ _ _ _ _ _ (heap_alloc_new _ _)]; rfl)
          have HBW : Hid (∀ W' : World, Below (w.alloc (.cells #[.int .i64 (a : Int), .int .i64 op, .int .u64 v, .int .u64 m, .string glob, .int .u32 ip, .int .i64 bits, .int .i64 lo, .int .i64 hi] 86)).heap.size (w.alloc (.cells #[.int .i64 (a : Int), .int .i64 op, .int .u64 v, .int .u64 m, .string glob, .int .u32 ip, .int .i64 bits, .int .i64 lo, .int .i64 hi] 86)) W' → Below w.heap.size w W') := fun W' h => ((Below.refl _ _).alloc (Nat.le_refl _) _).trans (h.mono (by simp))
          generalize kindF nr 0 = f0 at *
          generalize kindF nr 1 = f1 at *
          generalize kindF nr 2 = f2 at *
          generalize kindF nr 3 = f3 at *
          generalize formName nr = fname at *
          have HFR : Hid (∀ w : World, Calls Tryd.prog 31 #[] w fun e w' => e = .returned (.agg formsRow) ∧ Below w.heap.size w w') := fun w => forms_any w
          generalize formsRow = FR at *
          clear hZ hkk HF0 hn ha
          by_cases q7 : op = 7
          · subst q7
            have hko : kindOf 7 = 1 := rfl
            rw [hko] at HBD
            by_cases hk : kk = 1
            · subst hk
              by_cases hgs : glob.size = 0
              · have ge : glob.toList.isEmpty = true := by rw [HGE.out]; exact decide_eq_true hgs
                have gl : ¬ (0 : Int) < (glob.size : Int) := by omega
                by_cases hnn : (⟨ip, bits, lo, hi⟩ : NetD) = ⟨0, 0, 0, 0⟩
                · have hzf : Z = false := by rw [HZ.out]; exact decide_eq_false (fun h => h hnn)
                  subst hzf
                  have hnb : ¬ CondD.bad nr ⟨(a : Int), 7, v, m, glob, ⟨ip, bits, lo, hi⟩⟩ := fun hb => (show False from by
                    have hb2 := HBD.out.1 hb
                    rw [← HKK.out] at hb2
                    revert hb2
                    rintro (h | h | h | h | h) <;> first | exact h rfl | omega | exact h.2 hgs | exact h.2 hnn | exact h.2 rfl)
                  have HFI : condF nr ⟨(a : Int), 7, v, m, glob, ⟨ip, bits, lo, hi⟩⟩ = 0 := by rw [HX.out, if_neg hnb]; rfl
                  have HF : Hid (errV (condF nr ⟨(a : Int), 7, v, m, glob, ⟨ip, bits, lo, hi⟩⟩) = .nilIface) := by show _ = _; rw [HFI]; rfl
                  clear HFI hnb HX HBD hko HKK HZ HGE
                  try clear hnn
                  go_enter Tryd.func29, Tryd.ntmps29
                  go_wp2_with fail
                  go_region_held3 (fun W' : World => W'.cell? ⟨w.heap.size, 0, none⟩ = some (.int .i64 (a : Int))) (first | exact (HALL.out _ ((Below.refl _ _).trans ⟨rfl, rfl, rfl, Nat.le_refl _, fun _ _ => rfl⟩)).1 | exact (HALL.out _ ⟨hb1.os, hb1.tape, hb1.output, hb1.size, hb1.block⟩).1) (first
                    | (go_at_call 31; refine cargs (by simp [Act.eval]) ((HFR.out _).mono ?_); rintro e w1 ⟨rfl, hb1⟩))
                  obtain ⟨g0, g1, g2, g3, g4, g5, g6, g7, g8⟩ := HALL.out w1 ⟨hb1.os, hb1.tape, hb1.output, hb1.size, hb1.block⟩
                  have HB1 := Lib.hid (HBW.out w1 ⟨hb1.os, hb1.tape, hb1.output, hb1.size, hb1.block⟩)
                  clear hb1
                  go_wp2_with (fail)
                  all_goals first
                    | (exfalso; omega)
                    | (go_ret; exact ⟨by rw [HF.out]; rfl, HB1.out⟩)
                · have hzf : Z = true := by rw [HZ.out]; exact decide_eq_true hnn
                  subst hzf
                  have HF : Hid (errV (condF nr ⟨(a : Int), 7, v, m, glob, ⟨ip, bits, lo, hi⟩⟩) = .iface 64 (.int .i64 3)) := by show _ = _; rw [HX.out, if_pos (HBD.out.2 (Or.inr (Or.inr (Or.inr (Or.inr ⟨by omega, hnn⟩)))))]; rfl
                  clear HX HBD hko HKK HZ HGE
                  try clear hnn
                  go_enter Tryd.func29, Tryd.ntmps29
                  go_wp2_with fail
                  go_region_held3 (fun W' : World => W'.cell? ⟨w.heap.size, 0, none⟩ = some (.int .i64 (a : Int))) (first | exact (HALL.out _ ((Below.refl _ _).trans ⟨rfl, rfl, rfl, Nat.le_refl _, fun _ _ => rfl⟩)).1 | exact (HALL.out _ ⟨hb1.os, hb1.tape, hb1.output, hb1.size, hb1.block⟩).1) (first
                    | (go_at_call 31; refine cargs (by simp [Act.eval]) ((HFR.out _).mono ?_); rintro e w1 ⟨rfl, hb1⟩))
                  obtain ⟨g0, g1, g2, g3, g4, g5, g6, g7, g8⟩ := HALL.out w1 ⟨hb1.os, hb1.tape, hb1.output, hb1.size, hb1.block⟩
                  have HB1 := Lib.hid (HBW.out w1 ⟨hb1.os, hb1.tape, hb1.output, hb1.size, hb1.block⟩)
                  clear hb1
                  go_wp2_with (fail)
                  all_goals first
                    | (exfalso; omega)
                    | (go_ret; exact ⟨by rw [HF.out]; rfl, HB1.out⟩)
              · have ge : glob.toList.isEmpty = false := by rw [HGE.out]; exact decide_eq_false hgs
                have gl : (0 : Int) < (glob.size : Int) := by omega
                have gl2 : 0 < glob.size := by omega
                have HF : Hid (errV (condF nr ⟨(a : Int), 7, v, m, glob, ⟨ip, bits, lo, hi⟩⟩) = .iface 64 (.int .i64 3)) := by show _ = _; rw [HX.out, if_pos (HBD.out.2 (Or.inr (Or.inr (Or.inr (Or.inl ⟨by omega, hgs⟩)))))]; rfl
                clear HX HBD hko HKK HZ HGE
                try clear hnn
                go_enter Tryd.func29, Tryd.ntmps29
                go_wp2_with fail
                go_region_held3 (fun W' : World => W'.cell? ⟨w.heap.size, 0, none⟩ = some (.int .i64 (a : Int))) (first | exact (HALL.out _ ((Below.refl _ _).trans ⟨rfl, rfl, rfl, Nat.le_refl _, fun _ _ => rfl⟩)).1 | exact (HALL.out _ ⟨hb1.os, hb1.tape, hb1.output, hb1.size, hb1.block⟩).1) (first
                  | (go_at_call 31; refine cargs (by simp [Act.eval]) ((HFR.out _).mono ?_); rintro e w1 ⟨rfl, hb1⟩))
                obtain ⟨g0, g1, g2, g3, g4, g5, g6, g7, g8⟩ := HALL.out w1 ⟨hb1.os, hb1.tape, hb1.output, hb1.size, hb1.block⟩
                have HB1 := Lib.hid (HBW.out w1 ⟨hb1.os, hb1.tape, hb1.output, hb1.size, hb1.block⟩)
                clear hb1
                go_wp2_with (fail)
                all_goals first
                  | (exfalso; omega)
                  | (go_ret; exact ⟨by rw [HF.out]; rfl, HB1.out⟩)
            · have hkq : (kk != 1) = true := by simp; exact hk
              have HF : Hid (errV (condF nr ⟨(a : Int), 7, v, m, glob, ⟨ip, bits, lo, hi⟩⟩) = .iface 64 (.int .i64 3)) := by show _ = _; rw [HX.out, if_pos (HBD.out.2 (Or.inl (by rw [← HKK.out]; exact hk)))]; rfl
              clear HX HBD hko HKK HZ HGE
              try clear hnn
              go_enter Tryd.func29, Tryd.ntmps29
              go_wp2_with fail
              go_region_held3 (fun W' : World => W'.cell? ⟨w.heap.size, 0, none⟩ = some (.int .i64 (a : Int))) (first | exact (HALL.out _ ((Below.refl _ _).trans ⟨rfl, rfl, rfl, Nat.le_refl _, fun _ _ => rfl⟩)).1 | exact (HALL.out _ ⟨hb1.os, hb1.tape, hb1.output, hb1.size, hb1.block⟩).1) (first
                | (go_at_call 31; refine cargs (by simp [Act.eval]) ((HFR.out _).mono ?_); rintro e w1 ⟨rfl, hb1⟩))
              obtain ⟨g0, g1, g2, g3, g4, g5, g6, g7, g8⟩ := HALL.out w1 ⟨hb1.os, hb1.tape, hb1.output, hb1.size, hb1.block⟩
              have HB1 := Lib.hid (HBW.out w1 ⟨hb1.os, hb1.tape, hb1.output, hb1.size, hb1.block⟩)
              clear hb1
              go_wp2_with (fail)
              all_goals first
                | (exfalso; omega)
                | (go_ret; exact ⟨by rw [HF.out]; rfl, HB1.out⟩)
          · skip
            by_cases q8 : op = 8
            · subst q8
              have hko : kindOf 8 = 2 := rfl
              rw [hko] at HBD
              by_cases hk : kk = 2
              · subst hk
                by_cases hm : m = 0
                · subst hm
                  by_cases hv : v = 0
                  · subst hv
                    by_cases hnn : (⟨ip, bits, lo, hi⟩ : NetD) = ⟨0, 0, 0, 0⟩
                    · have hzf : Z = false := by rw [HZ.out]; exact decide_eq_false (fun h => h hnn)
                      subst hzf
                      have hnb : ¬ CondD.bad nr ⟨(a : Int), 8, 0, 0, glob, ⟨ip, bits, lo, hi⟩⟩ := fun hb => (show False from by
                        have hb2 := HBD.out.1 hb
                        rw [← HKK.out] at hb2
                        revert hb2
                        rintro (h | h | h | h | h) <;> first | exact h rfl | omega | exact h.2 hm | exact h.2 hv | exact h.2 hnn | exact h.2 rfl)
                      have HFI : condF nr ⟨(a : Int), 8, 0, 0, glob, ⟨ip, bits, lo, hi⟩⟩ = globF (bytesOf glob) := by rw [HX.out, if_neg hnb, if_pos rfl]
                      have HF : Hid (errV (condF nr ⟨(a : Int), 8, 0, 0, glob, ⟨ip, bits, lo, hi⟩⟩) = GV) := by show _ = _; rw [HFI, HGV.out]
                      clear HFI hnb HX HBD hko HKK HZ HGE
                      try clear hnn
                      go_enter Tryd.func29, Tryd.ntmps29
                      go_wp2_with fail
                      go_region_held3 (fun W' : World => W'.cell? ⟨w.heap.size, 0, none⟩ = some (.int .i64 (a : Int))) (first | exact (HALL.out _ ((Below.refl _ _).trans ⟨rfl, rfl, rfl, Nat.le_refl _, fun _ _ => rfl⟩)).1 | exact (HALL.out _ ⟨hb1.os, hb1.tape, hb1.output, hb1.size, hb1.block⟩).1) (first
                        | (go_at_call 31; refine cargs (by simp [Act.eval]) ((HFR.out _).mono ?_); rintro e w1 ⟨rfl, hb1⟩))
                      obtain ⟨g0, g1, g2, g3, g4, g5, g6, g7, g8⟩ := HALL.out w1 ⟨hb1.os, hb1.tape, hb1.output, hb1.size, hb1.block⟩
                      have HB1 := Lib.hid (HBW.out w1 ⟨hb1.os, hb1.tape, hb1.output, hb1.size, hb1.block⟩)
                      clear hb1
                      go_wp2_with ((go_at_call 46; refine cargs (by simp [Act.eval]) ((HGC.out _).mono ?_); rintro e w3 ⟨rfl, hb3⟩))
                      all_goals first
                        | (exfalso; omega)
                        | (go_ret; exact ⟨by rw [HF.out]; rfl, HB1.out.trans (hb3.mono HB1.out.size)⟩)
                    · have hzf : Z = true := by rw [HZ.out]; exact decide_eq_true hnn
                      subst hzf
                      have HF : Hid (errV (condF nr ⟨(a : Int), 8, 0, 0, glob, ⟨ip, bits, lo, hi⟩⟩) = .iface 64 (.int .i64 3)) := by show _ = _; rw [HX.out, if_pos (HBD.out.2 (Or.inr (Or.inr (Or.inr (Or.inr ⟨by omega, hnn⟩)))))]; rfl
                      clear HX HBD hko HKK HZ HGE
                      try clear hnn
                      go_enter Tryd.func29, Tryd.ntmps29
                      go_wp2_with fail
                      go_region_held3 (fun W' : World => W'.cell? ⟨w.heap.size, 0, none⟩ = some (.int .i64 (a : Int))) (first | exact (HALL.out _ ((Below.refl _ _).trans ⟨rfl, rfl, rfl, Nat.le_refl _, fun _ _ => rfl⟩)).1 | exact (HALL.out _ ⟨hb1.os, hb1.tape, hb1.output, hb1.size, hb1.block⟩).1) (first
                        | (go_at_call 31; refine cargs (by simp [Act.eval]) ((HFR.out _).mono ?_); rintro e w1 ⟨rfl, hb1⟩))
                      obtain ⟨g0, g1, g2, g3, g4, g5, g6, g7, g8⟩ := HALL.out w1 ⟨hb1.os, hb1.tape, hb1.output, hb1.size, hb1.block⟩
                      have HB1 := Lib.hid (HBW.out w1 ⟨hb1.os, hb1.tape, hb1.output, hb1.size, hb1.block⟩)
                      clear hb1
                      go_wp2_with (fail)
                      all_goals first
                        | (exfalso; omega)
                        | (go_ret; exact ⟨by rw [HF.out]; rfl, HB1.out⟩)
                  · have hvp : (v != 0) = true := by simp; exact hv
                    have hvq : 0 < v := by omega
                    have HF : Hid (errV (condF nr ⟨(a : Int), 8, v, 0, glob, ⟨ip, bits, lo, hi⟩⟩) = .iface 64 (.int .i64 3)) := by show _ = _; rw [HX.out, if_pos (HBD.out.2 (Or.inr (Or.inr (Or.inl ⟨by omega, hv⟩))))]; rfl
                    clear HX HBD hko HKK HZ HGE
                    try clear hnn
                    go_enter Tryd.func29, Tryd.ntmps29
                    go_wp2_with fail
                    go_region_held3 (fun W' : World => W'.cell? ⟨w.heap.size, 0, none⟩ = some (.int .i64 (a : Int))) (first | exact (HALL.out _ ((Below.refl _ _).trans ⟨rfl, rfl, rfl, Nat.le_refl _, fun _ _ => rfl⟩)).1 | exact (HALL.out _ ⟨hb1.os, hb1.tape, hb1.output, hb1.size, hb1.block⟩).1) (first
                      | (go_at_call 31; refine cargs (by simp [Act.eval]) ((HFR.out _).mono ?_); rintro e w1 ⟨rfl, hb1⟩))
                    obtain ⟨g0, g1, g2, g3, g4, g5, g6, g7, g8⟩ := HALL.out w1 ⟨hb1.os, hb1.tape, hb1.output, hb1.size, hb1.block⟩
                    have HB1 := Lib.hid (HBW.out w1 ⟨hb1.os, hb1.tape, hb1.output, hb1.size, hb1.block⟩)
                    clear hb1
                    go_wp2_with (fail)
                    all_goals first
                      | (exfalso; omega)
                      | (go_ret; exact ⟨by rw [HF.out]; rfl, HB1.out⟩)
                · have hmp : (m != 0) = true := by simp; exact hm
                  have hmq : 0 < m := by omega
                  have HF : Hid (errV (condF nr ⟨(a : Int), 8, v, m, glob, ⟨ip, bits, lo, hi⟩⟩) = .iface 64 (.int .i64 3)) := by show _ = _; rw [HX.out, if_pos (HBD.out.2 (Or.inr (Or.inl ⟨by omega, hm⟩)))]; rfl
                  clear HX HBD hko HKK HZ HGE
                  try clear hnn
                  go_enter Tryd.func29, Tryd.ntmps29
                  go_wp2_with fail
                  go_region_held3 (fun W' : World => W'.cell? ⟨w.heap.size, 0, none⟩ = some (.int .i64 (a : Int))) (first | exact (HALL.out _ ((Below.refl _ _).trans ⟨rfl, rfl, rfl, Nat.le_refl _, fun _ _ => rfl⟩)).1 | exact (HALL.out _ ⟨hb1.os, hb1.tape, hb1.output, hb1.size, hb1.block⟩).1) (first
                    | (go_at_call 31; refine cargs (by simp [Act.eval]) ((HFR.out _).mono ?_); rintro e w1 ⟨rfl, hb1⟩))
                  obtain ⟨g0, g1, g2, g3, g4, g5, g6, g7, g8⟩ := HALL.out w1 ⟨hb1.os, hb1.tape, hb1.output, hb1.size, hb1.block⟩
                  have HB1 := Lib.hid (HBW.out w1 ⟨hb1.os, hb1.tape, hb1.output, hb1.size, hb1.block⟩)
                  clear hb1
                  go_wp2_with (fail)
                  all_goals first
                    | (exfalso; omega)
                    | (go_ret; exact ⟨by rw [HF.out]; rfl, HB1.out⟩)
              · have hkq : (kk != 2) = true := by simp; exact hk
                have HF : Hid (errV (condF nr ⟨(a : Int), 8, v, m, glob, ⟨ip, bits, lo, hi⟩⟩) = .iface 64 (.int .i64 3)) := by show _ = _; rw [HX.out, if_pos (HBD.out.2 (Or.inl (by rw [← HKK.out]; exact hk)))]; rfl
                clear HX HBD hko HKK HZ HGE
                try clear hnn
                go_enter Tryd.func29, Tryd.ntmps29
                go_wp2_with fail
                go_region_held3 (fun W' : World => W'.cell? ⟨w.heap.size, 0, none⟩ = some (.int .i64 (a : Int))) (first | exact (HALL.out _ ((Below.refl _ _).trans ⟨rfl, rfl, rfl, Nat.le_refl _, fun _ _ => rfl⟩)).1 | exact (HALL.out _ ⟨hb1.os, hb1.tape, hb1.output, hb1.size, hb1.block⟩).1) (first
                  | (go_at_call 31; refine cargs (by simp [Act.eval]) ((HFR.out _).mono ?_); rintro e w1 ⟨rfl, hb1⟩))
                obtain ⟨g0, g1, g2, g3, g4, g5, g6, g7, g8⟩ := HALL.out w1 ⟨hb1.os, hb1.tape, hb1.output, hb1.size, hb1.block⟩
                have HB1 := Lib.hid (HBW.out w1 ⟨hb1.os, hb1.tape, hb1.output, hb1.size, hb1.block⟩)
                clear hb1
                go_wp2_with (fail)
                all_goals first
                  | (exfalso; omega)
                  | (go_ret; exact ⟨by rw [HF.out]; rfl, HB1.out⟩)
            · skip
              by_cases q9 : op = 9
              · subst q9
                have hko : kindOf 9 = 3 := rfl
                rw [hko] at HBD
                by_cases hk : kk = 3
                · subst hk
                  by_cases hm : m = 0
                  · subst hm
                    by_cases hv : v = 0
                    · subst hv
                      by_cases hgs : glob.size = 0
                      · have ge : glob.toList.isEmpty = true := by rw [HGE.out]; exact decide_eq_true hgs
                        have gl : ¬ (0 : Int) < (glob.size : Int) := by omega
                        have hnb : ¬ CondD.bad nr ⟨(a : Int), 9, 0, 0, glob, ⟨ip, bits, lo, hi⟩⟩ := fun hb => (show False from by
                          have hb2 := HBD.out.1 hb
                          rw [← HKK.out] at hb2
                          revert hb2
                          rintro (h | h | h | h | h) <;> first | exact h rfl | omega | exact h.2 hm | exact h.2 hv | exact h.2 hgs | exact h.2 rfl)
                        have HFI : condF nr ⟨(a : Int), 9, 0, 0, glob, ⟨ip, bits, lo, hi⟩⟩ = netF ⟨ip, bits, lo, hi⟩ := by rw [HX.out, if_neg hnb, if_neg (by omega), if_pos rfl]
                        have HF : Hid (errV (condF nr ⟨(a : Int), 9, 0, 0, glob, ⟨ip, bits, lo, hi⟩⟩) = NV) := by show _ = _; rw [HFI, HNV.out]
                        clear HFI hnb HX HBD hko HKK HZ HGE
                        try clear hnn
                        go_enter Tryd.func29, Tryd.ntmps29
                        go_wp2_with fail
                        go_region_held3 (fun W' : World => W'.cell? ⟨w.heap.size, 0, none⟩ = some (.int .i64 (a : Int))) (first | exact (HALL.out _ ((Below.refl _ _).trans ⟨rfl, rfl, rfl, Nat.le_refl _, fun _ _ => rfl⟩)).1 | exact (HALL.out _ ⟨hb1.os, hb1.tape, hb1.output, hb1.size, hb1.block⟩).1) (first
                          | (go_at_call 31; refine cargs (by simp [Act.eval]) ((HFR.out _).mono ?_); rintro e w1 ⟨rfl, hb1⟩))
                        obtain ⟨g0, g1, g2, g3, g4, g5, g6, g7, g8⟩ := HALL.out w1 ⟨hb1.os, hb1.tape, hb1.output, hb1.size, hb1.block⟩
                        have HB1 := Lib.hid (HBW.out w1 ⟨hb1.os, hb1.tape, hb1.output, hb1.size, hb1.block⟩)
                        clear hb1
                        go_wp2_with ((go_at_call 10; refine cargs (by simp [Act.eval]) ((HNC.out _).mono ?_); rintro e w3 ⟨rfl, hb3⟩))
                        all_goals first
                          | (exfalso; omega)
                          | (go_ret; exact ⟨by rw [HF.out]; rfl, HB1.out.trans (hb3.mono HB1.out.size)⟩)
                      · have ge : glob.toList.isEmpty = false := by rw [HGE.out]; exact decide_eq_false hgs
                        have gl : (0 : Int) < (glob.size : Int) := by omega
                        have gl2 : 0 < glob.size := by omega
                        have HF : Hid (errV (condF nr ⟨(a : Int), 9, 0, 0, glob, ⟨ip, bits, lo, hi⟩⟩) = .iface 64 (.int .i64 3)) := by show _ = _; rw [HX.out, if_pos (HBD.out.2 (Or.inr (Or.inr (Or.inr (Or.inl ⟨by omega, hgs⟩)))))]; rfl
                        clear HX HBD hko HKK HZ HGE
                        try clear hnn
                        go_enter Tryd.func29, Tryd.ntmps29
                        go_wp2_with fail
                        go_region_held3 (fun W' : World => W'.cell? ⟨w.heap.size, 0, none⟩ = some (.int .i64 (a : Int))) (first | exact (HALL.out _ ((Below.refl _ _).trans ⟨rfl, rfl, rfl, Nat.le_refl _, fun _ _ => rfl⟩)).1 | exact (HALL.out _ ⟨hb1.os, hb1.tape, hb1.output, hb1.size, hb1.block⟩).1) (first
                          | (go_at_call 31; refine cargs (by simp [Act.eval]) ((HFR.out _).mono ?_); rintro e w1 ⟨rfl, hb1⟩))
                        obtain ⟨g0, g1, g2, g3, g4, g5, g6, g7, g8⟩ := HALL.out w1 ⟨hb1.os, hb1.tape, hb1.output, hb1.size, hb1.block⟩
                        have HB1 := Lib.hid (HBW.out w1 ⟨hb1.os, hb1.tape, hb1.output, hb1.size, hb1.block⟩)
                        clear hb1
                        go_wp2_with (fail)
                        all_goals first
                          | (exfalso; omega)
                          | (go_ret; exact ⟨by rw [HF.out]; rfl, HB1.out⟩)
                    · have hvp : (v != 0) = true := by simp; exact hv
                      have hvq : 0 < v := by omega
                      have HF : Hid (errV (condF nr ⟨(a : Int), 9, v, 0, glob, ⟨ip, bits, lo, hi⟩⟩) = .iface 64 (.int .i64 3)) := by show _ = _; rw [HX.out, if_pos (HBD.out.2 (Or.inr (Or.inr (Or.inl ⟨by omega, hv⟩))))]; rfl
                      clear HX HBD hko HKK HZ HGE
                      try clear hnn
                      go_enter Tryd.func29, Tryd.ntmps29
                      go_wp2_with fail
                      go_region_held3 (fun W' : World => W'.cell? ⟨w.heap.size, 0, none⟩ = some (.int .i64 (a : Int))) (first | exact (HALL.out _ ((Below.refl _ _).trans ⟨rfl, rfl, rfl, Nat.le_refl _, fun _ _ => rfl⟩)).1 | exact (HALL.out _ ⟨hb1.os, hb1.tape, hb1.output, hb1.size, hb1.block⟩).1) (first
                        | (go_at_call 31; refine cargs (by simp [Act.eval]) ((HFR.out _).mono ?_); rintro e w1 ⟨rfl, hb1⟩))
                      obtain ⟨g0, g1, g2, g3, g4, g5, g6, g7, g8⟩ := HALL.out w1 ⟨hb1.os, hb1.tape, hb1.output, hb1.size, hb1.block⟩
                      have HB1 := Lib.hid (HBW.out w1 ⟨hb1.os, hb1.tape, hb1.output, hb1.size, hb1.block⟩)
                      clear hb1
                      go_wp2_with (fail)
                      all_goals first
                        | (exfalso; omega)
                        | (go_ret; exact ⟨by rw [HF.out]; rfl, HB1.out⟩)
                  · have hmp : (m != 0) = true := by simp; exact hm
                    have hmq : 0 < m := by omega
                    have HF : Hid (errV (condF nr ⟨(a : Int), 9, v, m, glob, ⟨ip, bits, lo, hi⟩⟩) = .iface 64 (.int .i64 3)) := by show _ = _; rw [HX.out, if_pos (HBD.out.2 (Or.inr (Or.inl ⟨by omega, hm⟩)))]; rfl
                    clear HX HBD hko HKK HZ HGE
                    try clear hnn
                    go_enter Tryd.func29, Tryd.ntmps29
                    go_wp2_with fail
                    go_region_held3 (fun W' : World => W'.cell? ⟨w.heap.size, 0, none⟩ = some (.int .i64 (a : Int))) (first | exact (HALL.out _ ((Below.refl _ _).trans ⟨rfl, rfl, rfl, Nat.le_refl _, fun _ _ => rfl⟩)).1 | exact (HALL.out _ ⟨hb1.os, hb1.tape, hb1.output, hb1.size, hb1.block⟩).1) (first
                      | (go_at_call 31; refine cargs (by simp [Act.eval]) ((HFR.out _).mono ?_); rintro e w1 ⟨rfl, hb1⟩))
                    obtain ⟨g0, g1, g2, g3, g4, g5, g6, g7, g8⟩ := HALL.out w1 ⟨hb1.os, hb1.tape, hb1.output, hb1.size, hb1.block⟩
                    have HB1 := Lib.hid (HBW.out w1 ⟨hb1.os, hb1.tape, hb1.output, hb1.size, hb1.block⟩)
                    clear hb1
                    go_wp2_with (fail)
                    all_goals first
                      | (exfalso; omega)
                      | (go_ret; exact ⟨by rw [HF.out]; rfl, HB1.out⟩)
                · have hkq : (kk != 3) = true := by simp; exact hk
                  have HF : Hid (errV (condF nr ⟨(a : Int), 9, v, m, glob, ⟨ip, bits, lo, hi⟩⟩) = .iface 64 (.int .i64 3)) := by show _ = _; rw [HX.out, if_pos (HBD.out.2 (Or.inl (by rw [← HKK.out]; exact hk)))]; rfl
                  clear HX HBD hko HKK HZ HGE
                  try clear hnn
                  go_enter Tryd.func29, Tryd.ntmps29
                  go_wp2_with fail
                  go_region_held3 (fun W' : World => W'.cell? ⟨w.heap.size, 0, none⟩ = some (.int .i64 (a : Int))) (first | exact (HALL.out _ ((Below.refl _ _).trans ⟨rfl, rfl, rfl, Nat.le_refl _, fun _ _ => rfl⟩)).1 | exact (HALL.out _ ⟨hb1.os, hb1.tape, hb1.output, hb1.size, hb1.block⟩).1) (first
                    | (go_at_call 31; refine cargs (by simp [Act.eval]) ((HFR.out _).mono ?_); rintro e w1 ⟨rfl, hb1⟩))
                  obtain ⟨g0, g1, g2, g3, g4, g5, g6, g7, g8⟩ := HALL.out w1 ⟨hb1.os, hb1.tape, hb1.output, hb1.size, hb1.block⟩
                  have HB1 := Lib.hid (HBW.out w1 ⟨hb1.os, hb1.tape, hb1.output, hb1.size, hb1.block⟩)
                  clear hb1
                  go_wp2_with (fail)
                  all_goals first
                    | (exfalso; omega)
                    | (go_ret; exact ⟨by rw [HF.out]; rfl, HB1.out⟩)
              · skip
                have hko : kindOf op = 1 := by unfold kindOf; rw [if_neg (by omega), if_neg (by omega)]
                rw [hko] at HBD
                have hop6 : op < 7 := by omega
                have hop1 : 1 ≤ op := by omega
                have hop7 : ¬ (7 : Int) < op := by omega
                by_cases hk : kk = 1
                · subst hk
                  by_cases hm : m = 0
                  · subst hm
                    by_cases hgs : glob.size = 0
                    · have ge : glob.toList.isEmpty = true := by rw [HGE.out]; exact decide_eq_true hgs
                      have gl : ¬ (0 : Int) < (glob.size : Int) := by omega
                      by_cases hnn : (⟨ip, bits, lo, hi⟩ : NetD) = ⟨0, 0, 0, 0⟩
                      · have hzf : Z = false := by rw [HZ.out]; exact decide_eq_false (fun h => h hnn)
                        subst hzf
                        have hnb : ¬ CondD.bad nr ⟨(a : Int), op, v, 0, glob, ⟨ip, bits, lo, hi⟩⟩ := fun hb => (show False from by
                          have hb2 := HBD.out.1 hb
                          rw [← HKK.out] at hb2
                          revert hb2
                          rintro (h | h | h | h | h) <;> first | exact h rfl | omega | exact h.2 hm | exact h.2 hgs | exact h.2 hnn | exact h.2 rfl)
                        have HFI : condF nr ⟨(a : Int), op, v, 0, glob, ⟨ip, bits, lo, hi⟩⟩ = 0 := by rw [HX.out, if_neg hnb, if_neg (by omega), if_neg (by omega)]
                        have HF : Hid (errV (condF nr ⟨(a : Int), op, v, 0, glob, ⟨ip, bits, lo, hi⟩⟩) = .nilIface) := by show _ = _; rw [HFI]; rfl
                        clear HFI hnb HX HBD hko HKK HZ HGE
                        try clear hnn
                        go_enter Tryd.func29, Tryd.ntmps29
                        go_wp2_with fail
                        go_region_held3 (fun W' : World => W'.cell? ⟨w.heap.size, 0, none⟩ = some (.int .i64 (a : Int))) (first | exact (HALL.out _ ((Below.refl _ _).trans ⟨rfl, rfl, rfl, Nat.le_refl _, fun _ _ => rfl⟩)).1 | exact (HALL.out _ ⟨hb1.os, hb1.tape, hb1.output, hb1.size, hb1.block⟩).1) (first
                          | (go_at_call 31; refine cargs (by simp [Act.eval]) ((HFR.out _).mono ?_); rintro e w1 ⟨rfl, hb1⟩))
                        obtain ⟨g0, g1, g2, g3, g4, g5, g6, g7, g8⟩ := HALL.out w1 ⟨hb1.os, hb1.tape, hb1.output, hb1.size, hb1.block⟩
                        have HB1 := Lib.hid (HBW.out w1 ⟨hb1.os, hb1.tape, hb1.output, hb1.size, hb1.block⟩)
                        clear hb1
                        go_wp2_with (fail)
                        all_goals first
                          | (exfalso; omega)
                          | (go_ret; exact ⟨by rw [HF.out]; rfl, HB1.out⟩)
                      · have hzf : Z = true := by rw [HZ.out]; exact decide_eq_true hnn
                        subst hzf
                        have HF : Hid (errV (condF nr ⟨(a : Int), op, v, 0, glob, ⟨ip, bits, lo, hi⟩⟩) = .iface 64 (.int .i64 3)) := by show _ = _; rw [HX.out, if_pos (HBD.out.2 (Or.inr (Or.inr (Or.inr (Or.inr ⟨by omega, hnn⟩)))))]; rfl
                        clear HX HBD hko HKK HZ HGE
                        try clear hnn
                        go_enter Tryd.func29, Tryd.ntmps29
                        go_wp2_with fail
                        go_region_held3 (fun W' : World => W'.cell? ⟨w.heap.size, 0, none⟩ = some (.int .i64 (a : Int))) (first | exact (HALL.out _ ((Below.refl _ _).trans ⟨rfl, rfl, rfl, Nat.le_refl _, fun _ _ => rfl⟩)).1 | exact (HALL.out _ ⟨hb1.os, hb1.tape, hb1.output, hb1.size, hb1.block⟩).1) (first
                          | (go_at_call 31; refine cargs (by simp [Act.eval]) ((HFR.out _).mono ?_); rintro e w1 ⟨rfl, hb1⟩))
                        obtain ⟨g0, g1, g2, g3, g4, g5, g6, g7, g8⟩ := HALL.out w1 ⟨hb1.os, hb1.tape, hb1.output, hb1.size, hb1.block⟩
                        have HB1 := Lib.hid (HBW.out w1 ⟨hb1.os, hb1.tape, hb1.output, hb1.size, hb1.block⟩)
                        clear hb1
                        go_wp2_with (fail)
                        all_goals first
                          | (exfalso; omega)
                          | (go_ret; exact ⟨by rw [HF.out]; rfl, HB1.out⟩)
                    · have ge : glob.toList.isEmpty = false := by rw [HGE.out]; exact decide_eq_false hgs
                      have gl : (0 : Int) < (glob.size : Int) := by omega
                      have gl2 : 0 < glob.size := by omega
                      have HF : Hid (errV (condF nr ⟨(a : Int), op, v, 0, glob, ⟨ip, bits, lo, hi⟩⟩) = .iface 64 (.int .i64 3)) := by show _ = _; rw [HX.out, if_pos (HBD.out.2 (Or.inr (Or.inr (Or.inr (Or.inl ⟨by omega, hgs⟩)))))]; rfl
                      clear HX HBD hko HKK HZ HGE
                      try clear hnn
                      go_enter Tryd.func29, Tryd.ntmps29
                      go_wp2_with fail
                      go_region_held3 (fun W' : World => W'.cell? ⟨w.heap.size, 0, none⟩ = some (.int .i64 (a : Int))) (first | exact (HALL.out _ ((Below.refl _ _).trans ⟨rfl, rfl, rfl, Nat.le_refl _, fun _ _ => rfl⟩)).1 | exact (HALL.out _ ⟨hb1.os, hb1.tape, hb1.output, hb1.size, hb1.block⟩).1) (first
                        | (go_at_call 31; refine cargs (by simp [Act.eval]) ((HFR.out _).mono ?_); rintro e w1 ⟨rfl, hb1⟩))
                      obtain ⟨g0, g1, g2, g3, g4, g5, g6, g7, g8⟩ := HALL.out w1 ⟨hb1.os, hb1.tape, hb1.output, hb1.size, hb1.block⟩
                      have HB1 := Lib.hid (HBW.out w1 ⟨hb1.os, hb1.tape, hb1.output, hb1.size, hb1.block⟩)
                      clear hb1
                      go_wp2_with (fail)
                      all_goals first
                        | (exfalso; omega)
                        | (go_ret; exact ⟨by rw [HF.out]; rfl, HB1.out⟩)
                  · have hmp : (m != 0) = true := by simp; exact hm
                    have hmq : 0 < m := by omega
                    have HF : Hid (errV (condF nr ⟨(a : Int), op, v, m, glob, ⟨ip, bits, lo, hi⟩⟩) = .iface 64 (.int .i64 3)) := by show _ = _; rw [HX.out, if_pos (HBD.out.2 (Or.inr (Or.inl ⟨by omega, hm⟩)))]; rfl
                    clear HX HBD hko HKK HZ HGE
                    try clear hnn
                    go_enter Tryd.func29, Tryd.ntmps29
                    go_wp2_with fail
                    go_region_held3 (fun W' : World => W'.cell? ⟨w.heap.size, 0, none⟩ = some (.int .i64 (a : Int))) (first | exact (HALL.out _ ((Below.refl _ _).trans ⟨rfl, rfl, rfl, Nat.le_refl _, fun _ _ => rfl⟩)).1 | exact (HALL.out _ ⟨hb1.os, hb1.tape, hb1.output, hb1.size, hb1.block⟩).1) (first
                      | (go_at_call 31; refine cargs (by simp [Act.eval]) ((HFR.out _).mono ?_); rintro e w1 ⟨rfl, hb1⟩))
                    obtain ⟨g0, g1, g2, g3, g4, g5, g6, g7, g8⟩ := HALL.out w1 ⟨hb1.os, hb1.tape, hb1.output, hb1.size, hb1.block⟩
                    have HB1 := Lib.hid (HBW.out w1 ⟨hb1.os, hb1.tape, hb1.output, hb1.size, hb1.block⟩)
                    clear hb1
                    go_wp2_with (fail)
                    all_goals first
                      | (exfalso; omega)
                      | (go_ret; exact ⟨by rw [HF.out]; rfl, HB1.out⟩)
                · have hkq : (kk != 1) = true := by simp; exact hk
                  have HF : Hid (errV (condF nr ⟨(a : Int), op, v, m, glob, ⟨ip, bits, lo, hi⟩⟩) = .iface 64 (.int .i64 3)) := by show _ = _; rw [HX.out, if_pos (HBD.out.2 (Or.inl (by rw [← HKK.out]; exact hk)))]; rfl
                  clear HX HBD hko HKK HZ HGE
                  try clear hnn
                  go_enter Tryd.func29, Tryd.ntmps29
                  go_wp2_with fail
                  go_region_held3 (fun W' : World => W'.cell? ⟨w.heap.size, 0, none⟩ = some (.int .i64 (a : Int))) (first | exact (HALL.out _ ((Below.refl _ _).trans ⟨rfl, rfl, rfl, Nat.le_refl _, fun _ _ => rfl⟩)).1 | exact (HALL.out _ ⟨hb1.os, hb1.tape, hb1.output, hb1.size, hb1.block⟩).1) (first
                    | (go_at_call 31; refine cargs (by simp [Act.eval]) ((HFR.out _).mono ?_); rintro e w1 ⟨rfl, hb1⟩))
                  obtain ⟨g0, g1, g2, g3, g4, g5, g6, g7, g8⟩ := HALL.out w1 ⟨hb1.os, hb1.tape, hb1.output, hb1.size, hb1.block⟩
                  have HB1 := Lib.hid (HBW.out w1 ⟨hb1.os, hb1.tape, hb1.output, hb1.size, hb1.block⟩)
                  clear hb1
                  go_wp2_with (fail)
                  all_goals first
                    | (exfalso; omega)
                    | (go_ret; exact ⟨by rw [HF.out]; rfl, HB1.out⟩)

end Go.Proofs.YtmgngapkgcofnabDoor
