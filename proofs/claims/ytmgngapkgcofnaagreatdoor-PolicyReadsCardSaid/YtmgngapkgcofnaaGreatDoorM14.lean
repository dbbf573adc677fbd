/- Conditions: checkCond: the walk. Printed by gencond.py. -/
import Derived.Test.YtmgngapkgcofnaaGreatDoorM07
import Derived.Test.YtmgngapkgcofnaaGreatDoorM13
import Derived.Deep.RegionHeld3
import Derived.Test.YtmgngapkgcofnaaGreatDoorM08
import Derived.Deep.DeepCutAuto
import Derived.Test.YtmgngapkgcofnaaGreatDoorM03
import Derived.OwnWalk
import Derived.Deep.RegionLaw
import Derived.Deep.AppendLies
import Derived.BigRegion
import Derived.MapKept
import Derived.Carry
namespace Go.Proofs.YtmgngapkgcofnaaGreatDoor
open Go.RowKit

set_option linter.unusedSimpArgs false in
set_option maxRecDepth 100000 in
set_option maxHeartbeats 4000000 in
theorem checkCond_any (nr : Nat) (c : CondD) (w : World) (hn : nr < 9) (hok : c.ok) (hg : c.glob.size ≤ 100000) :
    Calls Tryz.prog 38 #[.int .i64 nr, c.val] w fun e w' => e = .returned (errV (condF nr c)) ∧ Below w.heap.size w w' := by
  obtain ⟨arg, op, v, m, glob, ⟨ip, bits, lo, hi⟩⟩ := c
  obtain ⟨_, _, ⟨v0, v1⟩, ⟨m0, m1⟩, _, hnet⟩ := hok
  simp only at v0 v1 m0 m1 hg hnet
  unfold CondD.val
  have HGC : Hid (∀ w : World, Calls Tryz.prog 62 #[.string glob] w fun e w' => e = .returned (errV (globF (bytesOf glob))) ∧ Below w.heap.size w w') := fun w => globCheck_any glob w hg
  have HNC : Hid (∀ w : World, Calls Tryz.prog 63 #[.agg #[.int .u32 ip, .int .i64 bits, .int .i64 lo, .int .i64 hi]] w fun e w' => e = .returned (errV (netF ⟨ip, bits, lo, hi⟩)) ∧ Below w.heap.size w w') := fun w => netCheck_any ⟨ip, bits, lo, hi⟩ w hnet
  obtain ⟨GV, hGV⟩ : ∃ V : Value, V = errV (globF (bytesOf glob)) := ⟨_, rfl⟩
  obtain ⟨NV, hNV⟩ : ∃ V : Value, V = errV (netF ⟨ip, bits, lo, hi⟩) := ⟨_, rfl⟩
  rw [← hGV] at HGC
  rw [← hNV] at HNC
  have HGV := Lib.hid hGV
  have HNV := Lib.hid hNV
  have hge := isEmpty_of2 glob
  have HGE := Lib.hid hge
  clear hGV hNV hnet hge
  by_cases h0 : arg < 0
  · have HF : Hid (errV (condF nr ⟨arg, op, v, m, glob, ⟨ip, bits, lo, hi⟩⟩) = .iface 63 (.int .i64 1)) := by show _ = _; unfold condF; rw [if_pos (Or.inl h0)]; rfl
    go_enter Tryz.func38, Tryz.ntmps38
    go_wp2_with fail
    go_ret
    exact ⟨by rw [HF.out]; rfl, by go_grown⟩
  · skip
    by_cases h1 : 3 < arg
    · have HF : Hid (errV (condF nr ⟨arg, op, v, m, glob, ⟨ip, bits, lo, hi⟩⟩) = .iface 63 (.int .i64 1)) := by show _ = _; unfold condF; rw [if_pos (Or.inr (Or.inl h1))]; rfl
      go_enter Tryz.func38, Tryz.ntmps38
      go_wp2_with fail
      go_ret
      exact ⟨by rw [HF.out]; rfl, by go_grown⟩
    · skip
      by_cases h2 : op < 1
      · have HF : Hid (errV (condF nr ⟨arg, op, v, m, glob, ⟨ip, bits, lo, hi⟩⟩) = .iface 63 (.int .i64 1)) := by show _ = _; unfold condF; rw [if_pos (Or.inr (Or.inr (Or.inl h2)))]; rfl
        go_enter Tryz.func38, Tryz.ntmps38
        go_wp2_with fail
        go_ret
        exact ⟨by rw [HF.out]; rfl, by go_grown⟩
      · skip
        by_cases h3 : 9 < op
        · have HF : Hid (errV (condF nr ⟨arg, op, v, m, glob, ⟨ip, bits, lo, hi⟩⟩) = .iface 63 (.int .i64 1)) := by show _ = _; unfold condF; rw [if_pos (Or.inr (Or.inr (Or.inr h3)))]; rfl
          go_enter Tryz.func38, Tryz.ntmps38
          go_wp2_with fail
          go_ret
          exact ⟨by rw [HF.out]; rfl, by go_grown⟩
        · skip
          obtain ⟨a, rfl⟩ : ∃ a : Nat, arg = a := ⟨arg.toNat, by omega⟩
          have ha : a < 4 := by omega
          have z1 : (a : Int) < 4 := by omega
          have z2 : (0 : Int) ≤ (a : Int) := by omega
          have z3 : (nr : Int) < 9 := by omega
          have z4 : (0 : Int) ≤ (nr : Int) := by omega
          have HF0 : condF nr ⟨(a : Int), op, v, m, glob, ⟨ip, bits, lo, hi⟩⟩ = if CondD.bad nr ⟨(a : Int), op, v, m, glob, ⟨ip, bits, lo, hi⟩⟩ then 3 else if op = 8 then globF (bytesOf glob) else if op = 9 then netF ⟨ip, bits, lo, hi⟩ else 0 := by
            unfold condF; rw [if_neg (by rintro (h | h | h | h) <;> simp only at h <;> omega)]
          have HX := Lib.hid HF0
          have HBD : Hid (CondD.bad nr ⟨(a : Int), op, v, m, glob, ⟨ip, bits, lo, hi⟩⟩ ↔ (kindF nr a ≠ kindOf op ∨ (op ≠ 7 ∧ m ≠ 0) ∨ (7 < op ∧ v ≠ 0) ∨ (op ≠ 8 ∧ glob.size ≠ 0) ∨ (op ≠ 9 ∧ (⟨ip, bits, lo, hi⟩ : NetD) ≠ ⟨0, 0, 0, 0⟩))) := by show _ ↔ _; unfold CondD.bad; simp
          have hix := fun w : World => formIdx nr hn w
          have hfl := formFld
          have hix2 := fun w : World => argIdx nr a ha w
          have hnq := fun w : World => netNeq ⟨ip, bits, lo, hi⟩ w
          simp only at hnq
          obtain ⟨Z, hZ⟩ : ∃ Z, Z = decide ((⟨ip, bits, lo, hi⟩ : NetD) ≠ ⟨0, 0, 0, 0⟩) := ⟨_, rfl⟩
          rw [← hZ] at hnq
          have HZ := Lib.hid hZ
          obtain ⟨kk, hkk⟩ : ∃ kk, kk = kindF nr a := ⟨_, rfl⟩
          rw [← hkk] at hix2
          have HKK := Lib.hid hkk
          have HALL : Hid (∀ W' : World, Below (w.alloc (.cells #[.int .i64 (a : Int), .int .i64 op, .int .u64 v, .int .u64 m, .string glob, .int .u32 ip, .int .i64 bits, .int .i64 lo, .int .i64 hi] 84)).heap.size (w.alloc (.cells #[.int .i64 (a : Int), .int .i64 op, .int .u64 v, .int .u64 m, .string glob, .int .u32 ip, .int .i64 bits, .int .i64 lo, .int .i64 hi] 84)) W' → W'.cell? ⟨w.heap.size, 0, none⟩ = some (.int .i64 (a : Int)) ∧ W'.cell? ⟨w.heap.size, 1, none⟩ = some (.int .i64 op) ∧ W'.cell? ⟨w.heap.size, 2, none⟩ = some (.int .u64 v) ∧ W'.cell? ⟨w.heap.size, 3, none⟩ = some (.int .u64 m) ∧ W'.cell? ⟨w.heap.size, 4, none⟩ = some (.string glob) ∧ W'.cell? ⟨w.heap.size, 5, none⟩ = some (.int .u32 ip) ∧ W'.cell? ⟨w.heap.size, 6, none⟩ = some (.int .i64 bits) ∧ W'.cell? ⟨w.heap.size, 7, none⟩ = some (.int .i64 lo) ∧ W'.cell? ⟨w.heap.size, 8, none⟩ = some (.int .i64 hi)) := fun W' h => by
            have hs : w.heap.size < (w.alloc (.cells #[.int .i64 (a : Int), .int .i64 op, .int .u64 v, .int .u64 m, .string glob, .int .u32 ip, .int .i64 bits, .int .i64 lo, .int .i64 hi] 84)).heap.size := by simp
            refine ⟨?_, ?_, ?_, ?_, ?_, ?_, ?_, ?_, ?_⟩ <;> (rw [h.cell (p := ⟨w.heap.size, _, none⟩) hs, cell_of_row _ _ _ _ _ _ (heap_alloc_new _ _)]; rfl)
          have HBW : Hid (∀ W' : World, Below (w.alloc (.cells #[.int .i64 (a : Int), .int .i64 op, .int .u64 v, .int .u64 m, .string glob, .int .u32 ip, .int .i64 bits, .int .i64 lo, .int .i64 hi] 84)).heap.size (w.alloc (.cells #[.int .i64 (a : Int), .int .i64 op, .int .u64 v, .int .u64 m, .string glob, .int .u32 ip, .int .i64 bits, .int .i64 lo, .int .i64 hi] 84)) W' → Below w.heap.size w W') := fun W' h => ((Below.refl _ _).alloc (Nat.le_refl _) _).trans (h.mono (by simp))
          generalize kindF nr 0 = f0 at *
          generalize kindF nr 1 = f1 at *
          generalize kindF nr 2 = f2 at *
          generalize kindF nr 3 = f3 at *
          generalize formName nr = fname at *
          have HFR : Hid (∀ w : World, Calls Tryz.prog 32 #[] w fun e w' => e = .returned (.agg formsRow) ∧ Below w.heap.size w w') := fun w => forms_any w
          generalize formsRow = FR at *
          clear hZ hkk HF0 hn ha
          by_cases q7 : op = 7
          · subst q7
            have hko : kindOf 7 = 1 := rfl
            rw [hko] at HBD
            by_cases hk : kk = 1
            · subst hk
              by_cases hgs : glob.size = 0
              · have ge : glob.toList.isEmpty = true := by rw [HGE.out]; exact decide_eq_true hgs
                have gl : ¬ (0 : Int) < (glob.size : Int) := by omega
                by_cases hnn : (⟨ip, bits, lo, hi⟩ : NetD) = ⟨0, 0, 0, 0⟩
                · have hzf : Z = false := by rw [HZ.out]; exact decide_eq_false (fun h => h hnn)
                  subst hzf
                  have hnb : ¬ CondD.bad nr ⟨(a : Int), 7, v, m, glob, ⟨ip, bits, lo, hi⟩⟩ := fun hb => (show False from by
                    have hb2 := HBD.out.1 hb
                    rw [← HKK.out] at hb2
                    revert hb2
                    rintro (h | h | h | h | h) <;> first | exact h rfl | omega | exact h.2 hgs | exact h.2 hnn | exact h.2 rfl)
                  have HFI : condF nr ⟨(a : Int), 7, v, m, glob, ⟨ip, bits, lo, hi⟩⟩ = 0 := by rw [HX.out, if_neg hnb]; rfl
                  have HF : Hid (errV (condF nr ⟨(a : Int), 7, v, m, glob, ⟨ip, bits, lo, hi⟩⟩) = .nilIface) := by show _ = _; rw [HFI]; rfl
                  clear HFI hnb HX HBD hko HKK HZ HGE
                  try clear hnn
                  go_enter Tryz.func38, Tryz.ntmps38
                  go_wp2_with fail
                  go_region_held3 (fun W' : World => W'.cell? ⟨w.heap.size, 0, none⟩ = some (.int .i64 (a : Int))) (first | exact (HALL.out _ ((Below.refl _ _).trans ⟨rfl, rfl, rfl, Nat.le_refl _, fun _ _ => rfl⟩)).1 | exact (HALL.out _ ⟨hb1.os, hb1.tape, hb1.output, hb1.size, hb1.block⟩).1) (first
                    | (go_at_call 32; refine cargs (by simp [Act.eval]) ((HFR.out _).mono ?_); rintro e w1 ⟨rfl, hb1⟩))
                  obtain ⟨g0, g1, g2, g3, g4, g5, g6, g7, g8⟩ := HALL.out w1 ⟨hb1.os, hb1.tape, hb1.output, hb1.size, hb1.block⟩
                  have HB1 := Lib.hid (HBW.out w1 ⟨hb1.os, hb1.tape, hb1.output, hb1.size, hb1.block⟩)
                  clear hb1
                  go_wp2_with (fail)
                  all_goals first
                    | (exfalso; omega)
                    | (go_ret; exact ⟨by rw [HF.out]; rfl, HB1.out⟩)
                · have hzf : Z = true := by rw [HZ.out]; exact decide_eq_true hnn
                  subst hzf
                  have HF : Hid (errV (condF nr ⟨(a : Int), 7, v, m, glob, ⟨ip, bits, lo, hi⟩⟩) = .iface 63 (.int .i64 3)) := by show _ = _; rw [HX.out, if_pos (HBD.out.2 (Or.inr (Or.inr (Or.inr (Or.inr ⟨by omega, hnn⟩)))))]; rfl
                  clear HX HBD hko HKK HZ HGE
                  try clear hnn
                  go_enter Tryz.func38, Tryz.ntmps38
                  go_wp2_with fail
                  go_region_held3 (fun W' : World => W'.cell? ⟨w.heap.size, 0, none⟩ = some (.int .i64 (a : Int))) (first | exact (HALL.out _ ((Below.refl _ _).trans ⟨rfl, rfl, rfl, Nat.le_refl _, fun _ _ => rfl⟩)).1 | exact (HALL.out _ ⟨hb1.os, hb1.tape, hb1.output, hb1.size, hb1.block⟩).1) (first
                    | (go_at_call 32; refine cargs (by simp [Act.eval]) ((HFR.out _).mono ?_); rintro e w1 ⟨rfl, hb1⟩))
                  obtain ⟨g0, g1, g2, g3, g4, g5, g6, g7, g8⟩ := HALL.out w1 ⟨hb1.os, hb1.tape, hb1.output, hb1.size, hb1.block⟩
                  have HB1 := Lib.hid (HBW.out w1 ⟨hb1.os, hb1.tape, hb1.output, hb1.size, hb1.block⟩)
                  clear hb1
                  go_wp2_with (fail)
                  all_goals first
                    | (exfalso; omega)
                    | (go_ret; exact ⟨by rw [HF.out]; rfl, HB1.out⟩)
              · have ge : glob.toList.isEmpty = false := by rw [HGE.out]; exact decide_eq_false hgs
                have gl : (0 : Int) < (glob.size : Int) := by omega
                have gl2 : 0 < glob.size := by omega
                have HF : Hid (errV (condF nr ⟨(a : Int), 7, v, m, glob, ⟨ip, bits, lo, hi⟩⟩) = .iface 63 (.int .i64 3)) := by show _ = _; rw [HX.out, if_pos (HBD.out.2 (Or.inr (Or.inr (Or.inr (Or.inl ⟨by omega, hgs⟩)))))]; rfl
                clear HX HBD hko HKK HZ HGE
                try clear hnn
                go_enter Tryz.func38, Tryz.ntmps38
                go_wp2_with fail
                go_region_held3 (fun W' : World => W'.cell? ⟨w.heap.size, 0, none⟩ = some (.int .i64 (a : Int))) (first | exact (HALL.out _ ((Below.refl _ _).trans ⟨rfl, rfl, rfl, Nat.le_refl _, fun _ _ => rfl⟩)).1 | exact (HALL.out _ ⟨hb1.os, hb1.tape, hb1.output, hb1.size, hb1.block⟩).1) (first
                  | (go_at_call 32; refine cargs (by simp [Act.eval]) ((HFR.out _).mono ?_); rintro e w1 ⟨rfl, hb1⟩))
                obtain ⟨g0, g1, g2, g3, g4, g5, g6, g7, g8⟩ := HALL.out w1 ⟨hb1.os, hb1.tape, hb1.output, hb1.size, hb1.block⟩
                have HB1 := Lib.hid (HBW.out w1 ⟨hb1.os, hb1.tape, hb1.output, hb1.size, hb1.block⟩)
                clear hb1
                go_wp2_with (fail)
                all_goals first
                  | (exfalso; omega)
                  | (go_ret; exact ⟨by rw [HF.out]; rfl, HB1.out⟩)
            · have hkq : (kk != 1) = true := by simp; exact hk
              have HF : Hid (errV (condF nr ⟨(a : Int), 7, v, m, glob, ⟨ip, bits, lo, hi⟩⟩) = .iface 63 (.int .i64 3)) := by show _ = _; rw [HX.out, if_pos (HBD.out.2 (Or.inl (by rw [← HKK.out]; exact hk)))]; rfl
              clear HX HBD hko HKK HZ HGE
              try clear hnn
              go_enter Tryz.func38, Tryz.ntmps38
              go_wp2_with fail
              go_region_held3 (fun W' : World => W'.cell? ⟨w.heap.size, 0, none⟩ = some (.int .i64 (a : Int))) (first | exact (HALL.out _ ((Below.refl _ _).trans ⟨rfl, rfl, rfl, Nat.le_refl _, fun _ _ => rfl⟩)).1 | exact (HALL.out _ ⟨hb1.os, hb1.tape, hb1.output, hb1.size, hb1.block⟩).1) (first
                | (go_at_call 32; refine cargs (by simp [Act.eval]) ((HFR.out _).mono ?_); rintro e w1 ⟨rfl, hb1⟩))
              obtain ⟨g0, g1, g2, g3, g4, g5, g6, g7, g8⟩ := HALL.out w1 ⟨hb1.os, hb1.tape, hb1.output, hb1.size, hb1.block⟩
              have HB1 := Lib.hid (HBW.out w1 ⟨hb1.os, hb1.tape, hb1.output, hb1.size, hb1.block⟩)
              clear hb1
              go_wp2_with (fail)
              all_goals first
                | (exfalso; omega)
                | (go_ret; exact ⟨by rw [HF.out]; rfl, HB1.out⟩)
          · skip
            by_cases q8 : op = 8
            · subst q8
              have hko : kindOf 8 = 2 := rfl
              rw [hko] at HBD
              by_cases hk : kk = 2
              · subst hk
                by_cases hm : m = 0
                · subst hm
                  by_cases hv : v = 0
                  · subst hv
                    by_cases hnn : (⟨ip, bits, lo, hi⟩ : NetD) = ⟨0, 0, 0, 0⟩
                    · have hzf : Z = false := by rw [HZ.out]; exact decide_eq_false (fun h => h hnn)
                      subst hzf
                      have hnb : ¬ CondD.bad nr ⟨(a : Int), 8, 0, 0, glob, ⟨ip, bits, lo, hi⟩⟩ := fun hb => (show False from by
                        have hb2 := HBD.out.1 hb
                        rw [← HKK.out] at hb2
                        revert hb2
                        rintro (h | h | h | h | h) <;> first | exact h rfl | omega | exact h.2 hm | exact h.2 hv | exact h.2 hnn | exact h.2 rfl)
                      have HFI : condF nr ⟨(a : Int), 8, 0, 0, glob, ⟨ip, bits, lo, hi⟩⟩ = globF (bytesOf glob) := by rw [HX.out, if_neg hnb, if_pos rfl]
                      have HF : Hid (errV (condF nr ⟨(a : Int), 8, 0, 0, glob, ⟨ip, bits, lo, hi⟩⟩) = GV) := by show _ = _; rw [HFI, HGV.out]
                      clear HFI hnb HX HBD hko HKK HZ HGE
                      try clear hnn
                      go_enter Tryz.func38, Tryz.ntmps38
                      go_wp2_with fail
                      go_region_held3 (fun W' : World => W'.cell? ⟨w.heap.size, 0, none⟩ = some (.int .i64 (a : Int))) (first | exact (HALL.out _ ((Below.refl _ _).trans ⟨rfl, rfl, rfl, Nat.le_refl _, fun _ _ => rfl⟩)).1 | exact (HALL.out _ ⟨hb1.os, hb1.tape, hb1.output, hb1.size, hb1.block⟩).1) (first
                        | (go_at_call 32; refine cargs (by simp [Act.eval]) ((HFR.out _).mono ?_); rintro e w1 ⟨rfl, hb1⟩))
                      obtain ⟨g0, g1, g2, g3, g4, g5, g6, g7, g8⟩ := HALL.out w1 ⟨hb1.os, hb1.tape, hb1.output, hb1.size, hb1.block⟩
                      have HB1 := Lib.hid (HBW.out w1 ⟨hb1.os, hb1.tape, hb1.output, hb1.size, hb1.block⟩)
                      clear hb1
                      go_wp2_with ((go_at_call 62; refine cargs (by simp [Act.eval]) ((HGC.out _).mono ?_); rintro e w3 ⟨rfl, hb3⟩))
                      all_goals first
                        | (exfalso; omega)
                        | (go_ret; exact ⟨by rw [HF.out]; rfl, HB1.out.trans (hb3.mono HB1.out.size)⟩)
                    · have hzf : Z = true := by rw [HZ.out]; exact decide_eq_true hnn
                      subst hzf
                      have HF : Hid (errV (condF nr ⟨(a : Int), 8, 0, 0, glob, ⟨ip, bits, lo, hi⟩⟩) = .iface 63 (.int .i64 3)) := by show _ = _; rw [HX.out, if_pos (HBD.out.2 (Or.inr (Or.inr (Or.inr (Or.inr ⟨by omega, hnn⟩)))))]; rfl
                      clear HX HBD hko HKK HZ HGE
                      try clear hnn
                      go_enter Tryz.func38, Tryz.ntmps38
                      go_wp2_with fail
                      go_region_held3 (fun W' : World => W'.cell? ⟨w.heap.size, 0, none⟩ = some (.int .i64 (a : Int))) (first | exact (HALL.out _ ((Below.refl _ _).trans ⟨rfl, rfl, rfl, Nat.le_refl _, fun _ _ => rfl⟩)).1 | exact (HALL.out _ ⟨hb1.os, hb1.tape, hb1.output, hb1.size, hb1.block⟩).1) (first
                        | (go_at_call 32; refine cargs (by simp [Act.eval]) ((HFR.out _).mono ?_); rintro e w1 ⟨rfl, hb1⟩))
                      obtain ⟨g0, g1, g2, g3, g4, g5, g6, g7, g8⟩ := HALL.out w1 ⟨hb1.os, hb1.tape, hb1.output, hb1.size, hb1.block⟩
                      have HB1 := Lib.hid (HBW.out w1 ⟨hb1.os, hb1.tape, hb1.output, hb1.size, hb1.block⟩)
                      clear hb1
                      go_wp2_with (fail)
                      all_goals first
                        | (exfalso; omega)
                        | (go_ret; exact ⟨by rw [HF.out]; rfl, HB1.out⟩)
                  · have hvp : (v != 0) = true := by simp; exact hv
                    have hvq : 0 < v := by omega
                    have HF : Hid (errV (condF nr ⟨(a : Int), 8, v, 0, glob, ⟨ip, bits, lo, hi⟩⟩) = .iface 63 (.int .i64 3)) := by show _ = _; rw [HX.out, if_pos (HBD.out.2 (Or.inr (Or.inr (Or.inl ⟨by omega, hv⟩))))]; rfl
                    clear HX HBD hko HKK HZ HGE
                    try clear hnn
                    go_enter Tryz.func38, Tryz.ntmps38
                    go_wp2_with fail
                    go_region_held3 (fun W' : World => W'.cell? ⟨w.heap.size, 0, none⟩ = some (.int .i64 (a : Int))) (first | exact (HALL.out _ ((Below.refl _ _).trans ⟨rfl, rfl, rfl, Nat.le_refl _, fun _ _ => rfl⟩)).1 | exact (HALL.out _ ⟨hb1.os, hb1.tape, hb1.output, hb1.size, hb1.block⟩).1) (first
                      | (go_at_call 32; refine cargs (by simp [Act.eval]) ((HFR.out _).mono ?_); rintro e w1 ⟨rfl, hb1⟩))
                    obtain ⟨g0, g1, g2, g3, g4, g5, g6, g7, g8⟩ := HALL.out w1 ⟨hb1.os, hb1.tape, hb1.output, hb1.size, hb1.block⟩
                    have HB1 := Lib.hid (HBW.out w1 ⟨hb1.os, hb1.tape, hb1.output, hb1.size, hb1.block⟩)
                    clear hb1
                    go_wp2_with (fail)
                    all_goals first
                      | (exfalso; omega)
                      | (go_ret; exact ⟨by rw [HF.out]; rfl, HB1.out⟩)
                · have hmp : (m != 0) = true := by simp; exact hm
                  have hmq : 0 < m := by omega
                  have HF : Hid (errV (condF nr ⟨(a : Int), 8, v, m, glob, ⟨ip, bits, lo, hi⟩⟩) = .iface 63 (.int .i64 3)) := by show _ = _; rw [HX.out, if_pos (HBD.out.2 (Or.inr (Or.inl ⟨by omega, hm⟩)))]; rfl
                  clear HX HBD hko HKK HZ HGE
                  try clear hnn
                  go_enter Tryz.func38, Tryz.ntmps38
                  go_wp2_with fail
                  go_region_held3 (fun W' : World => W'.cell? ⟨w.heap.size, 0, none⟩ = some (.int .i64 (a : Int))) (first | exact (HALL.out _ ((Below.refl _ _).trans ⟨rfl, rfl, rfl, Nat.le_refl _, fun _ _ => rfl⟩)).1 | exact (HALL.out _ ⟨hb1.os, hb1.tape, hb1.output, hb1.size, hb1.block⟩).1) (first
                    | (go_at_call 32; refine cargs (by simp [Act.eval]) ((HFR.out _).mono ?_); rintro e w1 ⟨rfl, hb1⟩))
                  obtain ⟨g0, g1, g2, g3, g4, g5, g6, g7, g8⟩ := HALL.out w1 ⟨hb1.os, hb1.tape, hb1.output, hb1.size, hb1.block⟩
                  have HB1 := Lib.hid (HBW.out w1 ⟨hb1.os, hb1.tape, hb1.output, hb1.size, hb1.block⟩)
                  clear hb1
                  go_wp2_with (fail)
                  all_goals first
                    | (exfalso; omega)
                    | (go_ret; exact ⟨by rw [HF.out]; rfl, HB1.out⟩)
              · have hkq : (kk != 2) = true := by simp; exact hk
                have HF : Hid (errV (condF nr ⟨(a : Int), 8, v, m, glob, ⟨ip, bits, lo, hi⟩⟩) = .iface 63 (.int .i64 3)) := by show _ = _; rw [HX.out, if_pos (HBD.out.2 (Or.inl (by rw [← HKK.out]; exact hk)))]; rfl
                clear HX HBD hko HKK HZ HGE
                try clear hnn
                go_enter Tryz.func38, Tryz.ntmps38
                go_wp2_with fail
                go_region_held3 (fun W' : World => W'.cell? ⟨w.heap.size, 0, none⟩ = some (.int .i64 (a : Int))) (first | exact (HALL.out _ ((Below.refl _ _).trans ⟨rfl, rfl, rfl, Nat.le_refl _, fun _ _ => rfl⟩)).1 | exact (HALL.out _ ⟨hb1.os, hb1.tape, hb1.output, hb1.size, hb1.block⟩).1) (first
                  | (go_at_call 32; refine cargs (by simp [Act.eval]) ((HFR.out _).mono ?_); rintro e w1 ⟨rfl, hb1⟩))
                obtain ⟨g0, g1, g2, g3, g4, g5, g6, g7, g8⟩ := HALL.out w1 ⟨hb1.os, hb1.tape, hb1.output, hb1.size, hb1.block⟩
                have HB1 := Lib.hid (HBW.out w1 ⟨hb1.os, hb1.tape, hb1.output, hb1.size, hb1.block⟩)
                clear hb1
                go_wp2_with (fail)
                all_goals first
                  | (exfalso; omega)
                  | (go_ret; exact ⟨by rw [HF.out]; rfl, HB1.out⟩)
            · skip
              by_cases q9 : op = 9
              · subst q9
                have hko : kindOf 9 = 3 := rfl
                rw [hko] at HBD
                by_cases hk : kk = 3
                · subst hk
                  by_cases hm : m = 0
                  · subst hm
                    by_cases hv : v = 0
                    · subst hv
                      by_cases hgs : glob.size = 0
                      · have ge : glob.toList.isEmpty = true := by rw [HGE.out]; exact decide_eq_true hgs
                        have gl : ¬ (0 : Int) < (glob.size : Int) := by omega
                        have hnb : ¬ CondD.bad nr ⟨(a : Int), 9, 0, 0, glob, ⟨ip, bits, lo, hi⟩⟩ := fun hb => (show False from by
                          have hb2 := HBD.out.1 hb
                          rw [← HKK.out] at hb2
                          revert hb2
                          rintro (h | h | h | h | h) <;> first | exact h rfl | omega | exact h.2 hm | exact h.2 hv | exact h.2 hgs | exact h.2 rfl)
                        have HFI : condF nr ⟨(a : Int), 9, 0, 0, glob, ⟨ip, bits, lo, hi⟩⟩ = netF ⟨ip, bits, lo, hi⟩ := by rw [HX.out, if_neg hnb, if_neg (by omega), if_pos rfl]
                        have HF : Hid (errV (condF nr ⟨(a : Int), 9, 0, 0, glob, ⟨ip, bits, lo, hi⟩⟩) = NV) := by show _ = _; rw [HFI, HNV.out]
                        clear HFI hnb HX HBD hko HKK HZ HGE
                        try clear hnn
                        go_enter Tryz.func38, Tryz.ntmps38
                        go_wp2_with fail
                        go_region_held3 (fun W' : World => W'.cell? ⟨w.heap.size, 0, none⟩ = some (.int .i64 (a : Int))) (first | exact (HALL.out _ ((Below.refl _ _).trans ⟨rfl, rfl, rfl, Nat.le_refl _, fun _ _ => rfl⟩)).1 | exact (HALL.out _ ⟨hb1.os, hb1.tape, hb1.output, hb1.size, hb1.block⟩).1) (first
                          | (go_at_call 32; refine cargs (by simp [Act.eval]) ((HFR.out _).mono ?_); rintro e w1 ⟨rfl, hb1⟩))
                        obtain ⟨g0, g1, g2, g3, g4, g5, g6, g7, g8⟩ := HALL.out w1 ⟨hb1.os, hb1.tape, hb1.output, hb1.size, hb1.block⟩
                        have HB1 := Lib.hid (HBW.out w1 ⟨hb1.os, hb1.tape, hb1.output, hb1.size, hb1.block⟩)
                        clear hb1
                        go_wp2_with ((go_at_call 63; refine cargs (by simp [Act.eval]) ((HNC.out _).mono ?_); rintro e w3 ⟨rfl, hb3⟩))
                        all_goals first
                          | (exfalso; omega)
                          | (go_ret; exact ⟨by rw [HF.out]; rfl, HB1.out.trans (hb3.mono HB1.out.size)⟩)
                      · have ge : glob.toList.isEmpty = false := by rw [HGE.out]; exact decide_eq_false hgs
                        have gl : (0 : Int) < (glob.size : Int) := by omega
                        have gl2 : 0 < glob.size := by omega
                        have HF : Hid (errV (condF nr ⟨(a : Int), 9, 0, 0, glob, ⟨ip, bits, lo, hi⟩⟩) = .iface 63 (.int .i64 3)) := by show _ = _; rw [HX.out, if_pos (HBD.out.2 (Or.inr (Or.inr (Or.inr (Or.inl ⟨by omega, hgs⟩)))))]; rfl
                        clear HX HBD hko HKK HZ HGE
                        try clear hnn
                        go_enter Tryz.func38, Tryz.ntmps38
                        go_wp2_with fail
                        go_region_held3 (fun W' : World => W'.cell? ⟨w.heap.size, 0, none⟩ = some (.int .i64 (a : Int))) (first | exact (HALL.out _ ((Below.refl _ _).trans ⟨rfl, rfl, rfl, Nat.le_refl _, fun _ _ => rfl⟩)).1 | exact (HALL.out _ ⟨hb1.os, hb1.tape, hb1.output, hb1.size, hb1.block⟩).1) (first
                          | (go_at_call 32; refine cargs (by simp [Act.eval]) ((HFR.out _).mono ?_); rintro e w1 ⟨rfl, hb1⟩))
                        obtain ⟨g0, g1, g2, g3, g4, g5, g6, g7, g8⟩ := HALL.out w1 ⟨hb1.os, hb1.tape, hb1.output, hb1.size, hb1.block⟩
                        have HB1 := Lib.hid (HBW.out w1 ⟨hb1.os, hb1.tape, hb1.output, hb1.size, hb1.block⟩)
                        clear hb1
                        go_wp2_with (fail)
                        all_goals first
                          | (exfalso; omega)
                          | (go_ret; exact ⟨by rw [HF.out]; rfl, HB1.out⟩)
                    · have hvp : (v != 0) = true := by simp; exact hv
                      have hvq : 0 < v := by omega
                      have HF : Hid (errV (condF nr ⟨(a : Int), 9, v, 0, glob, ⟨ip, bits, lo, hi⟩⟩) = .iface 63 (.int .i64 3)) := by show _ = _; rw [HX.out, if_pos (HBD.out.2 (Or.inr (Or.inr (Or.inl ⟨by omega, hv⟩))))]; rfl
                      clear HX HBD hko HKK HZ HGE
                      try clear hnn
                      go_enter Tryz.func38, Tryz.ntmps38
                      go_wp2_with fail
                      go_region_held3 (fun W' : World => W'.cell? ⟨w.heap.size, 0, none⟩ = some (.int .i64 (a : Int))) (first | exact (HALL.out _ ((Below.refl _ _).trans ⟨rfl, rfl, rfl, Nat.le_refl _, fun _ _ => rfl⟩)).1 | exact (HALL.out _ ⟨hb1.os, hb1.tape, hb1.output, hb1.size, hb1.block⟩).1) (first
                        | (go_at_call 32; refine cargs (by simp [Act.eval]) ((HFR.out _).mono ?_); rintro e w1 ⟨rfl, hb1⟩))
                      obtain ⟨g0, g1, g2, g3, g4, g5, g6, g7, g8⟩ := HALL.out w1 ⟨hb1.os, hb1.tape, hb1.output, hb1.size, hb1.block⟩
                      have HB1 := Lib.hid (HBW.out w1 ⟨hb1.os, hb1.tape, hb1.output, hb1.size, hb1.block⟩)
                      clear hb1
                      go_wp2_with (fail)
                      all_goals first
                        | (exfalso; omega)
                        | (go_ret; exact ⟨by rw [HF.out]; rfl, HB1.out⟩)
                  · have hmp : (m != 0) = true := by simp; exact hm
                    have hmq : 0 < m := by omega
                    have HF : Hid (errV (condF nr ⟨(a : Int), 9, v, m, glob, ⟨ip, bits, lo, hi⟩⟩) = .iface 63 (.int .i64 3)) := by show _ = _; rw [HX.out, if_pos (HBD.out.2 (Or.inr (Or.inl ⟨by omega, hm⟩)))]; rfl
                    clear HX HBD hko HKK HZ HGE
                    try clear hnn
                    go_enter Tryz.func38, Tryz.ntmps38
                    go_wp2_with fail
                    go_region_held3 (fun W' : World => W'.cell? ⟨w.heap.size, 0, none⟩ = some (.int .i64 (a : Int))) (first | exact (HALL.out _ ((Below.refl _ _).trans ⟨rfl, rfl, rfl, Nat.le_refl _, fun _ _ => rfl⟩)).1 | exact (HALL.out _ ⟨hb1.os, hb1.tape, hb1.output, hb1.size, hb1.block⟩).1) (first
                      | (go_at_call 32; refine cargs (by simp [Act.eval]) ((HFR.out _).mono ?_); rintro e w1 ⟨rfl, hb1⟩))
                    obtain ⟨g0, g1, g2, g3, g4, g5, g6, g7, g8⟩ := HALL.out w1 ⟨hb1.os, hb1.tape, hb1.output, hb1.size, hb1.block⟩
                    have HB1 := Lib.hid (HBW.out w1 ⟨hb1.os, hb1.tape, hb1.output, hb1.size, hb1.block⟩)
                    clear hb1
                    go_wp2_with (fail)
                    all_goals first
                      | (exfalso; omega)
                      | (go_ret; exact ⟨by rw [HF.out]; rfl, HB1.out⟩)
                · have hkq : (kk != 3) = true := by simp; exact hk
                  have HF : Hid (errV (condF nr ⟨(a : Int), 9, v, m, glob, ⟨ip, bits, lo, hi⟩⟩) = .iface 63 (.int .i64 3)) := by show _ = _; rw [HX.out, if_pos (HBD.out.2 (Or.inl (by rw [← HKK.out]; exact hk)))]; rfl
                  clear HX HBD hko HKK HZ HGE
                  try clear hnn
                  go_enter Tryz.func38, Tryz.ntmps38
                  go_wp2_with fail
                  go_region_held3 (fun W' : World => W'.cell? ⟨w.heap.size, 0, none⟩ = some (.int .i64 (a : Int))) (first | exact (HALL.out _ ((Below.refl _ _).trans ⟨rfl, rfl, rfl, Nat.le_refl _, fun _ _ => rfl⟩)).1 | exact (HALL.out _ ⟨hb1.os, hb1.tape, hb1.output, hb1.size, hb1.block⟩).1) (first
                    | (go_at_call 32; refine cargs (by simp [Act.eval]) ((HFR.out _).mono ?_); rintro e w1 ⟨rfl, hb1⟩))
                  obtain ⟨g0, g1, g2, g3, g4, g5, g6, g7, g8⟩ := HALL.out w1 ⟨hb1.os, hb1.tape, hb1.output, hb1.size, hb1.block⟩
                  have HB1 := Lib.hid (HBW.out w1 ⟨hb1.os, hb1.tape, hb1.output, hb1.size, hb1.block⟩)
                  clear hb1
                  go_wp2_with (fail)
                  all_goals first
                    | (exfalso; omega)
                    | (go_ret; exact ⟨by rw [HF.out]; rfl, HB1.out⟩)
              · skip
                have hko : kindOf op = 1 := by unfold kindOf; rw [if_neg (by omega), if_neg (by omega)]
                rw [hko] at HBD
                have hop6 : op < 7 := by omega
                have hop1 : 1 ≤ op := by omega
                have hop7 : ¬ (7 : Int) < op := by omega
                by_cases hk : kk = 1
                · subst hk
                  by_cases hm : m = 0
                  · subst hm
                    by_cases hgs : glob.size = 0
                    · have ge : glob.toList.isEmpty = true := by rw [HGE.out]; exact decide_eq_true hgs
                      have gl : ¬ (0 : Int) < (glob.size : Int) := by omega
                      by_cases hnn : (⟨ip, bits, lo, hi⟩ : NetD) = ⟨0, 0, 0, 0⟩
                      · have hzf : Z = false := by rw [HZ.out]; exact decide_eq_false (fun h => h hnn)
                        subst hzf
                        have hnb : ¬ CondD.bad nr ⟨(a : Int), op, v, 0, glob, ⟨ip, bits, lo, hi⟩⟩ := fun hb => (show False from by
                          have hb2 := HBD.out.1 hb
                          rw [← HKK.out] at hb2
                          revert hb2
                          rintro (h | h | h | h | h) <;> first | exact h rfl | omega | exact h.2 hm | exact h.2 hgs | exact h.2 hnn | exact h.2 rfl)
                        have HFI : condF nr ⟨(a : Int), op, v, 0, glob, ⟨ip, bits, lo, hi⟩⟩ = 0 := by rw [HX.out, if_neg hnb, if_neg (by omega), if_neg (by omega)]
                        have HF : Hid (errV (condF nr ⟨(a : Int), op, v, 0, glob, ⟨ip, bits, lo, hi⟩⟩) = .nilIface) := by show _ = _; rw [HFI]; rfl
                        clear HFI hnb HX HBD hko HKK HZ HGE
                        try clear hnn
                        go_enter Tryz.func38, Tryz.ntmps38
                        go_wp2_with fail
                        go_region_held3 (fun W' : World => W'.cell? ⟨w.heap.size, 0, none⟩ = some (.int .i64 (a : Int))) (first | exact (HALL.out _ ((Below.refl _ _).trans ⟨rfl, rfl, rfl, Nat.le_refl _, fun _ _ => rfl⟩)).1 | exact (HALL.out _ ⟨hb1.os, hb1.tape, hb1.output, hb1.size, hb1.block⟩).1) (first
                          | (go_at_call 32; refine cargs (by simp [Act.eval]) ((HFR.out _).mono ?_); rintro e w1 ⟨rfl, hb1⟩))
                        obtain ⟨g0, g1, g2, g3, g4, g5, g6, g7, g8⟩ := HALL.out w1 ⟨hb1.os, hb1.tape, hb1.output, hb1.size, hb1.block⟩
                        have HB1 := Lib.hid (HBW.out w1 ⟨hb1.os, hb1.tape, hb1.output, hb1.size, hb1.block⟩)
                        clear hb1
                        go_wp2_with (fail)
                        all_goals first
                          | (exfalso; omega)
                          | (go_ret; exact ⟨by rw [HF.out]; rfl, HB1.out⟩)
                      · have hzf : Z = true := by rw [HZ.out]; exact decide_eq_true hnn
                        subst hzf
                        have HF : Hid (errV (condF nr ⟨(a : Int), op, v, 0, glob, ⟨ip, bits, lo, hi⟩⟩) = .iface 63 (.int .i64 3)) := by show _ = _; rw [HX.out, if_pos (HBD.out.2 (Or.inr (Or.inr (Or.inr (Or.inr ⟨by omega, hnn⟩)))))]; rfl
                        clear HX HBD hko HKK HZ HGE
                        try clear hnn
                        go_enter Tryz.func38, Tryz.ntmps38
                        go_wp2_with fail
                        go_region_held3 (fun W' : World => W'.cell? ⟨w.heap.size, 0, none⟩ = some (.int .i64 (a : Int))) (first | exact (HALL.out _ ((Below.refl _ _).trans ⟨rfl, rfl, rfl, Nat.le_refl _, fun _ _ => rfl⟩)).1 | exact (HALL.out _ ⟨hb1.os, hb1.tape, hb1.output, hb1.size, hb1.block⟩).1) (first
                          | (go_at_call 32; refine cargs (by simp [Act.eval]) ((HFR.out _).mono ?_); rintro e w1 ⟨rfl, hb1⟩))
                        obtain ⟨g0, g1, g2, g3, g4, g5, g6, g7, g8⟩ := HALL.out w1 ⟨hb1.os, hb1.tape, hb1.output, hb1.size, hb1.block⟩
                        have HB1 := Lib.hid (HBW.out w1 ⟨hb1.os, hb1.tape, hb1.output, hb1.size, hb1.block⟩)
                        clear hb1
                        go_wp2_with (fail)
                        all_goals first
                          | (exfalso; omega)
                          | (go_ret; exact ⟨by rw [HF.out]; rfl, HB1.out⟩)
                    · have ge : glob.toList.isEmpty = false := by rw [HGE.out]; exact decide_eq_false hgs
                      have gl : (0 : Int) < (glob.size : Int) := by omega
                      have gl2 : 0 < glob.size := by omega
                      have HF : Hid (errV (condF nr ⟨(a : Int), op, v, 0, glob, ⟨ip, bits, lo, hi⟩⟩) = .iface 63 (.int .i64 3)) := by show _ = _; rw [HX.out, if_pos (HBD.out.2 (Or.inr (Or.inr (Or.inr (Or.inl ⟨by omega, hgs⟩)))))]; rfl
                      clear HX HBD hko HKK HZ HGE
                      try clear hnn
                      go_enter Tryz.func38, Tryz.ntmps38
                      go_wp2_with fail
                      go_region_held3 (fun W' : World => W'.cell? ⟨w.heap.size, 0, none⟩ = some (.int .i64 (a : Int))) (first | exact (HALL.out _ ((Below.refl _ _).trans ⟨rfl, rfl, rfl, Nat.le_refl _, fun _ _ => rfl⟩)).1 | exact (HALL.out _ ⟨hb1.os, hb1.tape, hb1.output, hb1.size, hb1.block⟩).1) (first
                        | (go_at_call 32; refine cargs (by simp [Act.eval]) ((HFR.out _).mono ?_); rintro e w1 ⟨rfl, hb1⟩))
                      obtain ⟨g0, g1, g2, g3, g4, g5, g6, g7, g8⟩ := HALL.out w1 ⟨hb1.os, hb1.tape, hb1.output, hb1.size, hb1.block⟩
                      have HB1 := Lib.hid (HBW.out w1 ⟨hb1.os, hb1.tape, hb1.output, hb1.size, hb1.block⟩)
                      clear hb1
                      go_wp2_with (fail)
                      all_goals first
                        | (exfalso; omega)
                        | (go_ret; exact ⟨by rw [HF.out]; rfl, HB1.out⟩)
                  · have hmp : (m != 0) = true := by simp; exact hm
                    have hmq : 0 < m := by omega
                    have HF : Hid (errV (condF nr ⟨(a : Int), op, v, m, glob, ⟨ip, bits, lo, hi⟩⟩) = .iface 63 (.int .i64 3)) := by show _ = _; rw [HX.out, if_pos (HBD.out.2 (Or.inr (Or.inl ⟨by omega, hm⟩)))]; rfl
                    clear HX HBD hko HKK HZ HGE
                    try clear hnn
                    go_enter Tryz.func38, Tryz.ntmps38
                    go_wp2_with fail
                    go_region_held3 (fun W' : World => W'.cell? ⟨w.heap.size, 0, none⟩ = some (.int .i64 (a : Int))) (first | exact (HALL.out _ ((Below.refl _ _).trans ⟨rfl, rfl, rfl, Nat.le_refl _, fun _ _ => rfl⟩)).1 | exact (HALL.out _ ⟨hb1.os, hb1.tape, hb1.output, hb1.size, hb1.block⟩).1) (first
                      | (go_at_call 32; refine cargs (by simp [Act.eval]) ((HFR.out _).mono ?_); rintro e w1 ⟨rfl, hb1⟩))
                    obtain ⟨g0, g1, g2, g3, g4, g5, g6, g7, g8⟩ := HALL.out w1 ⟨hb1.os, hb1.tape, hb1.output, hb1.size, hb1.block⟩
                    have HB1 := Lib.hid (HBW.out w1 ⟨hb1.os, hb1.tape, hb1.output, hb1.size, hb1.block⟩)
                    clear hb1
                    go_wp2_with (fail)
                    all_goals first
                      | (exfalso; omega)
                      | (go_ret; exact ⟨by rw [HF.out]; rfl, HB1.out⟩)
                · have hkq : (kk != 1) = true := by simp; exact hk
                  have HF : Hid (errV (condF nr ⟨(a : Int), op, v, m, glob, ⟨ip, bits, lo, hi⟩⟩) = .iface 63 (.int .i64 3)) := by show _ = _; rw [HX.out, if_pos (HBD.out.2 (Or.inl (by rw [← HKK.out]; exact hk)))]; rfl
                  clear HX HBD hko HKK HZ HGE
                  try clear hnn
                  go_enter Tryz.func38, Tryz.ntmps38
                  go_wp2_with fail
                  go_region_held3 (fun W' : World => W'.cell? ⟨w.heap.size, 0, none⟩ = some (.int .i64 (a : Int))) (first | exact (HALL.out _ ((Below.refl _ _).trans ⟨rfl, rfl, rfl, Nat.le_refl _, fun _ _ => rfl⟩)).1 | exact (HALL.out _ ⟨hb1.os, hb1.tape, hb1.output, hb1.size, hb1.block⟩).1) (first
                    | (go_at_call 32; refine cargs (by simp [Act.eval]) ((HFR.out _).mono ?_); rintro e w1 ⟨rfl, hb1⟩))
                  obtain ⟨g0, g1, g2, g3, g4, g5, g6, g7, g8⟩ := HALL.out w1 ⟨hb1.os, hb1.tape, hb1.output, hb1.size, hb1.block⟩
                  have HB1 := Lib.hid (HBW.out w1 ⟨hb1.os, hb1.tape, hb1.output, hb1.size, hb1.block⟩)
                  clear hb1
                  go_wp2_with (fail)
                  all_goals first
                    | (exfalso; omega)
                    | (go_ret; exact ⟨by rw [HF.out]; rfl, HB1.out⟩)

end Go.Proofs.YtmgngapkgcofnaaGreatDoor
/- policy.Check: the walk. -/
namespace Go.Proofs.YtmgngapkgcofnaaGreatDoor
open Go.RowKit

theorem cell4 (w : World) (p q r s : Value) (t : TypeId) (W : World) (h : Below (w.alloc (.cells #[p, q, r, s] t)).heap.size (w.alloc (.cells #[p, q, r, s] t)) W) :
    W.cell? ⟨w.heap.size, 0, none⟩ = some p ∧ W.cell? ⟨w.heap.size, 1, none⟩ = some q ∧ W.cell? ⟨w.heap.size, 2, none⟩ = some r ∧ W.cell? ⟨w.heap.size, 3, none⟩ = some s := by
  have hs : w.heap.size < (w.alloc (.cells #[p, q, r, s] t)).heap.size := by simp
  refine ⟨?_, ?_, ?_, ?_⟩ <;> (rw [h.cell (p := ⟨w.heap.size, _, none⟩) hs, cell_of_row _ _ _ _ _ _ (heap_alloc_new _ _)]; rfl)
theorem cell3 (w : World) (p q r : Value) (t : TypeId) (W : World) (h : Below (w.alloc (.cells #[p, q, r] t)).heap.size (w.alloc (.cells #[p, q, r] t)) W) :
    W.cell? ⟨w.heap.size, 0, none⟩ = some p ∧ W.cell? ⟨w.heap.size, 1, none⟩ = some q ∧ W.cell? ⟨w.heap.size, 2, none⟩ = some r := by
  have hs : w.heap.size < (w.alloc (.cells #[p, q, r] t)).heap.size := by simp
  refine ⟨?_, ?_, ?_⟩ <;> (rw [h.cell (p := ⟨w.heap.size, _, none⟩) hs, cell_of_row _ _ _ _ _ _ (heap_alloc_new _ _)]; rfl)
theorem cell9 (w : World) (a b c d e f g i j : Value) (t : TypeId) (W : World) (h : Below (w.alloc (.cells #[a, b, c, d, e, f, g, i, j] t)).heap.size (w.alloc (.cells #[a, b, c, d, e, f, g, i, j] t)) W) :
    W.cell? ⟨w.heap.size, 0, none⟩ = some a ∧ W.cell? ⟨w.heap.size, 1, none⟩ = some b ∧ W.cell? ⟨w.heap.size, 2, none⟩ = some c ∧ W.cell? ⟨w.heap.size, 3, none⟩ = some d ∧ W.cell? ⟨w.heap.size, 4, none⟩ = some e ∧ W.cell? ⟨w.heap.size, 5, none⟩ = some f ∧ W.cell? ⟨w.heap.size, 6, none⟩ = some g ∧ W.cell? ⟨w.heap.size, 7, none⟩ = some i ∧ W.cell? ⟨w.heap.size, 8, none⟩ = some j := by
  have hs : w.heap.size < (w.alloc (.cells #[a, b, c, d, e, f, g, i, j] t)).heap.size := by simp
  refine ⟨?_, ?_, ?_, ?_, ?_, ?_, ?_, ?_, ?_⟩ <;> (rw [h.cell (p := ⟨w.heap.size, _, none⟩) hs, cell_of_row _ _ _ _ _ _ (heap_alloc_new _ _)]; rfl)
theorem above (w : World) (o : Obj) (W : World) (h : Below (w.alloc o).heap.size (w.alloc o) W) : Below w.heap.size w W := ((Below.refl _ _).alloc (Nat.le_refl _) _).trans (h.mono (by simp))

set_option linter.unusedSimpArgs false in
set_option maxRecDepth 100000 in
set_option maxHeartbeats 4000000 in
theorem polCheck_any (v : Value) (p : PolD) (w : World) (h : PolAt w w.heap.size v p) (hg : ∀ r ∈ p.rules, ∀ c ∈ r.conds, c.glob.size ≤ 100000) (hl : p.rules.length ≤ 100000) (hcl : ∀ r ∈ p.rules, r.conds.length ≤ 100000) :
    Calls Tryz.prog 17 #[v] w fun e w' => e = .returned (errV (polF p)) ∧ Below w.heap.size w w' := by
  obtain ⟨A, cp, rfl, hr⟩ := h
  obtain ⟨A1, cp1, hA, hr⟩ := hr
  obtain ⟨rfl, rfl⟩ : A = A1 ∧ cp = cp1 := by simpa using hA
  clear hA
  obtain ⟨rules, pk, pe⟩ := p
  simp only at hr hg hl hcl ⊢
  have HR := Lib.hid hr
  have HG := Lib.hid hg
  have HCL := Lib.hid hcl
  clear hr hg hcl
  have HAC : Hid (∀ k e (w : World), Calls Tryz.prog 37 #[.agg #[.int .i64 k, .int .i64 e]] w fun e' w' => e' = .returned (errV (actF k e)) ∧ Below w.heap.size w w') := fun k e w => checkAction_any k e w
  by_cases h12 : 12 < rules.length
  · have HF : Hid (errV (polF ⟨rules, pk, pe⟩) = .iface 63 (.int .i64 2)) := by show _ = _; unfold polF; rw [if_pos h12]; rfl
    have x1 : (12 : Int) < (rules.length : Int) := by omega
    clear h12
    go_enter Tryz.func17, Tryz.ntmps17
    go_wp2_with fail
    go_ret
    exact ⟨by rw [HF.out]; rfl, by go_grown⟩
  · have x1 : ¬ (12 : Int) < (rules.length : Int) := by omega
    by_cases ha : actF pk pe = 0
    · have HF0 : Hid (polF ⟨rules, pk, pe⟩ = firstNZ ruleF rules) := by show _ = _; unfold polF; rw [if_neg h12, if_neg (fun k => k ha)]
      have HA0 : Hid (∀ w : World, Calls Tryz.prog 37 #[.agg #[.int .i64 pk, .int .i64 pe]] w fun e' w' => e' = .returned .nilIface ∧ Below w.heap.size w w') := fun w => by
        have := HAC.out pk pe w
        rw [ha] at this; exact this
      have HC3 := Lib.hid (cell3 w (.slice A rules.length cp) (.int .i64 pk) (.int .i64 pe) 27)
      have HAB := Lib.hid (above w (.cells #[.slice A rules.length cp, .int .i64 pk, .int .i64 pe] 27))
      clear ha h12
      go_enter Tryz.func17, Tryz.ntmps17
      go_upto_region 6 with (go_at_call 37; refine cargs (by simp [Act.eval]) ((HA0.out _).mono ?_); rintro e w1 ⟨rfl, hb1⟩; obtain ⟨p0, p1, p2⟩ := HC3.out w1 hb1; have HB1 := Lib.hid (HAB.out w1 hb1); clear hb1)
      go_wp2_with fail
      go_loopw [22] (fun iv wr => ∃ i : Nat, i ≤ rules.length ∧ iv = .int .i64 i ∧ Hid (∀ (j : Nat) y, j < i → rules[j]? = some y → ruleF y = 0) ∧ Hid (Below w.heap.size w wr)) (fun iv _ => rules.length - (intOf iv).toNat)
      case atStart => exact ⟨0, Nat.zero_le _, rfl, fun j y hj _ => absurd hj (Nat.not_lt_zero j), HB1⟩
      case round =>
        obtain ⟨i, hi, rfl, hZ, hBw⟩ := hrel
        by_cases hlt : i < rules.length
        · have x2 : (i : Int) < (rules.length : Int) := by omega
          have x3 : (0 : Int) ≤ (i : Int) := by omega
          have hli : rules[i]? = some rules[i] := by simp
          obtain ⟨b, o, rfl, hb, hrow⟩ := HR.out.resolve_left (by intro e; rw [e] at hlt; simp at hlt)
          obtain ⟨A', c', hcs, hrg⟩ := hrow i _ hli
          have hrg2 := rangeAt_below hrg hBw.out hb
          have hcs2 := hcs.below hBw.out (Nat.le_refl _)
          have HN : Hid (ruleF rules[i] ≠ 0 → firstNZ ruleF rules = ruleF rules[i]) := fun h1 => firstNZ_at ruleF rules i rules[i] hli h1 hZ.out
          have HG2 : Hid (∀ c ∈ rules[i].conds, c.glob.size ≤ 100000) := fun c hc => HG.out rules[i] (by simp) c hc
          have hcl2 := HCL.out rules[i] (by simp)
          have HZ2 : Hid (ruleF rules[i] = 0 → ∀ (j : Nat) y, j < i + 1 → rules[j]? = some y → ruleF y = 0) := fun h0 j y hj hy => by
            by_cases e : j = i
            · subst e; rw [hli] at hy; obtain rfl := Option.some.inj hy; exact h0
            · exact hZ.out j y (by omega) hy
          clear hrg hcs hrow hli hZ
          generalize rules[i] = R at *
          obtain ⟨nr, conds, rk, re⟩ := R
          simp only at hrg2 hcs2 hcl2 HG2
          have f0 : wr.cell? ⟨b, o + i * 4, none⟩ = some (.int .i64 nr) := hrg2 0 _ rfl
          have f1 := hrg2 1 _ rfl
          have f2 := hrg2 2 _ rfl
          have f3 := hrg2 3 _ rfl
          clear hrg2
          have HCS := Lib.hid hcs2
          clear hcs2
          have HC4 := Lib.hid (cell4 wr (.int .i64 nr) (.slice A' conds.length c') (.int .i64 rk) (.int .i64 re) 73)
          have HAB4 := Lib.hid (above wr (.cells #[.int .i64 nr, .slice A' conds.length c', .int .i64 rk, .int .i64 re] 73))
          have hsz1 : wr.heap.size < (wr.alloc (.cells #[.int .i64 nr, .slice A' conds.length c', .int .i64 rk, .int .i64 re] 73)).heap.size := by simp
          go_upto_region 9 with fail
          generalize wr.alloc (.cells #[.int .i64 nr, .slice A' conds.length c', .int .i64 rk, .int .i64 re] 73) = W1 at *
          obtain ⟨g0, g1, g2, g3⟩ := HC4.out W1 (Below.refl _ _)
          have HB4 := Lib.hid (HAB4.out W1 (Below.refl _ _))
          have HBW1 : Hid (Below w.heap.size w W1) := hBw.out.trans (HB4.out.mono hBw.out.size)
          clear f0 f1 f2 f3 HAB4
          by_cases n0 : nr < 0
          · have hrf : ruleF ⟨nr, conds, rk, re⟩ = 1 := by unfold ruleF; rw [if_pos (Or.inl n0)]
            have HFE : Hid (errV (polF ⟨rules, pk, pe⟩) = .iface 63 (.int .i64 1)) := by show _ = _; rw [HF0.out, HN.out (by rw [hrf]; omega), hrf]; rfl
            clear hrf
            go_wp2_with fail
            go_ret
            exact ⟨by rw [HFE.out]; rfl, HBW1.out⟩
          · by_cases n8 : 9 ≤ nr
            · have hrf : ruleF ⟨nr, conds, rk, re⟩ = 1 := by unfold ruleF; rw [if_pos (Or.inr (by simp only; omega))]
              have HFE : Hid (errV (polF ⟨rules, pk, pe⟩) = .iface 63 (.int .i64 1)) := by show _ = _; rw [HF0.out, HN.out (by rw [hrf]; omega), hrf]; rfl
              clear hrf
              go_wp2_with fail
              go_ret
              exact ⟨by rw [HFE.out]; rfl, HBW1.out⟩
            · have hnr : ¬ (nr < 0 ∨ 8 < nr) := by omega
              by_cases c4 : 4 < conds.length
              · have y1 : (4 : Int) < (conds.length : Int) := by omega
                have hrf : ruleF ⟨nr, conds, rk, re⟩ = 2 := by unfold ruleF; rw [if_neg hnr, if_pos c4]
                have HFE : Hid (errV (polF ⟨rules, pk, pe⟩) = .iface 63 (.int .i64 2)) := by show _ = _; rw [HF0.out, HN.out (by rw [hrf]; omega), hrf]; rfl
                clear hrf
                clear c4
                go_wp2_with fail
                go_ret
                exact ⟨by rw [HFE.out]; rfl, HBW1.out⟩
              · have y1 : ¬ (4 : Int) < (conds.length : Int) := by omega
                obtain ⟨n, rfl⟩ : ∃ n : Nat, nr = n := ⟨nr.toNat, by omega⟩
                have hn9 : n < 9 := by omega
                have hrf : ruleF ⟨(n : Int), conds, rk, re⟩ = if firstNZ (condF n) conds ≠ 0 then firstNZ (condF n) conds else actF rk re := by unfold ruleF; rw [if_neg hnr, if_neg c4]; simp
                have HRF := Lib.hid hrf
                clear hrf hnr c4 n0 n8
                go_wp2_with fail
                go_loopw [43] (fun kv wr => ∃ k : Nat, k ≤ conds.length ∧ kv = .int .i64 k ∧ Hid (∀ (j : Nat) y, j < k → conds[j]? = some y → condF n y = 0) ∧ Hid (Below W1.heap.size W1 wr)) (fun kv _ => conds.length - (intOf kv).toNat)
                case atStart => exact ⟨0, Nat.zero_le _, rfl, fun j y hj _ => absurd hj (Nat.not_lt_zero j), Below.refl _ _⟩
                case round =>
                  obtain ⟨k, hk, rfl, hZk, hB2⟩ := hrel
                  have HBW2 : Hid (Below w.heap.size w wr) := HBW1.out.trans (hB2.out.mono HBW1.out.size)
                  by_cases hkl : k < conds.length
                  · have y2 : (k : Int) < (conds.length : Int) := by omega
                    have y3 : (0 : Int) ≤ (k : Int) := by omega
                    have hlk : conds[k]? = some conds[k] := by simp
                    have hcs3 := (HCS.out.below (HB4.out) (by have := hBw.out.size; omega)).below hB2.out (by have := HBW1.out.size; omega)
                    obtain ⟨hcok, A2, c2, hA2, hrw⟩ := hcs3
                    obtain ⟨rfl, rfl⟩ : A' = A2 ∧ c' = c2 := by simpa using hA2
                    obtain ⟨b2, o2, rfl, hb2, hrow2⟩ := hrw.resolve_left (by intro e; rw [e] at hkl; simp at hkl)
                    have hr9 := hrow2 k _ hlk
                    have HNk : Hid (condF n conds[k] ≠ 0 → firstNZ (condF n) conds = condF n conds[k]) := fun h1 => firstNZ_at (condF n) conds k conds[k] hlk h1 hZk.out
                    have HZ3 : Hid (condF n conds[k] = 0 → ∀ (j : Nat) y, j < k + 1 → conds[j]? = some y → condF n y = 0) := fun h0 j y hj hy => by
                      by_cases e : j = k
                      · subst e; rw [hlk] at hy; obtain rfl := Option.some.inj hy; exact h0
                      · exact hZk.out j y (by omega) hy
                    have HCC : Hid (∀ W : World, Calls Tryz.prog 38 #[.int .i64 n, conds[k].val] W fun e w' => e = .returned (errV (condF n conds[k])) ∧ Below W.heap.size W w') := fun W => checkCond_any n conds[k] W hn9 (hcok _ (by simp)) (HG2.out _ (by simp))
                    clear hcok hA2 hrw hrow2 hlk hZk
                    generalize conds[k] = CC at *
                    obtain ⟨arg, op, v, m, glob, ⟨ip, bits, lo, hi⟩⟩ := CC
                    have e0 : wr.cell? ⟨b2, o2 + k * 9, none⟩ = some (.int .i64 arg) := hr9 0 _ rfl
                    have e1 := hr9 1 _ rfl
                    have e2 := hr9 2 _ rfl
                    have e3 := hr9 3 _ rfl
                    have e4 := hr9 4 _ rfl
                    have e5 := hr9 5 _ rfl
                    have e6 := hr9 6 _ rfl
                    have e7 := hr9 7 _ rfl
                    have e8 := hr9 8 _ rfl
                    simp only at e1 e2 e3 e4 e5 e6 e7 e8
                    have HC9 := Lib.hid (cell9 wr (.int .i64 arg) (.int .i64 op) (.int .u64 v) (.int .u64 m) (.string glob) (.int .u32 ip) (.int .i64 bits) (.int .i64 lo) (.int .i64 hi) 84)
                    have HAB9 := Lib.hid (above wr (.cells #[.int .i64 arg, .int .i64 op, .int .u64 v, .int .u64 m, .string glob, .int .u32 ip, .int .i64 bits, .int .i64 lo, .int .i64 hi] 84))
                    unfold CondD.val at HCC
                    simp only at HCC
                    clear hr9
                    go_upto_region 16 with fail
                    generalize wr.alloc (.cells #[.int .i64 arg, .int .i64 op, .int .u64 v, .int .u64 m, .string glob, .int .u32 ip, .int .i64 bits, .int .i64 lo, .int .i64 hi] 84) = W3 at *
                    obtain ⟨j0, j1, j2, j3, j4, j5, j6, j7, j8⟩ := HC9.out W3 (Below.refl _ _)
                    have HB3 := Lib.hid (HAB9.out W3 (Below.refl _ _))
                    have HB13 : Hid (Below W1.heap.size W1 W3) := hB2.out.trans (HB3.out.mono hB2.out.size)
                    obtain ⟨r0, r1, r2, r3⟩ := HC4.out W3 HB13.out
                    have HBW3 : Hid (Below w.heap.size w W3) := HBW1.out.trans (HB13.out.mono HBW1.out.size)
                    clear e0 e1 e2 e3 e4 e5 e6 e7 e8 HAB9 HC9
                    by_cases hz : condF n ⟨arg, op, v, m, glob, ⟨ip, bits, lo, hi⟩⟩ = 0
                    · have HZ4 := Lib.hid (HZ3.out hz)
                      rw [hz] at HCC
                      clear hz HNk HZ3
                      have HCC2 : Hid (∀ W : World, Calls Tryz.prog 38 #[.int .i64 n, .agg #[.int .i64 arg, .int .i64 op, .int .u64 v, .int .u64 m, .string glob, .int .u32 ip, .int .i64 bits, .int .i64 lo, .int .i64 hi]] W fun e w' => e = .returned .nilIface ∧ Below W.heap.size W w') := HCC.out
                      clear HCC
                      go_wp2_with (go_at_call 38; refine cargs (by simp [Act.eval]) ((HCC2.out _).mono ?_); rintro e w4 ⟨rfl, hb4⟩; have HB4' := Lib.hid hb4; clear hb4)
                      go_roundw
                      case rel => exact ⟨k + 1, by omega, by go_num, HZ4, HB13.out.trans (HB4'.out.mono HB13.out.size)⟩
                      case measure => simp [intOf]; omega
                    · have hrf : ruleF ⟨(n : Int), conds, rk, re⟩ = condF n ⟨arg, op, v, m, glob, ⟨ip, bits, lo, hi⟩⟩ := by rw [HRF.out, HNk.out hz, if_pos hz]
                      have HFE : Hid (errV (polF ⟨rules, pk, pe⟩) = .iface 63 (.int .i64 (condF n ⟨arg, op, v, m, glob, ⟨ip, bits, lo, hi⟩⟩))) := by show _ = _; rw [HF0.out, HN.out (by rw [hrf]; exact hz), hrf, errV_pos hz]
                      rw [errV_pos hz] at HCC
                      clear hz HNk HZ3 hrf
                      generalize condF n ⟨arg, op, v, m, glob, ⟨ip, bits, lo, hi⟩⟩ = cf at *
                      have HCC2 : Hid (∀ W : World, Calls Tryz.prog 38 #[.int .i64 n, .agg #[.int .i64 arg, .int .i64 op, .int .u64 v, .int .u64 m, .string glob, .int .u32 ip, .int .i64 bits, .int .i64 lo, .int .i64 hi]] W fun e w' => e = .returned (.iface 63 (.int .i64 cf)) ∧ Below W.heap.size W w') := HCC.out
                      clear HCC
                      go_wp2_with (go_at_call 38; refine cargs (by simp [Act.eval]) ((HCC2.out _).mono ?_); rintro e w4 ⟨rfl, hb4⟩; have HB4' := Lib.hid hb4; clear hb4)
                      go_ret
                      exact ⟨by rw [HFE.out]; rfl, HBW3.out.trans (HB4'.out.mono HBW3.out.size)⟩
                  · obtain rfl : k = conds.length := by omega
                    have hall : firstNZ (condF n) conds = 0 := firstNZ_all _ _ (fun j y hy => hZk.out j y (by
                      rcases Nat.lt_or_ge j conds.length with h | h
                      · exact h
                      · rw [List.getElem?_eq_none h] at hy; cases hy) hy)
                    have hrf : ruleF ⟨(n : Int), conds, rk, re⟩ = actF rk re := by rw [HRF.out, hall]; simp
                    obtain ⟨r0, r1, r2, r3⟩ := HC4.out wr hB2.out
                    clear hall hZk
                    by_cases hz : actF rk re = 0
                    · have HZ4 := Lib.hid (HZ2.out (by rw [hrf]; exact hz))
                      have HA1 : Hid (∀ w : World, Calls Tryz.prog 37 #[.agg #[.int .i64 rk, .int .i64 re]] w fun e' w' => e' = .returned .nilIface ∧ Below w.heap.size w w') := fun w => by
                        have := HAC.out rk re w
                        rw [hz] at this; exact this
                      clear hz hrf
                      go_wp2_with (go_at_call 37; refine cargs (by simp [Act.eval]) ((HA1.out _).mono ?_); rintro e w4 ⟨rfl, hb4⟩; have HB4' := Lib.hid hb4; clear hb4)
                      go_roundw
                      case rel => exact ⟨i + 1, by omega, by go_num, HZ4, HBW2.out.trans (HB4'.out.mono HBW2.out.size)⟩
                      case measure => simp [intOf]; omega
                    · have HA1 : Hid (∀ w : World, Calls Tryz.prog 37 #[.agg #[.int .i64 rk, .int .i64 re]] w fun e' w' => e' = .returned (.iface 63 (.int .i64 (actF rk re))) ∧ Below w.heap.size w w') := fun w => by
                        have := HAC.out rk re w
                        rw [errV_pos hz] at this; exact this
                      have HFE : Hid (errV (polF ⟨rules, pk, pe⟩) = .iface 63 (.int .i64 (actF rk re))) := by show _ = _; rw [HF0.out, HN.out (by rw [hrf]; exact hz), hrf, errV_pos hz]
                      clear hrf hz
                      generalize actF rk re = af at *
                      go_wp2_with (go_at_call 37; refine cargs (by simp [Act.eval]) ((HA1.out _).mono ?_); rintro e w4 ⟨rfl, hb4⟩; have HB4' := Lib.hid hb4; clear hb4)
                      go_ret
                      exact ⟨by rw [HFE.out]; rfl, HBW2.out.trans (HB4'.out.mono HBW2.out.size)⟩
        · obtain rfl : i = rules.length := by omega
          have HF : Hid (errV (polF ⟨rules, pk, pe⟩) = .nilIface) := by
            show _ = _
            rw [HF0.out, firstNZ_all ruleF rules (fun j y hy => hZ.out j y (by
              rcases Nat.lt_or_ge j rules.length with h | h
              · exact h
              · rw [List.getElem?_eq_none h] at hy; cases hy) hy)]; rfl
          go_wp2_with fail
          go_ret
          exact ⟨by rw [HF.out]; rfl, hBw.out⟩
    · have HF : Hid (polF ⟨rules, pk, pe⟩ = actF pk pe) := by show _ = _; unfold polF; rw [if_neg h12, if_pos ha]
      have HA0 : Hid (∀ w : World, Calls Tryz.prog 37 #[.agg #[.int .i64 pk, .int .i64 pe]] w fun e' w' => e' = .returned (.iface 63 (.int .i64 (actF pk pe))) ∧ Below w.heap.size w w') := fun w => by
        have := HAC.out pk pe w
        rw [errV_pos ha] at this; exact this
      have HFE : Hid (errV (polF ⟨rules, pk, pe⟩) = .iface 63 (.int .i64 (actF pk pe))) := by show _ = _; rw [HF.out, errV_pos ha]
      have HAB := Lib.hid (above w (.cells #[.slice A rules.length cp, .int .i64 pk, .int .i64 pe] 27))
      generalize actF pk pe = af at *
      clear ha h12
      go_enter Tryz.func17, Tryz.ntmps17
      go_wp2_with (go_at_call 37; refine cargs (by simp [Act.eval]) ((HA0.out _).mono ?_); rintro e w1 ⟨rfl, hb1⟩; have HB1 := Lib.hid (HAB.out w1 hb1); clear hb1)
      go_ret
      exact ⟨by rw [HFE.out]; rfl, HB1.out⟩

end Go.Proofs.YtmgngapkgcofnaaGreatDoor
/- The maker of a program: add, half, ret: the walks. -/
namespace Go.Proofs.YtmgngapkgcofnaaGreatDoor
open Go.RowKit Go.PlainAid

theorem own_apart {w : World} {B : Nat} {e e' : TypeId} {s s' n n' : Nat} {v v' : Value} {xs xs' : List Value} (h : w.ownsRow B e s v n xs) (h' : w.ownsRow B e' s' v' n' xs') (hne : e ≠ e') : v.ownBlock = none ∨ v.ownBlock ≠ v'.ownBlock := by
  rcases h.2 with ⟨rfl, _⟩ | ⟨g, cap, cur, rfl, _, hg, _⟩
  · exact Or.inl rfl
  · right
    rcases h'.2 with ⟨rfl, _⟩ | ⟨g', cap', cur', rfl, _, hg', _⟩
    · simp [Value.ownBlock]
    · intro hh
      simp only [Value.ownBlock, Option.some.injEq] at hh
      subst hh
      rw [hg] at hg'
      simp only [Option.some.injEq, Obj.cells.injEq] at hg'
      exact hne hg'.2.1
theorem own_not {w : World} {m : Nat} {e : TypeId} {s n : Nat} {v : Value} {xs : List Value} (h : w.ownsRow (m + 1) e s v n xs) : some m ≠ v.ownBlock := by
  intro hh
  have := (h.lt m hh.symm).1
  omega
theorem grown_below {w w' : World} {m : Nat} {v : Value} {e : TypeId} {s n : Nat} {xs : List Value} (h : w.ownsRow (m + 1) e s v n xs) (hg : w.grownBy w' v.ownBlock) : Below (m + 1) w w' ∨ w.heap.size < m + 1 := by
  rcases Nat.lt_or_ge w.heap.size (m + 1) with h1 | h1
  · exact Or.inr h1
  · left
    exact ⟨hg.os, hg.tape, hg.output, hg.size, fun k hk => hg.block k (by omega) (fun e => by have := (h.lt k e.symm).1; omega)⟩

theorem own_form2 {w : World} {B : Nat} {e : TypeId} {sz n : Nat} {v : Value} {xs : List Value} (h : w.ownsRow B e sz v n xs) : ∃ A c, v = .slice A n c := by
  rcases h.2 with ⟨rfl, rfl⟩ | ⟨g, cap, cur, rfl, _⟩
  · exact ⟨none, 0, rfl⟩
  · exact ⟨_, _, rfl⟩
theorem set_grown (w : World) (m i : Nat) (u : Value) : w.grownBy (w.setCell ⟨m, i, none⟩ u) (some m) :=
  ⟨rfl, rfl, rfl, by simp [World.setCell], fun k _ hk => heap_setCell_other w ⟨m, i, none⟩ k u (fun e => hk (by simp [e]))⟩
theorem own_set {w : World} {m i : Nat} {e : TypeId} {s n : Nat} {v u : Value} {xs : List Value} (h : w.ownsRow (m + 1) e s v n xs) : (w.setCell ⟨m, i, none⟩ u).ownsRow (m + 1) e s v n xs := by
  refine h.kept (set_grown w m i u) ?_
  cases hv : v.ownBlock with
  | none => exact Or.inl rfl
  | some g => right; rw [← hv]; exact fun hh => own_not h hh.symm
end Go.Proofs.YtmgngapkgcofnaaGreatDoor
/- The maker of a program: half, ret, away, need: the walks. -/
namespace Go.Proofs.YtmgngapkgcofnaaGreatDoor
open Go.RowKit Go.PlainAid

def retK (k e : Int) : Int := if k = 1 then 2147418112 else if k = 2 then 327680 + e else 0
theorem intInfo : (Tryz.prog.info? 3).map (fun i => (i.zero, i.size, i.bytes)) = some (some (.int .i64 0), 1, 8) := by kernel_rfl
theorem int_cell1 (W : World) (b : Nat) (t : TypeId) (v : Value) (hc : W.heap[b]? = some (.cells #[v] t (0, 0))) :
    ∀ (j : Nat) (u : Value), [v][j]? = some u → W.cell? ((⟨b, 0, none⟩ : Addr).add j) = some u := by
  intro j u hu
  match j, hu with
  | 0, hu => simp at hu; subst hu; simp [Addr.add, World.cell?, hc]
end Go.Proofs.YtmgngapkgcofnaaGreatDoor
/- The maker of a program: here: the walk. -/
namespace Go.Proofs.YtmgngapkgcofnaaGreatDoor
open Go.RowKit Go.PlainAid

def setKL (l : List Ins) (a : Nat) (k : Int) : List Ins := l.modify a fun x => ⟨x.op, x.jt, x.jf, k⟩
theorem setKL_length (l : List Ins) (a : Nat) (k : Int) : (setKL l a k).length = l.length := by simp [setKL]
theorem flat_setKL (k : Int) : ∀ (l : List Ins) (a : Nat), flat (setKL l a k) = (flat l).set (a * 4 + 3) (.int .u32 k)
  | [], a => by cases a <;> rfl
  | x :: r, 0 => by simp [setKL, flat]
  | x :: r, a + 1 => by
    have ih := flat_setKL k r a
    simp only [setKL, List.modify_succ_cons] at ih ⊢
    show _ ++ flat (r.modify a _) = _
    rw [show flat (r.modify a fun x => ⟨x.op, x.jt, x.jf, k⟩) = flat (setKL r a k) from rfl] at *
    rw [show flat (setKL r a k) = (flat r).set (a * 4 + 3) (.int .u32 k) from ih]
    rw [show (a + 1) * 4 + 3 = (a * 4 + 3) + 4 from by omega]
    rfl
def hereN (l : List Ins) (op : List Int) : Nat → List Ins
  | 0 => l
  | n + 1 => match op[n]? with
    | some a => setKL (hereN l op n) a.toNat (l.length - a - 1)
    | none => hereN l op n
theorem hereN_length (l : List Ins) (op : List Int) : ∀ n, (hereN l op n).length = l.length := by
  intro n
  induction n with
  | zero => rfl
  | succ n ih =>
    rw [hereN]
    split
    · rw [setKL_length, ih]
    · exact ih
theorem flat_length (l : List Ins) : (flat l).length = l.length * 4 := by
  induction l with
  | nil => rfl
  | cons x r ih => simp only [flat, List.flatMap_cons, List.length_append, List.length_cons, List.length_nil] at ih ⊢; omega

end Go.Proofs.YtmgngapkgcofnaaGreatDoor
/- A map literal of two whole numbers, and its reading: the law. -/
namespace Go.Proofs.YtmgngapkgcofnaaGreatDoor
open Go.RowKit Go.PlainAid

section
variable {P : Program}
theorem run_up {t kt et : TypeId} (ht : P.underlying t = some (.map kt et)) (hk : P.underlying kt = some (.int .i64)) (b : Nat) (es : Array MapEntry) (clock : Nat) (x y : Int) (w : World) (hb : w.heap[b]? = some (.map es clock)) (hf : Instr.findNow (.int .i64) (.int .i64 x) es.toList 0 = some none) :
    (Instr.mapUpdate t (.map (some b)) (.int .i64 x) (.int .i64 y)).run P w = .ok () { w with heap := w.heap.setIfInBounds b (.map (es.push { key := .int .i64 x, val := .int .i64 y, born := clock }) (clock + 1)) } := by
  have h1 := Go.MapKept.run_checkKey (P := P) (w := w) hk (k := .int .i64 x) rfl false 9999
  have h2 := Go.MapKept.run_findKey (P := P) (w := w) hk hf
  unfold Instr.mapUpdate
  simp only [Sem.run_bind, run_underlying ht, Result.andThen_ok, Go.MapKept.run_getObj_map hb, h1, h2, Go.MapKept.run_setObj_map _ hb]
theorem run_look {t kt et : TypeId} (ht : P.underlying t = some (.map kt et)) (hk : P.underlying kt = some (.int .i64)) (b : Nat) (es : Array MapEntry) (clock : Nat) (x : Int) (i : Nat) (v : Value) (w : World) (hb : w.heap[b]? = some (.map es clock)) (hf : Instr.findNow (.int .i64) (.int .i64 x) es.toList 0 = some (some (i, v))) :
    (Instr.lookup t (.map (some b)) (.int .i64 x) false).run P w = .ok v w := by
  have h1 := Go.MapKept.run_checkKey (P := P) (w := w) hk (k := .int .i64 x) rfl es.isEmpty 9999
  have h2 := Go.MapKept.run_findKey (P := P) (w := w) hk hf
  unfold Instr.lookup
  simp only [Sem.run_bind, Sem.run_pure, run_underlying ht, Result.andThen_ok, Go.MapKept.run_getObj_map hb, h1, h2]
  rfl

def es2 (k1 v1 k2 v2 : Int) : Array MapEntry := #[{ key := .int .i64 k1, val := .int .i64 v1, born := 0 }, { key := .int .i64 k2, val := .int .i64 v2, born := 1 }]
def mapW (w : World) (k1 v1 k2 v2 : Int) : World :=
  { w with heap := ((w.heap.push (.map #[] 0)).setIfInBounds w.heap.size (.map #[{ key := .int .i64 k1, val := .int .i64 v1, born := 0 }] 1)).setIfInBounds w.heap.size (.map (es2 k1 v1 k2 v2) 2) }
theorem mapW_below (w : World) (k1 v1 k2 v2 : Int) : Below w.heap.size w (mapW w k1 v1 k2 v2) :=
  ⟨rfl, rfl, rfl, by simp [mapW], fun k hk => by
    simp only [mapW]
    rw [Array.getElem?_setIfInBounds_ne (by omega), Array.getElem?_setIfInBounds_ne (by omega), Array.getElem?_push, if_neg (by omega)]⟩
theorem mapW_at (w : World) (k1 v1 k2 v2 : Int) : (mapW w k1 v1 k2 v2).heap[w.heap.size]? = some (.map (es2 k1 v1 k2 v2) 2) := by
  simp [mapW]
theorem wpList_mapLit {ops : Array Oper} {rest : List Oper} {o1 o2 o3 : Oper} {a : Act} {w : World} {Q : Exit → Act → World → Prop} (g1 : o1.guard = none) (g2 : o2.guard = none) (g3 : o3.guard = none)
    {t kt et : TypeId} (ht : P.underlying t = some (.map kt et)) (hk : P.underlying kt = some (.int .i64)) (d : Tmp) (k1 v1 k2 v2 : Int)
    (h1 : o1.op = .makeMap t none) (e1 : o1.dst = some d) (h2 : o2.op = .insert t (.tmp d) (.const (.int .i64 k1)) (.const (.int .i64 v1))) (e2 : o2.dst = none)
    (h3 : o3.op = .insert t (.tmp d) (.const (.int .i64 k2)) (.const (.int .i64 v2))) (e3 : o3.dst = none)
    (hev : (a.put (some d) (.map (some w.heap.size))).eval (.tmp d) = .map (some w.heap.size)) (hf1 : Instr.findNow (.int .i64) (.int .i64 k2) [{ key := .int .i64 k1, val := .int .i64 v1, born := 0 }] 0 = some none)
    (h : wpList P ops Q rest (a.put (some d) (.map (some w.heap.size))) (mapW w k1 v1 k2 v2)) : wpList P ops Q (o1 :: o2 :: o3 :: rest) a w := by
  refine wpList_plain g1 fun K1 hK1 => ?_
  unfold Oper.wp execOp
  simp only [h1, Option.map_none, run_makeMap, Sem.run_bind, Sem.run_pure, Result.andThen_ok]
  refine hK1 _ _ ?_
  rw [e1]
  refine wpList_plain g2 fun K2 hK2 => ?_
  have hb1 : (w.alloc (.map #[] 0)).heap[w.heap.size]? = some (.map #[] 0) := heap_alloc_new _ _
  unfold Oper.wp execOp
  simp only [h2]
  rw [show (a.put (some d) (.map (some w.heap.size))).eval (.const (.int .i64 k1)) = .int .i64 k1 from rfl, show (a.put (some d) (.map (some w.heap.size))).eval (.const (.int .i64 v1)) = .int .i64 v1 from rfl, hev]
  simp only [Sem.run_bind, run_up ht hk w.heap.size #[] 0 k1 v1 _ hb1 rfl, Sem.run_pure, Result.andThen_ok]
  refine hK2 _ _ ?_
  rw [e2]
  show wpList P ops Q (o3 :: rest) (a.put (some d) (.map (some w.heap.size))) _
  refine wpList_plain g3 fun K3 hK3 => ?_
  have hb2 : (({ (w.alloc (.map #[] 0)) with heap := (w.alloc (.map #[] 0)).heap.setIfInBounds w.heap.size (.map ((#[] : Array MapEntry).push { key := .int .i64 k1, val := .int .i64 v1, born := 0 }) (0 + 1)) } : World)).heap[w.heap.size]? = some (.map #[{ key := .int .i64 k1, val := .int .i64 v1, born := 0 }] 1) := (Go.MapKept.heap_set hb1).1
  unfold Oper.wp execOp
  simp only [h3]
  rw [show (a.put (some d) (.map (some w.heap.size))).eval (.const (.int .i64 k2)) = .int .i64 k2 from rfl, show (a.put (some d) (.map (some w.heap.size))).eval (.const (.int .i64 v2)) = .int .i64 v2 from rfl, hev]
  simp only [Sem.run_bind, run_up ht hk w.heap.size _ 1 k2 v2 _ hb2 hf1, Sem.run_pure, Result.andThen_ok]
  refine hK3 _ _ ?_
  rw [e3]
  exact h
end
end Go.Proofs.YtmgngapkgcofnaaGreatDoor
