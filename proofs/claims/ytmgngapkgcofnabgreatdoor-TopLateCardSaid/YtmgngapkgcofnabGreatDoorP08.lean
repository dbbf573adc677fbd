/- Nets: mask, Check, bit and the reference's NetFault: the walks. -/
import Derived.Test.YtmgngapkgcofnabGreatDoorP01
import Derived.Laws.BitsAllLaws
import Derived.Deep.QuietTactic
import Derived.BigQuiet
import Derived.Deep.RegionWith
import Derived.Deep.RegionHeld3
namespace Go.Proofs.YtmgngapkgcofnabGreatDoor
open Go.RowKit
theorem cargs {P : Program} {f : FuncId} {a b : Array Value} {w : World} {Q : Ending → World → Prop} (h : a = b) (hc : Calls P f b w Q) : Calls P f a w Q := h ▸ hc
structure NetD where
 ip : Int
 bits : Int
 lo : Int
 hi : Int
deriving DecidableEq
def NetD.row (n : NetD) : List Value := [.int .u32 n.ip, .int .i64 n.bits, .int .i64 n.lo, .int .i64 n.hi]
def NetD.v (n : NetD) : Value := .agg #[.int .u32 n.ip, .int .i64 n.bits, .int .i64 n.lo, .int .i64 n.hi]
def NetD.ok (n : NetD) : Prop := (0 ≤ n.ip ∧ n.ip < 4294967296) ∧ (Lit.int .i64 n.bits).wf = true ∧ (Lit.int .i64 n.lo).wf = true ∧ (Lit.int .i64 n.hi).wf = true
def NetD.bad (n : NetD) : Prop := n.bits < 0 ∨ 32 < n.bits ∨ n.lo < 0 ∨ 65535 < n.hi ∨ n.hi < n.lo
instance (n : NetD) : Decidable n.bad := by unfold NetD.bad; infer_instance
def netF (n : NetD) : Int := if n.bad then 1 else if n.ip.toNat % 2 ^ (32 - n.bits.toNat) ≠ 0 then 3 else 0
theorem mask_val (P : Nat) (h0 : 1 ≤ P) (h1 : P ≤ 4294967296) : (4294967295 * (P : Int)) % 4294967296 = ((4294967296 - P : Nat) : Int) := by omega
theorem pow_le32 (k : Nat) (h : k ≤ 32) : 1 ≤ 2 ^ k ∧ 2 ^ k ≤ 4294967296 := ⟨Nat.one_le_two_pow, by
 have := Nat.pow_le_pow_right (n := 2) (by omega) h
 simpa using this⟩
set_option linter.unusedSimpArgs false in
theorem mask_any (k : Nat) (w : World) (hk : k ≤ 32) :
  Calls Tryz.prog 174 #[.int .i64 k] w fun e w' => e = .returned (.int .u32 ((4294967296 - 2 ^ (32 - k) : Nat) : Int)) ∧ w = w' := by
 have x1 : (0 : Int) ≤ 32 - (k : Int) := by omega
 have x2 : (0 : Int) ≤ (k : Int) := by omega
 have x3 : (k : Int) ≤ 32 := by omega
 go_enter Tryz.func174, Tryz.ntmps174
 go_wp2_with fail; go_ret; refine ⟨?_, rfl⟩; have hp := pow_le32 (32 - k) (by omega); have := mask_val (2 ^ (32 - k)) hp.1 hp.2; rw [← this]; simp
theorem andNot_mask (ip k : Nat) (hip : ip < 4294967296) (hk : k ≤ 32) : bits .andNot .u32 (ip : Int) ((4294967296 - 2 ^ k : Nat) : Int) = ((ip % 2 ^ k : Nat) : Int) := by
 have hp := pow_le32 k hk; rw [u32_andNot_nat ip _ hip (by omega), show 4294967295 - (4294967296 - 2 ^ k) = 2 ^ k - 1 from by omega, Nat.and_two_pow_sub_one_eq_mod]
set_option linter.unusedSimpArgs false in
set_option maxRecDepth 100000 in
set_option maxHeartbeats 2000000 in
theorem netCheck_any (x : NetD) (w : World) (hok : x.ok) :
  Calls Tryz.prog 171 #[x.v] w fun e w' => e = .returned (errV (netF x)) ∧ Below w.heap.size w w' := by
 obtain ⟨ip, b, lo, hi⟩ := x; obtain ⟨⟨i0, i1⟩, _, _, _⟩ := hok; simp only at i0 i1; unfold NetD.v
 by_cases hbad : NetD.bad ⟨ip, b, lo, hi⟩
 ·have HF : Hid (errV (netF ⟨ip, b, lo, hi⟩) = .iface 105 (.int .i64 1)) := by show _ = _; unfold netF; rw [if_pos hbad]; rfl
  simp only [NetD.bad] at hbad
  by_cases t0 : b < 0
  ·clear hbad; go_enter Tryz.func171, Tryz.ntmps171
   go_wp2_with fail; go_ret; exact ⟨by rw [HF.out]; rfl, by go_grown⟩
  ·skip
   by_cases t1 : 32 < b
   ·clear hbad; go_enter Tryz.func171, Tryz.ntmps171
    go_wp2_with fail; go_ret; exact ⟨by rw [HF.out]; rfl, by go_grown⟩
   ·skip
    by_cases t2 : lo < 0
    ·clear hbad; go_enter Tryz.func171, Tryz.ntmps171
     go_wp2_with fail; go_ret; exact ⟨by rw [HF.out]; rfl, by go_grown⟩
    ·skip
     by_cases t3 : 65535 < hi
     ·clear hbad; go_enter Tryz.func171, Tryz.ntmps171
      go_wp2_with fail; go_ret; exact ⟨by rw [HF.out]; rfl, by go_grown⟩
     ·skip
      have t4 : hi < lo := by omega
      clear hbad; go_enter Tryz.func171, Tryz.ntmps171
      go_wp2_with fail; go_ret; exact ⟨by rw [HF.out]; rfl, by go_grown⟩
 ·have HF0 : netF ⟨ip, b, lo, hi⟩ = if ip.toNat % 2 ^ (32 - b.toNat) ≠ 0 then 3 else 0 := if_neg hbad
  simp only [NetD.bad, not_or] at hbad; obtain ⟨t0, t1, t2, t3, t4⟩ := hbad; obtain ⟨k, rfl⟩ : ∃ k : Nat, b = k := ⟨b.toNat, by omega⟩
  obtain ⟨ip, rfl⟩ : ∃ p : Nat, ip = p := ⟨ip.toNat, by omega⟩
  have hm := andNot_mask ip (32 - k) (by omega) (by omega); have HMK : Hid (∀ w, Calls Tryz.prog 174 #[.int .i64 k] w fun e w' => e = .returned (.int .u32 ((4294967296 - 2 ^ (32 - k) : Nat) : Int)) ∧ w = w') := fun w => mask_any k w (by omega); generalize (4294967296 - 2 ^ (32 - k) : Nat) = M at *
  simp only [Int.toNat_natCast] at HF0
  by_cases hz : ip % 2 ^ (32 - k) = 0
  ·have HF : Hid (errV (netF ⟨ip, k, lo, hi⟩) = .nilIface) := by show _ = _; rw [HF0, if_neg (fun h => h hz)]; rfl
   rw [hz] at hm; clear HF0 hz; have c0 : (w.alloc (.cells #[.int .u32 (ip : Int), .int .i64 (k : Int), .int .i64 lo, .int .i64 hi] 45)).cell? ⟨w.heap.size, 0, none⟩ = some (.int .u32 (ip : Int)) := by rw [cell_of_row _ _ _ _ _ _ (heap_alloc_new _ _)]; rfl
   have c1 : (w.alloc (.cells #[.int .u32 (ip : Int), .int .i64 (k : Int), .int .i64 lo, .int .i64 hi] 45)).cell? ⟨w.heap.size, 1, none⟩ = some (.int .i64 (k : Int)) := by rw [cell_of_row _ _ _ _ _ _ (heap_alloc_new _ _)]; rfl
   have HBW : Hid (Below w.heap.size w (w.alloc (.cells #[.int .u32 (ip : Int), .int .i64 (k : Int), .int .i64 lo, .int .i64 hi] 45))) := (Below.refl _ _).alloc (Nat.le_refl _) _; have HBD : Hid (∀ W n, Below w.heap.size w W → Below w.heap.size w (W.drewN n)) := fun W n h => ⟨h.os, h.tape, h.output, h.size, h.block⟩
   go_enter Tryz.func171, Tryz.ntmps171
   go_wp2_with fail; generalize w.alloc (.cells #[.int .u32 (ip : Int), .int .i64 (k : Int), .int .i64 lo, .int .i64 hi] 45) = W at *
   go_region_held3 (fun w' : World => w'.cell? ⟨w.heap.size, 0, none⟩ = some (.int .u32 (ip : Int)) ∧ w'.cell? ⟨w.heap.size, 1, none⟩ = some (.int .i64 (k : Int))) (first | exact ⟨c0, c1⟩) (first
    | (go_at_call 174; refine cargs (by simp [Act.eval]) ((HMK.out _).mono ?_); rintro e w1 ⟨rfl, rfl⟩))
   go_wp2_with fail; go_ret; exact ⟨by rw [HF.out]; rfl, HBD.out _ 1 HBW.out⟩
  ·have HF : Hid (errV (netF ⟨ip, k, lo, hi⟩) = .iface 105 (.int .i64 3)) := by show _ = _; rw [HF0, if_pos hz]; rfl
   obtain ⟨z, hzz⟩ : ∃ z, ip % 2 ^ (32 - k) = z := ⟨_, rfl⟩
   rw [hzz] at hm hz; have hz2 : ((z : Int) != 0) = true := by simp; omega
   clear HF0 hzz; have c0 : (w.alloc (.cells #[.int .u32 (ip : Int), .int .i64 (k : Int), .int .i64 lo, .int .i64 hi] 45)).cell? ⟨w.heap.size, 0, none⟩ = some (.int .u32 (ip : Int)) := by rw [cell_of_row _ _ _ _ _ _ (heap_alloc_new _ _)]; rfl
   have c1 : (w.alloc (.cells #[.int .u32 (ip : Int), .int .i64 (k : Int), .int .i64 lo, .int .i64 hi] 45)).cell? ⟨w.heap.size, 1, none⟩ = some (.int .i64 (k : Int)) := by rw [cell_of_row _ _ _ _ _ _ (heap_alloc_new _ _)]; rfl
   have HBW : Hid (Below w.heap.size w (w.alloc (.cells #[.int .u32 (ip : Int), .int .i64 (k : Int), .int .i64 lo, .int .i64 hi] 45))) := (Below.refl _ _).alloc (Nat.le_refl _) _; have HBD : Hid (∀ W n, Below w.heap.size w W → Below w.heap.size w (W.drewN n)) := fun W n h => ⟨h.os, h.tape, h.output, h.size, h.block⟩
   go_enter Tryz.func171, Tryz.ntmps171
   go_wp2_with fail; generalize w.alloc (.cells #[.int .u32 (ip : Int), .int .i64 (k : Int), .int .i64 lo, .int .i64 hi] 45) = W at *
   go_region_held3 (fun w' : World => w'.cell? ⟨w.heap.size, 0, none⟩ = some (.int .u32 (ip : Int)) ∧ w'.cell? ⟨w.heap.size, 1, none⟩ = some (.int .i64 (k : Int))) (first | exact ⟨c0, c1⟩) (first
    | (go_at_call 174; refine cargs (by simp [Act.eval]) ((HMK.out _).mono ?_); rintro e w1 ⟨rfl, rfl⟩))
   go_wp2_with fail; go_ret; exact ⟨by rw [HF.out]; rfl, HBD.out _ 1 HBW.out⟩
end Go.Proofs.YtmgngapkgcofnabGreatDoor
