/- Has a net an address: addr.Has, the reference's HasNet: the walks. -/
import Derived.Test.YtmgngapkgcofnabGreatDoorP22
import Derived.Lib.QuietBelow
namespace Go.Proofs.YtmgngapkgcofnabGreatDoor
open Go.RowKit Go.PlainAid
theorem and_mask_nat (ip k : Nat) (hip : ip < 4294967296) (hk : k ≤ 32) : ip &&& (4294967296 - 2 ^ k) = ip / 2 ^ k * 2 ^ k := by
 have e : 4294967296 - 2 ^ k = (2 ^ (32 - k) - 1) * 2 ^ k := by
  rw [Nat.sub_mul, ← Nat.pow_add, show 32 - k + k = 32 from by omega, Nat.one_mul]
 apply Nat.eq_of_testBit_eq; intro i; rw [Nat.testBit_and, e, Nat.testBit_mul_two_pow, Nat.testBit_two_pow_sub_one, Nat.testBit_mul_two_pow, Nat.testBit_div_two_pow]
 by_cases hki : k ≤ i
 ·by_cases h32 : i < 32
  ·have h1 : i - k < 32 - k := by omega
   simp [hki, h1]
  ·have h1 : ¬ i - k < 32 - k := by omega
   have hz : ip.testBit i = false := Nat.testBit_lt_two_pow (Nat.lt_of_lt_of_le hip (by have := Nat.pow_le_pow_right (n := 2) (by omega) (show 32 ≤ i by omega); simpa using this)); simp [hki, h1, hz]
 ·simp [hki]
theorem and_mask (ip k : Nat) (hip : ip < 4294967296) (hk : k ≤ 32) : bits .and .u32 (ip : Int) ((4294967296 - 2 ^ k : Nat) : Int) = ((ip / 2 ^ k * 2 ^ k : Nat) : Int) := by
 have hp := pow_le32 k hk; rw [u32_and_nat _ _ hip (by omega), and_mask_nat ip k hip hk]
def netHas (x : NetD) (ip : Nat) (port : Int) : Bool := decide (netF x = 0) && (decide (ip / 2 ^ (32 - x.bits.toNat) = x.ip.toNat / 2 ^ (32 - x.bits.toNat)) && (decide (x.lo ≤ port) && decide (port ≤ x.hi)))
theorem mask_eq {x : NetD} (hf : netF x = 0) (ip : Nat) : (ip / 2 ^ (32 - x.bits.toNat) * 2 ^ (32 - x.bits.toNat) = x.ip.toNat) ↔ ip / 2 ^ (32 - x.bits.toNat) = x.ip.toNat / 2 ^ (32 - x.bits.toNat) := by
 obtain ⟨_, _, _, _, _, hz⟩ := netF_zero hf; have hp : 0 < 2 ^ (32 - x.bits.toNat) := Nat.two_pow_pos _; have hd := Nat.div_add_mod x.ip.toNat (2 ^ (32 - x.bits.toNat)); rw [hz, Nat.add_zero] at hd; constructor
 ·intro h; rw [← h, Nat.mul_div_cancel _ hp]
 ·intro h; rw [h, Nat.mul_comm]; exact hd
set_option linter.unusedSimpArgs false in
set_option maxRecDepth 100000 in
set_option maxHeartbeats 4000000 in
theorem has_any (x : NetD) (ip : Nat) (port : Int) (w : World) (hok : x.ok) (hip : ip < 4294967296) :
  Calls Tryz.prog 131 #[x.v, .int .u32 ip, .int .i64 port] w fun e w' => e = .returned (.bool (netHas x ip port)) ∧ Below w.heap.size w w' := by
 have HCK : Hid (∀ w, Calls Tryz.prog 171 #[x.v] w fun e' w' => e' = .returned (errV (netF x)) ∧ Below w.heap.size w w') := fun w => netCheck_any x w hok
 by_cases hf : netF x = 0
 ·have hme := mask_eq hf ip; obtain ⟨q1, q2, q3, q4, q5, _⟩ := netF_zero hf; obtain ⟨⟨i0, i1⟩, _⟩ := hok; rw [hf] at HCK; obtain ⟨xp, b, lo, hi⟩ := x; simp only at i0 i1 q1 q2 q3 q4 q5; obtain ⟨xp, rfl⟩ : ∃ p : Nat, xp = p := ⟨xp.toNat, by omega⟩
  obtain ⟨b, rfl⟩ : ∃ p : Nat, b = p := ⟨b.toNat, by omega⟩
  simp only [Int.toNat_natCast] at hme
  have HH : Hid (netHas ⟨xp, b, lo, hi⟩ ip port = (decide (ip / 2 ^ (32 - b) * 2 ^ (32 - b) = xp) && (decide (lo ≤ port) && decide (port ≤ hi)))) := by
   show _ = _; unfold netHas; rw [hf]; simp [hme]
  clear hf hme; have HMK : Hid (∀ w, Calls Tryz.prog 174 #[.int .i64 (b : Int)] w fun e w' => e = .returned (.int .u32 ((4294967296 - 2 ^ (32 - b) : Nat) : Int)) ∧ w = w') := fun w => mask_any b w (by omega); have hand := and_mask ip (32 - b) hip (by omega); generalize (4294967296 - 2 ^ (32 - b) : Nat) = M at *
  generalize ip / 2 ^ (32 - b) * 2 ^ (32 - b) = V at *
  have HC4 := Lib.hid (box_cells w (.int .u32 (xp : Int)) (.int .i64 (b : Int)) (.int .i64 lo) (.int .i64 hi) 45); have HAB := Lib.hid (box_below w (.cells #[.int .u32 (xp : Int), .int .i64 (b : Int), .int .i64 lo, .int .i64 hi] 45)); unfold NetD.v at HCK ⊢
  have HCK2 : Hid (∀ w, Calls Tryz.prog 171 #[.agg #[.int .u32 (xp : Int), .int .i64 (b : Int), .int .i64 lo, .int .i64 hi]] w fun e' w' => e' = .returned .nilIface ∧ Below w.heap.size w w') := HCK.out; clear HCK; go_enter Tryz.func131, Tryz.ntmps131
  go_wp2_with fail; generalize w.alloc (.cells #[.int .u32 (xp : Int), .int .i64 (b : Int), .int .i64 lo, .int .i64 hi] 45) = W0 at *
  obtain ⟨c0, c1, c2, c3⟩ := HC4.out W0 (Below.refl _ _); have r0 := cell_regrown c0; have r1 := cell_regrown c1; have r2 := cell_regrown c2; have r3 := cell_regrown c3; have cCK := fun d os => Calls.regrown_of (HCK2.out (Go.Sort.grow (redrawn W0 d) os))
  have cMK : ∀ d os, Calls Tryz.prog 174 #[.int .i64 (b : Int)] (Go.Sort.grow (redrawn W0 d) os) fun e w'' => e = .returned (.int .u32 (M : Int)) ∧ ∃ p : Regrown, w'' = Go.Sort.grow (redrawn W0 p.d) p.os := fun d os => (HMK.out _).mono fun _ _ h => ⟨h.1, ⟨⟨d, os⟩, h.2.symm⟩⟩
  by_cases hv : V = xp
  ·have hv2 : ((V : Int) == (xp : Int)) = true := by rw [hv]; simp
   have hv3 : (V : Int) = (xp : Int) := by rw [hv]
   by_cases h1 : lo ≤ port
   ·by_cases h2 : port ≤ hi
    ·have HF : Hid (netHas ⟨xp, b, lo, hi⟩ ip port = true) := by show _ = _; rw [HH.out, decide_eq_true hv, decide_eq_true h1, decide_eq_true h2]; rfl
     have d1 := decide_eq_true h1; have d2 := decide_eq_true h2; clear hv; refine wp_region_quiet_below (by kernel_rfl) (by kernel_rfl) ?_
     repeat (quiet_step (first | exact cCK _ _ | exact cMK _ _))
     refine wpQuiet_nil ?_; intro _ hw'; obtain ⟨⟨dq, osq⟩, hw''⟩ := hw'; subst hw''
     go_wp2_with fail
     go_returns
     exact ⟨by rw [HF.out]; rfl, HAB.out _ (below_regrown W0 dq osq)⟩
    ·have HF : Hid (netHas ⟨xp, b, lo, hi⟩ ip port = false) := by show _ = _; rw [HH.out, decide_eq_false h2]; simp
     have d1 := decide_eq_true h1; have d2 := decide_eq_false h2; clear hv h2; refine wp_region_quiet_below (by kernel_rfl) (by kernel_rfl) ?_
     repeat (quiet_step (first | exact cCK _ _ | exact cMK _ _))
     refine wpQuiet_nil ?_; intro _ hw'; obtain ⟨⟨dq, osq⟩, hw''⟩ := hw'; subst hw''
     go_wp2_with fail
     go_returns
     exact ⟨by rw [HF.out]; rfl, HAB.out _ (below_regrown W0 dq osq)⟩
   ·have HF : Hid (netHas ⟨xp, b, lo, hi⟩ ip port = false) := by show _ = _; rw [HH.out, decide_eq_false h1]; simp
    have d1 := decide_eq_false h1; clear hv h1; refine wp_region_quiet_below (by kernel_rfl) (by kernel_rfl) ?_
    repeat (quiet_step (first | exact cCK _ _ | exact cMK _ _))
    refine wpQuiet_nil ?_; intro _ hw'; obtain ⟨⟨dq, osq⟩, hw''⟩ := hw'; subst hw''
    go_wp2_with fail
    go_returns
    exact ⟨by rw [HF.out]; rfl, HAB.out _ (below_regrown W0 dq osq)⟩
  ·have HF : Hid (netHas ⟨xp, b, lo, hi⟩ ip port = false) := by show _ = _; rw [HH.out, decide_eq_false hv]; rfl
   have hv2 : ((V : Int) == (xp : Int)) = false := by simp; omega
   have hv3 : ¬ (V : Int) = (xp : Int) := by omega
   clear hv; refine wp_region_quiet_below (by kernel_rfl) (by kernel_rfl) ?_
   repeat (quiet_step (first | exact cCK _ _ | exact cMK _ _))
   refine wpQuiet_nil ?_; intro _ hw'; obtain ⟨⟨dq, osq⟩, hw''⟩ := hw'; subst hw''
   go_wp2_with fail
   go_returns
   exact ⟨by rw [HF.out]; rfl, HAB.out _ (below_regrown W0 dq osq)⟩
 ·have HF : Hid (netHas x ip port = false) := by show _ = _; unfold netHas; rw [decide_eq_false hf]; rfl
  rw [errV_pos hf] at HCK; generalize netF x = nf at *
  obtain ⟨xp, b, lo, hi⟩ := x; have HC4 := Lib.hid (box_cells w (.int .u32 xp) (.int .i64 b) (.int .i64 lo) (.int .i64 hi) 45); have HAB := Lib.hid (box_below w (.cells #[.int .u32 xp, .int .i64 b, .int .i64 lo, .int .i64 hi] 45)); unfold NetD.v at HCK ⊢; simp only at HCK ⊢
  have HCK2 : Hid (∀ w, Calls Tryz.prog 171 #[.agg #[.int .u32 xp, .int .i64 b, .int .i64 lo, .int .i64 hi]] w fun e' w' => e' = .returned (.iface 105 (.int .i64 nf)) ∧ Below w.heap.size w w') := HCK.out; clear HCK hf hok; go_enter Tryz.func131, Tryz.ntmps131
  go_wp2_with fail; generalize w.alloc (.cells #[.int .u32 xp, .int .i64 b, .int .i64 lo, .int .i64 hi] 45) = W0 at *
  obtain ⟨c0, c1, c2, c3⟩ := HC4.out W0 (Below.refl _ _); have r0 := cell_regrown c0; have r1 := cell_regrown c1; have r2 := cell_regrown c2; have r3 := cell_regrown c3; have cCK := fun d os => Calls.regrown_of (HCK2.out (Go.Sort.grow (redrawn W0 d) os)); refine wp_region_quiet_below (by kernel_rfl) (by kernel_rfl) ?_
  repeat (quiet_step (exact cCK _ _))
  refine wpQuiet_nil ?_; intro _ hw'; obtain ⟨⟨dq, osq⟩, hw''⟩ := hw'; subst hw''
  go_wp2_with fail
  go_returns
  exact ⟨by rw [HF.out]; rfl, HAB.out _ (below_regrown W0 dq osq)⟩
end Go.Proofs.YtmgngapkgcofnabGreatDoor
