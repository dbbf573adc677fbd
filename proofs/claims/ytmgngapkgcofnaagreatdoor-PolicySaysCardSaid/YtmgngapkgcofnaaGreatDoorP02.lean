/- Nets: mask, Check, bit and the reference's NetFault: the walks. -/
import Derived.Test.YtmgngapkgcofnaaGreatDoorP01
import Derived.Laws.BitsAllLaws
import Derived.Deep.QuietTactic
import Derived.BigQuiet
import Derived.Deep.RegionWith
import Derived.Deep.RegionHeld3
namespace Go.Proofs.YtmgngapkgcofnaaGreatDoor
open Go.RowKit

theorem cargs {P : Program} {f : FuncId} {a b : Array Value} {w : World} {Q : Ending → World → Prop} (h : a = b) (hc : Calls P f b w Q) : Calls P f a w Q := h ▸ hc
structure NetD where
  ip : Int
  bits : Int
  lo : Int
  hi : Int
deriving DecidableEq
def NetD.row (n : NetD) : List Value := [.int .u32 n.ip, .int .i64 n.bits, .int .i64 n.lo, .int .i64 n.hi]
def NetD.v (n : NetD) : Value := .agg #[.int .u32 n.ip, .int .i64 n.bits, .int .i64 n.lo, .int .i64 n.hi]
def NetD.ok (n : NetD) : Prop := (0 ≤ n.ip ∧ n.ip < 4294967296) ∧ (Lit.int .i64 n.bits).wf = true ∧ (Lit.int .i64 n.lo).wf = true ∧ (Lit.int .i64 n.hi).wf = true
def NetD.bad (n : NetD) : Prop := n.bits < 0 ∨ 32 < n.bits ∨ n.lo < 0 ∨ 65535 < n.hi ∨ n.hi < n.lo
instance (n : NetD) : Decidable n.bad := by unfold NetD.bad; infer_instance
def netF (n : NetD) : Int := if n.bad then 1 else if n.ip.toNat % 2 ^ (32 - n.bits.toNat) ≠ 0 then 3 else 0
theorem netF_ge (n : NetD) : 0 ≤ netF n := by
  unfold netF
  split
  · omega
  · split <;> omega
theorem mask_val (P : Nat) (h0 : 1 ≤ P) (h1 : P ≤ 4294967296) : (4294967295 * (P : Int)) % 4294967296 = ((4294967296 - P : Nat) : Int) := by omega
theorem pow_le32 (k : Nat) (h : k ≤ 32) : 1 ≤ 2 ^ k ∧ 2 ^ k ≤ 4294967296 := ⟨Nat.one_le_two_pow, by
  have := Nat.pow_le_pow_right (n := 2) (by omega) h
  simpa using this⟩

set_option linter.unusedSimpArgs false in
theorem mask_any (k : Nat) (w : World) (hk : k ≤ 32) :
    Calls Tryz.prog 82 #[.int .i64 k] w fun e w' => e = .returned (.int .u32 ((4294967296 - 2 ^ (32 - k) : Nat) : Int)) ∧ w = w' := by
  have x1 : (0 : Int) ≤ 32 - (k : Int) := by omega
  have x2 : (0 : Int) ≤ (k : Int) := by omega
  have x3 : (k : Int) ≤ 32 := by omega
  go_enter Tryz.func82, Tryz.ntmps82
  go_wp2_with fail
  go_ret
  refine ⟨?_, rfl⟩
  have hp := pow_le32 (32 - k) (by omega)
  have := mask_val (2 ^ (32 - k)) hp.1 hp.2
  rw [← this]
  simp
theorem andNot_mask (ip k : Nat) (hip : ip < 4294967296) (hk : k ≤ 32) : bits .andNot .u32 (ip : Int) ((4294967296 - 2 ^ k : Nat) : Int) = ((ip % 2 ^ k : Nat) : Int) := by
  have hp := pow_le32 k hk
  rw [u32_andNot_nat ip _ hip (by omega), show 4294967295 - (4294967296 - 2 ^ k) = 2 ^ k - 1 from by omega, Nat.and_two_pow_sub_one_eq_mod]

set_option linter.unusedSimpArgs false in
set_option maxRecDepth 100000 in
set_option maxHeartbeats 2000000 in
theorem netCheck_any (x : NetD) (w : World) (hok : x.ok) :
    Calls Tryz.prog 63 #[x.v] w fun e w' => e = .returned (errV (netF x)) ∧ Below w.heap.size w w' := by
  obtain ⟨ip, b, lo, hi⟩ := x
  obtain ⟨⟨i0, i1⟩, _, _, _⟩ := hok
  simp only at i0 i1
  unfold NetD.v
  by_cases hbad : NetD.bad ⟨ip, b, lo, hi⟩
  · have HF : Hid (errV (netF ⟨ip, b, lo, hi⟩) = .iface 63 (.int .i64 1)) := by show _ = _; unfold netF; rw [if_pos hbad]; rfl
    simp only [NetD.bad] at hbad
    by_cases t0 : b < 0
    · clear hbad
      go_enter Tryz.func63, Tryz.ntmps63
      go_wp2_with fail
      go_ret
      exact ⟨by rw [HF.out]; rfl, by go_grown⟩
    · skip
      by_cases t1 : 32 < b
      · clear hbad
        go_enter Tryz.func63, Tryz.ntmps63
        go_wp2_with fail
        go_ret
        exact ⟨by rw [HF.out]; rfl, by go_grown⟩
      · skip
        by_cases t2 : lo < 0
        · clear hbad
          go_enter Tryz.func63, Tryz.ntmps63
          go_wp2_with fail
          go_ret
          exact ⟨by rw [HF.out]; rfl, by go_grown⟩
        · skip
          by_cases t3 : 65535 < hi
          · clear hbad
            go_enter Tryz.func63, Tryz.ntmps63
            go_wp2_with fail
            go_ret
            exact ⟨by rw [HF.out]; rfl, by go_grown⟩
          · skip
            have t4 : hi < lo := by omega
            clear hbad
            go_enter Tryz.func63, Tryz.ntmps63
            go_wp2_with fail
            go_ret
            exact ⟨by rw [HF.out]; rfl, by go_grown⟩
  · have HF0 : netF ⟨ip, b, lo, hi⟩ = if ip.toNat % 2 ^ (32 - b.toNat) ≠ 0 then 3 else 0 := if_neg hbad
    simp only [NetD.bad, not_or] at hbad
    obtain ⟨t0, t1, t2, t3, t4⟩ := hbad
    obtain ⟨k, rfl⟩ : ∃ k : Nat, b = k := ⟨b.toNat, by omega⟩
    obtain ⟨ip, rfl⟩ : ∃ p : Nat, ip = p := ⟨ip.toNat, by omega⟩
    have hm := andNot_mask ip (32 - k) (by omega) (by omega)
    have HMK : Hid (∀ w, Calls Tryz.prog 82 #[.int .i64 k] w fun e w' => e = .returned (.int .u32 ((4294967296 - 2 ^ (32 - k) : Nat) : Int)) ∧ w = w') := fun w => mask_any k w (by omega)
    generalize (4294967296 - 2 ^ (32 - k) : Nat) = M at *
    simp only [Int.toNat_natCast] at HF0
    by_cases hz : ip % 2 ^ (32 - k) = 0
    · have HF : Hid (errV (netF ⟨ip, k, lo, hi⟩) = .nilIface) := by show _ = _; rw [HF0, if_neg (fun h => h hz)]; rfl
      rw [hz] at hm
      clear HF0 hz
      have c0 : (w.alloc (.cells #[.int .u32 (ip : Int), .int .i64 (k : Int), .int .i64 lo, .int .i64 hi] 82)).cell? ⟨w.heap.size, 0, none⟩ = some (.int .u32 (ip : Int)) := by rw [cell_of_row _ _ _ _ _ _ (heap_alloc_new _ _)]; rfl
      have c1 : (w.alloc (.cells #[.int .u32 (ip : Int), .int .i64 (k : Int), .int .i64 lo, .int .i64 hi] 82)).cell? ⟨w.heap.size, 1, none⟩ = some (.int .i64 (k : Int)) := by rw [cell_of_row _ _ _ _ _ _ (heap_alloc_new _ _)]; rfl
      have HBW : Hid (Below w.heap.size w (w.alloc (.cells #[.int .u32 (ip : Int), .int .i64 (k : Int), .int .i64 lo, .int .i64 hi] 82))) := (Below.refl _ _).alloc (Nat.le_refl _) _
      have HBD : Hid (∀ W n, Below w.heap.size w W → Below w.heap.size w (W.drewN n)) := fun W n h => ⟨h.os, h.tape, h.output, h.size, h.block⟩
      go_enter Tryz.func63, Tryz.ntmps63
      go_wp2_with fail
      generalize w.alloc (.cells #[.int .u32 (ip : Int), .int .i64 (k : Int), .int .i64 lo, .int .i64 hi] 82) = W at *
      go_region_held3 (fun w' : World => w'.cell? ⟨w.heap.size, 0, none⟩ = some (.int .u32 (ip : Int)) ∧ w'.cell? ⟨w.heap.size, 1, none⟩ = some (.int .i64 (k : Int))) (first | exact ⟨c0, c1⟩) (first
        | (go_at_call 82; refine cargs (by simp [Act.eval]) ((HMK.out _).mono ?_); rintro e w1 ⟨rfl, rfl⟩))
      go_wp2_with fail
      go_ret
      exact ⟨by rw [HF.out]; rfl, HBD.out _ 1 HBW.out⟩
    · have HF : Hid (errV (netF ⟨ip, k, lo, hi⟩) = .iface 63 (.int .i64 3)) := by show _ = _; rw [HF0, if_pos hz]; rfl
      obtain ⟨z, hzz⟩ : ∃ z, ip % 2 ^ (32 - k) = z := ⟨_, rfl⟩
      rw [hzz] at hm hz
      have hz2 : ((z : Int) != 0) = true := by simp; omega
      clear HF0 hzz
      have c0 : (w.alloc (.cells #[.int .u32 (ip : Int), .int .i64 (k : Int), .int .i64 lo, .int .i64 hi] 82)).cell? ⟨w.heap.size, 0, none⟩ = some (.int .u32 (ip : Int)) := by rw [cell_of_row _ _ _ _ _ _ (heap_alloc_new _ _)]; rfl
      have c1 : (w.alloc (.cells #[.int .u32 (ip : Int), .int .i64 (k : Int), .int .i64 lo, .int .i64 hi] 82)).cell? ⟨w.heap.size, 1, none⟩ = some (.int .i64 (k : Int)) := by rw [cell_of_row _ _ _ _ _ _ (heap_alloc_new _ _)]; rfl
      have HBW : Hid (Below w.heap.size w (w.alloc (.cells #[.int .u32 (ip : Int), .int .i64 (k : Int), .int .i64 lo, .int .i64 hi] 82))) := (Below.refl _ _).alloc (Nat.le_refl _) _
      have HBD : Hid (∀ W n, Below w.heap.size w W → Below w.heap.size w (W.drewN n)) := fun W n h => ⟨h.os, h.tape, h.output, h.size, h.block⟩
      go_enter Tryz.func63, Tryz.ntmps63
      go_wp2_with fail
      generalize w.alloc (.cells #[.int .u32 (ip : Int), .int .i64 (k : Int), .int .i64 lo, .int .i64 hi] 82) = W at *
      go_region_held3 (fun w' : World => w'.cell? ⟨w.heap.size, 0, none⟩ = some (.int .u32 (ip : Int)) ∧ w'.cell? ⟨w.heap.size, 1, none⟩ = some (.int .i64 (k : Int))) (first | exact ⟨c0, c1⟩) (first
        | (go_at_call 82; refine cargs (by simp [Act.eval]) ((HMK.out _).mono ?_); rintro e w1 ⟨rfl, rfl⟩))
      go_wp2_with fail
      go_ret
      exact ⟨by rw [HF.out]; rfl, HBD.out _ 1 HBW.out⟩

set_option linter.unusedSimpArgs false in
theorem bit_any (ip i : Nat) (w : World) (hip : ip < 4294967296) (hi : i < 32) :
    Calls Tryz.prog 69 #[.int .u32 ip, .int .i64 i] w fun e w' => e = .returned (.bool (decide (ip / 2 ^ (31 - i) % 2 = 1))) ∧ w = w' := by
  have x1 : (0 : Int) ≤ 31 - (i : Int) := by omega
  have hd : ip / 2 ^ (31 - i) ≤ ip := Nat.div_le_self _ _
  have hb : bits .and .u32 ((ip / 2 ^ (31 - i) : Nat) : Int) 1 = ((ip / 2 ^ (31 - i) % 2 : Nat) : Int) := by
    rw [show (1 : Int) = ((1 : Nat) : Int) from rfl, u32_and_nat _ _ (by omega) (by omega), nat_mask1]
  have hb2 : bits .and .u32 ((ip : Int) / 2 ^ (31 - i)) 1 = ((ip / 2 ^ (31 - i) % 2 : Nat) : Int) := by
    rw [← hb]; congr 1
  generalize ip / 2 ^ (31 - i) % 2 = z at *
  clear hb hd
  go_enter Tryz.func69, Tryz.ntmps69
  go_wp2_with fail
  go_ret
  refine ⟨ret_bool ?_, rfl⟩
  rw [Bool.eq_iff_iff]; simp
  try omega
theorem low_bit (ip i : Nat) (hi : i < 32) : ip % 2 ^ (32 - i) = ip / 2 ^ (31 - i) % 2 * 2 ^ (31 - i) + ip % 2 ^ (31 - i) := by
  rw [show 32 - i = (31 - i) + 1 from by omega, Nat.pow_succ, Nat.mod_mul, Nat.add_comm, Nat.mul_comm]
set_option linter.unusedSimpArgs false in
set_option maxHeartbeats 2000000 in
theorem refNet_any (x : NetD) (w : World) (hok : x.ok) :
    Calls Tryz.prog 52 #[x.v] w fun e w' => e = .returned (.int .i64 (netF x)) ∧ Below w.heap.size w w' := by
  obtain ⟨ip, b, lo, hi⟩ := x
  obtain ⟨⟨i0, i1⟩, _, _, _⟩ := hok
  simp only at i0 i1
  unfold NetD.v
  by_cases hbad : NetD.bad ⟨ip, b, lo, hi⟩
  · have HF : Hid (netF ⟨ip, b, lo, hi⟩ = 1) := if_pos hbad
    simp only [NetD.bad] at hbad
    by_cases t0 : b < 0
    · clear hbad
      go_enter Tryz.func52, Tryz.ntmps52
      go_wp2_with fail
      go_ret
      exact ⟨by rw [HF.out]; rfl, by go_grown⟩
    · skip
      by_cases t1 : 32 < b
      · clear hbad
        go_enter Tryz.func52, Tryz.ntmps52
        go_wp2_with fail
        go_ret
        exact ⟨by rw [HF.out]; rfl, by go_grown⟩
      · skip
        by_cases t2 : lo < 0
        · clear hbad
          go_enter Tryz.func52, Tryz.ntmps52
          go_wp2_with fail
          go_ret
          exact ⟨by rw [HF.out]; rfl, by go_grown⟩
        · skip
          by_cases t3 : 65535 < hi
          · clear hbad
            go_enter Tryz.func52, Tryz.ntmps52
            go_wp2_with fail
            go_ret
            exact ⟨by rw [HF.out]; rfl, by go_grown⟩
          · skip
            have t4 : hi < lo := by omega
            clear hbad
            go_enter Tryz.func52, Tryz.ntmps52
            go_wp2_with fail
            go_ret
            exact ⟨by rw [HF.out]; rfl, by go_grown⟩
  · have HF0 : netF ⟨ip, b, lo, hi⟩ = if ip.toNat % 2 ^ (32 - b.toNat) ≠ 0 then 3 else 0 := if_neg hbad
    simp only [NetD.bad, not_or] at hbad
    obtain ⟨t0, t1, t2, t3, t4⟩ := hbad
    obtain ⟨k, rfl⟩ : ∃ k : Nat, b = k := ⟨b.toNat, by omega⟩
    obtain ⟨ip, rfl⟩ : ∃ p : Nat, ip = p := ⟨ip.toNat, by omega⟩
    simp only [Int.toNat_natCast] at HF0
    have HFX := Lib.hid HF0
    clear HF0
    have hip : ip < 4294967296 := by omega
    go_enter Tryz.func52, Tryz.ntmps52
    go_wp2_with fail
    go_loop [3] (fun iv => ∃ i : Nat, k ≤ i ∧ i ≤ 32 ∧ iv = .int .i64 i ∧ Hid (ip % 2 ^ (32 - k) = ip % 2 ^ (32 - i))) (fun iv => 32 - (intOf iv).toNat)
    case atStart => exact ⟨k, Nat.le_refl _, by omega, rfl, rfl⟩
    case round =>
      obtain ⟨i, hki, hi32, rfl, hR⟩ := hrel
      by_cases hlt : i < 32
      · have y1 : (i : Int) < 32 := by omega
        have y2 : (0 : Int) ≤ (i : Int) := by omega
        have hlb := low_bit ip i hlt
        have HBT : Hid (∀ w, Calls Tryz.prog 69 #[.int .u32 ip, .int .i64 i] w fun e w' => e = .returned (.bool (decide (ip / 2 ^ (31 - i) % 2 = 1))) ∧ w = w') := fun w => bit_any ip i w hip hlt
        have hz2 : ip / 2 ^ (31 - i) % 2 = 0 ∨ ip / 2 ^ (31 - i) % 2 = 1 := by omega
        rcases hz2 with hz | hz
        · rw [hz] at HBT hlb
          have hR2 : Hid (ip % 2 ^ (32 - k) = ip % 2 ^ (32 - (i + 1))) := by show _ = _; rw [hR.out, hlb, show 32 - (i + 1) = 31 - i from by omega]; omega
          clear hlb hR hz
          simp only [decide_eq_true_eq, Nat.zero_ne_one, decide_false] at HBT
          go_wp2_with (go_at_call 69; refine (HBT.out _).mono ?_; rintro e w1 ⟨rfl, rfl⟩)
          go_round
          case rel => exact ⟨i + 1, by omega, by omega, by go_num, hR2⟩
          case measure => simp [intOf]; omega
        · rw [hz] at HBT hlb
          have HF : Hid (netF ⟨ip, k, lo, hi⟩ = 3) := by
            show _ = _
            rw [HFX.out, if_pos]
            rw [hR.out, hlb]
            have hp : 0 < 2 ^ (31 - i) := Nat.two_pow_pos _
            omega
          clear hlb hR hz
          simp only [decide_true] at HBT
          go_wp2_with (go_at_call 69; refine (HBT.out _).mono ?_; rintro e w1 ⟨rfl, rfl⟩)
          go_ret
          exact ⟨by rw [HF.out]; rfl, by go_grown⟩
      · obtain rfl : i = 32 := by omega
        have HF : Hid (netF ⟨ip, k, lo, hi⟩ = 0) := by show _ = _; rw [HFX.out, if_neg (fun h => h (by rw [hR.out]; simp [Nat.mod_one]))]
        clear hR
        go_wp2_with fail
        go_ret
        exact ⟨by rw [HF.out]; rfl, by go_grown⟩

end Go.Proofs.YtmgngapkgcofnaaGreatDoor
