/- The plain laws of TopAddr: an address's bytes are read as it; a net with one bit less has all that one has. -/
import Derived.Test.YtmgngapkgcofnabDoorAddrR
namespace Go.Proofs.YtmgngapkgcofnabDoor
open Go.RowKit Go.PlainAid

theorem bt_of (l : List UInt8) (j : Nat) (h : j < l.length) : bt ⟨l.toArray⟩ j = (l[j].toNat : Int) := by
  rw [bt_list ⟨l.toArray⟩ j h]
theorem bnum_of (l : List UInt8) (j : Nat) (h : j < l.length) : bnum ⟨l.toArray⟩ j = l[j].toNat := by
  unfold bnum; rw [bt_of l j h]; exact Int.toNat_natCast _
theorem ofNat_n {n : Nat} (h : n < 256) : (UInt8.ofNat n).toNat = n := by simp; omega
theorem readA_bytes (ip p : Nat) (hip : ip < 4294967296) (hp : p < 65536) : readA ⟨(bytesA ip p).toArray⟩ = some (ip, p) := by
  have hl : (bytesA ip p).length = 16 := rfl
  have e2 : bnum ⟨(bytesA ip p).toArray⟩ 2 = p / 256 := by rw [bnum_of _ 2 (by rw [hl]; omega)]; exact ofNat_n (by omega)
  have e3 : bnum ⟨(bytesA ip p).toArray⟩ 3 = p % 256 := by rw [bnum_of _ 3 (by rw [hl]; omega)]; exact ofNat_n (by omega)
  have e4 : bnum ⟨(bytesA ip p).toArray⟩ 4 = ip / 16777216 := by rw [bnum_of _ 4 (by rw [hl]; omega)]; exact ofNat_n (by omega)
  have e5 : bnum ⟨(bytesA ip p).toArray⟩ 5 = ip / 65536 % 256 := by rw [bnum_of _ 5 (by rw [hl]; omega)]; exact ofNat_n (by omega)
  have e6 : bnum ⟨(bytesA ip p).toArray⟩ 6 = ip / 256 % 256 := by rw [bnum_of _ 6 (by rw [hl]; omega)]; exact ofNat_n (by omega)
  have e7 : bnum ⟨(bytesA ip p).toArray⟩ 7 = ip % 256 := by rw [bnum_of _ 7 (by rw [hl]; omega)]; exact ofNat_n (by omega)
  have hI : ipOf ⟨(bytesA ip p).toArray⟩ = ip := by
    unfold ipOf
    rw [e4, e5, e6, e7]
    simp only [ipJ, List.foldl_cons, List.foldl_nil]
    omega
  have hP : portOf ⟨(bytesA ip p).toArray⟩ = p := by unfold portOf; rw [e2, e3]; omega
  unfold readA
  rw [hI, hP, if_pos ⟨by rw [bsz, hl], rfl⟩]

def wideN (x : NetD) : NetD := ⟨((x.ip.toNat / 2 ^ (33 - x.bits.toNat) * 2 ^ (33 - x.bits.toNat) : Nat) : Int), x.bits - 1, x.lo, x.hi⟩
theorem andNot_bit (ip k : Nat) (hip : ip < 4294967296) (hk : k < 32) (hz : ip % 2 ^ k = 0) : bits .andNot .u32 (ip : Int) ((2 ^ k : Nat) : Int) = ((ip / 2 ^ (k + 1) * 2 ^ (k + 1) : Nat) : Int) := by
  have hp : 2 ^ k < 4294967296 := by
    have := Nat.pow_lt_pow_right (a := 2) (by omega) hk
    simpa using this
  rw [u32_andNot_nat ip _ hip hp]
  congr 1
  have e : 4294967295 - 2 ^ k = 2 ^ 32 - (2 ^ k + 1) := by omega
  apply Nat.eq_of_testBit_eq
  intro i
  rw [Nat.testBit_and, e, Nat.testBit_two_pow_sub_succ (by simpa using hp), Nat.testBit_two_pow, Nat.testBit_mul_two_pow, Nat.testBit_div_two_pow]
  have hlow : i < k → ip.testBit i = false := by
    intro h
    have hd : ip = ip / 2 ^ k * 2 ^ k := by have := Nat.div_add_mod ip (2 ^ k); rw [hz, Nat.add_zero, Nat.mul_comm] at this; exact this.symm
    rw [hd, Nat.testBit_mul_two_pow]
    simp; omega
  by_cases h1 : i < k
  · rw [hlow h1]
    have : ¬ k + 1 ≤ i := by omega
    simp [this]
  · by_cases h2 : i = k
    · subst h2
      have : ¬ i + 1 ≤ i := by omega
      rw [decide_eq_true rfl, decide_eq_false (show ¬ i ≥ i + 1 by omega)]
      simp
    · have h3 : k + 1 ≤ i := by omega
      have h4 : ¬ k = i := by omega
      by_cases h32 : i < 32
      · simp [h3, h4, h32]
      · have hz : ip.testBit i = false := Nat.testBit_lt_two_pow (Nat.lt_of_lt_of_le hip (by have := Nat.pow_le_pow_right (n := 2) (by omega) (show 32 ≤ i by omega); simpa using this))
        simp [h3, hz]
theorem wide_F {x : NetD} (hok : x.ok) (hf : netF x = 0) (hb : x.bits ≠ 0) : netF (wideN x) = 0 := by
  obtain ⟨h1, h2, h3, h4, h5, h6⟩ := netF_zero hf
  unfold netF wideN
  rw [if_neg (by simp only [NetD.bad, not_or]; omega)]
  simp only [Int.toNat_natCast]
  rw [if_neg]
  rw [show 32 - (x.bits - 1).toNat = 33 - x.bits.toNat from by omega, Nat.mul_mod_left]
  simp
theorem wide_ok {x : NetD} (hok : x.ok) (hf : netF x = 0) (hb : x.bits ≠ 0) : (wideN x).ok := by
  obtain ⟨⟨i0, i1⟩, w1, w2, w3⟩ := hok
  obtain ⟨h1, h2, h3, h4, h5, h6⟩ := netF_zero hf
  have hd := Nat.div_mul_le_self x.ip.toNat (2 ^ (33 - x.bits.toNat))
  refine ⟨⟨by simp only [wideN]; omega, by simp only [wideN]; omega⟩, ?_, w2, w3⟩
  simp [wideN, Lit.wf, IntKind.min, IntKind.max, IntKind.signed, IntKind.bits]; omega
theorem wide_has {x : NetD} (hf : netF x = 0) (hok : x.ok) (hb : x.bits ≠ 0) (ip : Nat) (port : Int) (h : hasN x ip port = true) : hasN (wideN x) ip port = true := by
  have hw := wide_F hok hf hb
  obtain ⟨h1, h2, h3, h4, h5, h6⟩ := netF_zero hf
  unfold hasN at h ⊢
  rw [hw]
  simp only [Bool.and_eq_true, decide_eq_true_eq] at h ⊢
  obtain ⟨_, h8, h9, h10⟩ := h
  refine ⟨trivial, ?_, h9, h10⟩
  have e : 32 - (wideN x).bits.toNat = 33 - x.bits.toNat := by simp only [wideN]; omega
  have e2 : 33 - x.bits.toNat = (32 - x.bits.toNat) + 1 := by omega
  have e3 : (wideN x).ip.toNat = x.ip.toNat / 2 ^ (33 - x.bits.toNat) * 2 ^ (33 - x.bits.toNat) := by unfold wideN; exact Int.toNat_natCast _
  rw [e, e3, Nat.mul_div_cancel _ (Nat.two_pow_pos _), e2, Nat.pow_succ, ← Nat.div_div_eq_div_mul, ← Nat.div_div_eq_div_mul, h8]
theorem has_own {x : NetD} (hok : x.ok) (hf : netF x = 0) (p : Int) (h0 : x.lo ≤ p) (h1 : p ≤ x.hi) : hasN x x.ip.toNat p = true := by
  unfold hasN; rw [hf]; simp [h0, h1]
end Go.Proofs.YtmgngapkgcofnabDoor
