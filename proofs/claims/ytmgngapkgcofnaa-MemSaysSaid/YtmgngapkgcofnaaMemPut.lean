/- Package mem: Put: what it does, and the walk. -/
import Derived.Test.YtmgngapkgcofnaaMemGet
import Derived.BigRegion
namespace Go.Proofs.Ytmgngapkgcofnaa
open Go.RowKit Go.PlainAid

/-- A byte put. -/
def MemS.poke (S : MemS) (x : Nat) (v : Int) : MemS := ⟨fun n => if n = x / 64 then ⟨fun k => if k = x % 64 then v else (S.p n).b k, (S.p n).read, (S.p n).write⟩ else S.p n, S.sl⟩
def putN (S : MemS) (a : Nat) (f : Nat → Int) : Nat → MemS
  | 0 => S
  | n + 1 => (putN S a f n).poke ((a + n) % 18446744073709551616) (f n)
def putOk (S : MemS) (x : Nat) : Bool := decide (x < 512) && (S.p (x / 64)).write
def putB (S : MemS) (a : Nat) : Nat → Bool
  | 0 => true
  | n + 1 => putB S a n && putOk S ((a + n) % 18446744073709551616)
def putE (S : MemS) (a n : Nat) : Int := if putB S a n then 0 else 5
def putS (S : MemS) (a : Nat) (s : ByteArray) : MemS := if putB S a s.size then putN S a (bt s) s.size else S
theorem putB_at {S : MemS} {a : Nat} : ∀ {n k : Nat}, putB S a n = true → k < n → putOk S ((a + k) % 18446744073709551616) = true := by
  intro n
  induction n with
  | zero => intro k _ h; omega
  | succ n ih =>
    intro k h hk
    simp only [putB, Bool.and_eq_true] at h
    rcases Nat.lt_or_ge k n with h1 | h1
    · exact ih h.1 h1
    · obtain rfl : k = n := by omega
      exact h.2
theorem putB_not {S : MemS} {a n k : Nat} (h : putOk S ((a + k) % 18446744073709551616) = false) (hk : k < n) : putB S a n = false := by
  cases hb : putB S a n with
  | false => rfl
  | true => rw [putB_at hb hk] at h; cases h
theorem poke_write (S : MemS) (x : Nat) (v : Int) (n : Nat) : ((S.poke x v).p n).write = (S.p n).write := by
  unfold MemS.poke; simp only; split <;> rfl
theorem poke_read (S : MemS) (x : Nat) (v : Int) (n : Nat) : ((S.poke x v).p n).read = (S.p n).read := by
  unfold MemS.poke; simp only; split <;> rfl
theorem putN_write (S : MemS) (a : Nat) (f : Nat → Int) (k n : Nat) : ((putN S a f k).p n).write = (S.p n).write := by
  induction k with
  | zero => rfl
  | succ k ih => rw [putN, poke_write, ih]
theorem putN_read (S : MemS) (a : Nat) (f : Nat → Int) (k n : Nat) : ((putN S a f k).p n).read = (S.p n).read := by
  induction k with
  | zero => rfl
  | succ k ih => rw [putN, poke_read, ih]
theorem putN_sl (S : MemS) (a : Nat) (f : Nat → Int) (k : Nat) : (putN S a f k).sl = S.sl := by
  induction k with
  | zero => rfl
  | succ k ih => rw [putN]; exact ih
theorem poke_ok {S : MemS} (h : S.ok) (x : Nat) {v : Int} (h0 : 0 ≤ v) (h1 : v ≤ 255) : (S.poke x v).ok := by
  refine ⟨fun n j => ?_, h.2⟩
  unfold MemS.poke
  simp only
  split
  · simp only; split
    · exact ⟨h0, h1⟩
    · exact h.1 n j
  · exact h.1 n j
theorem bt_range (s : ByteArray) (i : Nat) : 0 ≤ bt s i ∧ bt s i ≤ 255 := by
  unfold bt
  split
  · rename_i h
    have := (s[i]'h).toNat_lt
    omega
  · omega
theorem memCell_poke {S : MemS} {sp : Nat → Option Nat} {C : Nat → Value} (hC : ∀ i, i < 532 → C i = memCell S sp i) {q k : Nat} (hq : q < 8) (hk : k < 64) (v : Int) :
    ∀ i, i < 532 → setV C (q * 66 + k) (.int .u8 v) i = memCell (S.poke (q * 64 + k) v) sp i := by
  intro i hi
  have e1 : (q * 64 + k) / 64 = q := by omega
  have e2 : (q * 64 + k) % 64 = k := by omega
  unfold setV
  by_cases h1 : i = q * 66 + k
  · subst h1
    rw [if_pos rfl, memCell_byte hq hk]
    simp [MemS.poke, e1, e2]
  · rw [if_neg h1, hC i hi]
    unfold memCell MemS.poke
    by_cases h3 : i < 528
    · rw [if_pos h3, if_pos h3]
      by_cases h4 : i / 66 = q
      · simp only [h4, e1, e2, if_true]
        by_cases h5 : i % 66 < 64
        · rw [if_pos h5, if_pos h5, if_neg (by omega)]
        · rw [if_neg h5, if_neg h5]
      · simp only [e1, if_neg h4]
    · rw [if_neg h3, if_neg h3]

theorem MemAt.drew {w : World} {B : Nat → Prop} {m : Nat} {S : MemS} (h : MemAt w B m S) : MemAt w.drew B m S := by
  obtain ⟨h1, h2, C, sp, h3, h4, h5⟩ := h
  refine ⟨h1, h2, C, sp, h3, h4, fun i hi => ?_⟩
  have := h5 i hi
  unfold SealAt at *
  split at this <;> exact this
set_option linter.unusedSimpArgs false in
set_option maxHeartbeats 2000000 in
theorem memPut_any (m : Nat) (B : Nat → Prop) (S : MemS) (a : Nat) (s : ByteArray) (w : World) (h : MemAt w B m S) (hs : s.size ≤ 4096) :
    Calls Try.prog 36 #[.pointer (some ⟨m, 0, none⟩), .int .u64 a, .string s] w fun e w' => e = .returned (errV (putE S a s.size)) ∧ MemAt w' B m (putS S a s) ∧ But m w w' := by
  have H := Lib.hid h
  clear h
  go_enter Try.func36, Try.ntmps36
  go_wp2_with fail
  go_loop [13] (fun iv => ∃ k : Nat, k ≤ s.size ∧ iv = .int .i64 k ∧ Hid (putB S a k = true)) (fun iv => s.size - (intOf iv).toNat)
  case atStart => exact ⟨0, Nat.zero_le _, rfl, rfl⟩
  case round =>
    obtain ⟨k, hk, rfl, hB⟩ := hrel
    by_cases hlt : k < s.size
    · have x1 : (k : Int) < (s.size : Int) := by omega
      have x2 : (0 : Int) ≤ (k : Int) := by omega
      have hw := wrap_sum a k
      obtain ⟨X, hX⟩ : ∃ X, Hid ((a + k) % 18446744073709551616 = X) := ⟨_, rfl⟩
      have hX1 : X < 18446744073709551616 := by rw [← hX.out]; omega
      rw [hX.out] at hw
      by_cases h512 : X < 512
      · obtain ⟨q, hq⟩ : ∃ q, q = X / 64 := ⟨_, rfl⟩
        have hq8 : q < 8 := by omega
        have e1 : (X : Int) / 64 = (q : Int) := by omega
        have y1 : ¬ (512 : Int) ≤ (X : Int) := by omega
        have y2 : (0 : Int) ≤ (q : Int) := by omega
        have y3 : (q : Int) < 8 := by omega
        obtain ⟨C, sp, hblk, hC, hse⟩ := H.out.rep
        have c1 := hblk.cell (i := q * 66 + 65) (by omega)
        rw [hC _ (by omega), memCell_write hq8] at c1
        have ho : Hid (putOk S X = (S.p q).write) := by show _ = _; unfold putOk; rw [decide_eq_true h512, ← hq]; rfl
        clear hblk hC hse
        cases hwr : (S.p q).write with
        | true =>
          rw [hwr] at c1
          have hB' : Hid (putB S a (k + 1) = true) := by show _ = _; rw [putB, hB.out, hX.out, ho.out, hwr]; rfl
          clear hB ho hwr hq h512
          go_wp2_with fail
          go_round
          case rel => exact ⟨k + 1, by omega, by go_num, hB'⟩
          case measure => simp [intOf]; omega
        | false =>
          rw [hwr] at c1
          have hb : putB S a s.size = false := putB_not (k := k) (by rw [hX.out, ho.out, hwr]) hlt
          have HE : Hid (errV (putE S a s.size) = .iface 114 (.int .i64 5)) := by show _ = _; unfold putE; rw [hb]; rfl
          have HS : Hid (putS S a s = S) := by show _ = _; unfold putS; rw [hb]; simp
          clear hB ho hwr hq h512 hb
          go_wp2_with fail
          go_ret
          exact ⟨by rw [HE.out]; rfl, by rw [HS.out]; exact H.out, But.refl _ _⟩
      · have y1 : (512 : Int) ≤ (X : Int) := by omega
        have hb : putB S a s.size = false := putB_not (k := k) (by rw [hX.out]; unfold putOk; rw [decide_eq_false h512]; rfl) hlt
        have HE : Hid (errV (putE S a s.size) = .iface 114 (.int .i64 5)) := by show _ = _; unfold putE; rw [hb]; rfl
        have HS : Hid (putS S a s = S) := by show _ = _; unfold putS; rw [hb]; simp
        clear hB h512 hb
        go_wp2_with fail
        go_ret
        exact ⟨by rw [HE.out]; rfl, by rw [HS.out]; exact H.out, But.refl _ _⟩
    · obtain rfl : k = s.size := by omega
      have HE : Hid (errV (putE S a s.size) = .nilIface) := by show _ = _; unfold putE; rw [hB.out]; rfl
      have HS : Hid (putS S a s = putN S a (bt s) s.size) := by show _ = _; unfold putS; rw [hB.out]; simp
      clear hlt hk
      go_wp2_with fail
      go_loopw [37] (fun iv wr => ∃ k : Nat, k ≤ s.size ∧ iv = .int .i64 k ∧ Hid (MemAt wr B m (putN S a (bt s) k)) ∧ Hid (But m w wr)) (fun iv _ => s.size - (intOf iv).toNat)
      case atStart => exact ⟨0, Nat.zero_le _, rfl, H.out, But.refl _ _⟩
      case round =>
        obtain ⟨k, hk, rfl, hM, hBt⟩ := hrel
        by_cases hlt : k < s.size
        · have x1 : (k : Int) < (s.size : Int) := by omega
          have x2 : (0 : Int) ≤ (k : Int) := by omega
          have hw := wrap_sum a k
          have hok := putB_at hB.out hlt
          obtain ⟨X, hX⟩ : ∃ X, Hid ((a + k) % 18446744073709551616 = X) := ⟨_, rfl⟩
          have hX1 : X < 18446744073709551616 := by rw [← hX.out]; omega
          rw [hX.out] at hw hok
          have h512 : X < 512 := by
            unfold putOk at hok
            simp only [Bool.and_eq_true, decide_eq_true_eq] at hok
            exact hok.1
          obtain ⟨q, hq⟩ : ∃ q, q = X / 64 := ⟨_, rfl⟩
          obtain ⟨j, hj⟩ : ∃ j, j = X % 64 := ⟨_, rfl⟩
          have hq8 : q < 8 := by omega
          have hj64 : j < 64 := by omega
          have e1 : (X : Int) / 64 = (q : Int) := by omega
          have e2 : (X : Int) % 64 = (j : Int) := by omega
          have y2 : (0 : Int) ≤ (q : Int) := by omega
          have y3 : (q : Int) < 8 := by omega
          have y4 : (0 : Int) ≤ (j : Int) := by omega
          have y5 : (j : Int) < 64 := by omega
          have gx := get_bt s
          have gr := bt_range s k
          obtain ⟨C, sp, hblk, hC, hse⟩ := hM.out.rep
          have c1 := hblk.cell (i := q * 66 + j) (by omega)
          have f1 := hblk.frozen (q * 66 + j)
          have g1 := hblk.set (q * 66 + j) (.int .u8 (bt s k))
          have g2 := memCell_poke hC hq8 hj64 (bt s k)
          rw [show q * 64 + j = X from by omega] at g2
          have g3 : But m wr (wr.setCell ⟨m, q * 66 + j, none⟩ (.int .u8 (bt s k))) := (But.refl m wr).setCell _ _
          have HF : Hid (MemAt (wr.setCell ⟨m, q * 66 + j, none⟩ (.int .u8 (bt s k))) B m (putN S a (bt s) (k + 1))) := by
            show MemAt _ B m _
            rw [putN, hX.out]
            exact ⟨hM.out.base, poke_ok hM.out.ok X gr.1 gr.2, _, sp, g1, g2, fun i hi => (hse i hi).but g3⟩
          have HG : Hid (But m w (wr.setCell ⟨m, q * 66 + j, none⟩ (.int .u8 (bt s k)))) := hBt.out.setCell _ _
          clear hblk hC hse g1 g2 g3 hok hq hj h512
          go_wp2_with fail
          go_region
          go_wp2_with fail
          go_roundw
          case rel => exact ⟨k + 1, by omega, by go_num, HF.out.drew, HG.out.drew⟩
          case measure => simp [intOf]; omega
        · obtain rfl : k = s.size := by omega
          go_wp2_with fail
          go_ret
          exact ⟨by rw [HE.out]; rfl, by rw [HS.out]; exact hM.out, hBt.out⟩

end Go.Proofs.Ytmgngapkgcofnaa
