/- A line's number: the walk over the shelf's ParseUint. -/
import Derived.Test.YtmgngapkgcofnabDoorP33
import Derived.Test.YtmgngapkgcofnabDoorP26
import Derived.Lib.ParseIntBCases
import Derived.Lib.AtoiErrMem
namespace Go.Proofs.YtmgngapkgcofnabDoor
open Go.RowKit

theorem fold_ge : ∀ (l : List UInt8) (a : Nat), a ≤ l.foldl (fun n b => 10 * n + (b.toNat - 48)) a
  | [], _ => Nat.le_refl _
  | b :: l, a => by
    have := fold_ge l (10 * a + (b.toNat - 48))
    simp only [List.foldl_cons]
    omega
theorem parseM_digs : ∀ (l : List UInt8) (a : Nat), (∀ b ∈ l, isDig b = true) → l.foldl (fun n b => 10 * n + (b.toNat - 48)) a ≤ 18446744073709551615 → Lib.parseUintM 18446744073709551615 a l = .ok (l.foldl (fun n b => 10 * n + (b.toNat - 48)) a)
  | [], _, _, _ => rfl
  | b :: l, a, hd, hl => by
    have h1 := hd b (by simp)
    simp only [isDig, Bool.and_eq_true, decide_eq_true_eq] at h1
    simp only [List.foldl_cons] at hl ⊢
    have h2 := fold_ge l (10 * a + (b.toNat - 48))
    rw [Lib.parseUintM, if_pos h1, if_neg (by omega), if_neg (by omega), show a * 10 + (b.toNat - 48) = 10 * a + (b.toNat - 48) from by omega]
    exact parseM_digs l _ (fun x hx => hd x (by simp [hx])) hl
theorem parseB_dec {k : Nat} (h : k < 18446744073709551616) : Lib.parseUintB 64 (Lib.decDigits k) = .ok k := by
  unfold Lib.parseUintB
  rw [if_neg (dec_ne k)]
  have h1 : valD (Lib.decDigits k) = k := valD_dec k
  unfold valD at h1
  have := parseM_digs (Lib.decDigits k) 0 (decDigits_dig k) (by rw [h1]; omega)
  rw [h1] at this
  exact this
theorem num_head {ws : List ByteArray} {k : Nat} {r : List (List UInt8)} (h : ws.map bL = Lib.decDigits k :: r) : ws.isEmpty = false ∧ (ws.headD ByteArray.empty).data.toList = Lib.decDigits k := by
  cases ws with
  | nil => simp at h
  | cons x t => simp only [List.map_cons, List.cons.injEq] at h; exact ⟨rfl, h.1⟩

set_option linter.unusedSimpArgs false in
set_option maxHeartbeats 2000000 in
theorem wordNum_any : NumSaid := fun w0 H b ws bad w hG hB hb hH h hl hs => by
  have hbw : b < w.heap.size := Nat.lt_of_lt_of_le h.1 hH
  have HP := Lib.hid (fun k r => num_head (ws := ws) (k := k) (r := r))
  have hX : (ws.headD ByteArray.empty).size ≤ 1000000 := by
    cases ws with
    | nil => simp
    | cons x t => exact hs x (by simp)
  have HNX := Lib.hid (next_any H b ws bad w h hl)
  have HK : Hid (∀ W1, w.grownBy W1 (some b) → Grd W1 ∧ H ≤ W1.heap.size) := fun W1 hg =>
    ⟨hG.below (below_of_grown hB hg hb hB.size) (Nat.le_refl _), Nat.le_trans hH hg.size⟩
  clear h hs hG hB hb hH
  generalize ws.headD ByteArray.empty = X at *
  generalize ws.isEmpty = E at *
  generalize ws.tail = T at *
  have HFIN : Hid (∀ (w1 w2 : World) (bad1 bad2 : Bool) (n : Int), WordsAt w1 H b T bad1 → w.grownBy w1 (some b) → Below w1.heap.size w1 w2 → (0 ≤ n ∧ n < 18446744073709551616) → (∀ (k : Nat) (r : List (List UInt8)), k < 18446744073709551616 → ws.map bL = Lib.decDigits k :: r → n = k ∧ bad2 = bad) → ∃ (n' : Int) (bad' : Bool), Ending.returned (.int .u64 n) = .returned (.int .u64 n') ∧ (0 ≤ n' ∧ n' < 18446744073709551616) ∧ WordsAt (w2.setCell ⟨b, 1, none⟩ (.bool bad2)) H b T bad' ∧ w.grownBy (w2.setCell ⟨b, 1, none⟩ (.bool bad2)) (some b) ∧ (∀ (k : Nat) (r : List (List UInt8)), k < 18446744073709551616 → ws.map bL = Lib.decDigits k :: r → n' = k ∧ bad' = bad)) := fun w1 w2 bad1 bad2 n h1 h2 h3 h4 h5 =>
    ⟨n, bad2, rfl, h4, (h1.below h3 (HK.out w1 h2).2).setBad bad2, grown_trans (grown_trans h2 (grown_of_below h3)) (grown_set _ _ _ _), h5⟩
  have HPD : Hid (∀ k, k < 18446744073709551616 → X.data.toList = Lib.decDigits k → Lib.parseUintB 64 X.data.toList = .ok k) := fun k hk e => by rw [e]; exact parseB_dec hk
  cases hp : Lib.parseUintB 64 X.data.toList with
  | ok u =>
    have hu : u ≤ 18446744073709551615 := Lib.parseUintB_le hp
    have HPU : Hid (∀ W : World, Calls Tryd.prog 67 #[.string X, .int .i64 10, .int .i64 64] W fun e w' => e = .returned (.tuple #[.int .u64 u, .nilIface]) ∧ Below W.heap.size W w') := fun W =>
      (Tryd.strconv_ParseUint_10_at64_ok X (by omega) u hp W).mono fun e w' ⟨h1, h2⟩ => ⟨h1, by rcases h2 with rfl | rfl; exact Below.refl _ _; exact Lib.bytesWorld_below _ _ _⟩
    have HFW : Hid (∀ (k : Nat) (r : List (List UInt8)), k < 18446744073709551616 → ws.map bL = Lib.decDigits k :: r → (u : Int) = k ∧ (bad || E) = bad) := fun k r hk hw => by
      obtain ⟨h1, h2⟩ := HP.out k r hw
      have h3 := HPD.out k hk h2
      rw [hp] at h3
      injection h3 with h3
      exact ⟨by rw [h3], by rw [h1]; simp⟩
    clear hp HPD HP
    generalize (bad || E) = bad1 at *
    go_enter Tryd.func50, Tryd.ntmps50
    go_upto_region 2 with (first
      | (go_at_call 34; refine cargs (by simp [Act.eval]) (HNX.out.mono ?_); rintro e w1 ⟨rfl, hw1, hg1⟩; have HW1 := Lib.hid hw1; have HG1 := Lib.hid hg1; clear hw1 hg1)
      | (go_at_call 67; refine cargs (by simp [Act.eval]) ((HPU.out _).mono ?_); rintro e w2 ⟨rfl, hb2⟩; have HB2 := Lib.hid hb2; clear hb2))
    obtain ⟨_, _, _, b1, _, bz⟩ := (HW1.out.below HB2.out (HK.out w1 HG1.out).2).cells
    cases bad1 with
    | true =>
      go_wp2_with fail
      go_ret
      exact HFIN.out w1 w2 true true u HW1.out HG1.out HB2.out ⟨by omega, by omega⟩ (fun k r hk hw => HFW.out k r hk hw)
    | false =>
      go_wp2_with fail
      go_ret
      exact HFIN.out w1 w2 false false u HW1.out HG1.out HB2.out ⟨by omega, by omega⟩ (fun k r hk hw => HFW.out k r hk hw)
  | range =>
    have HPU : Hid (∀ W : World, Grd W → Calls Tryd.prog 67 #[.string X, .int .i64 10, .int .i64 64] W fun e w' => (∃ t N, e = .returned (.tuple #[.int .u64 18446744073709551615, .iface t (.pointer (some ⟨N, 0, none⟩))])) ∧ Below W.heap.size W w') := fun W hg => by
      obtain ⟨ev, h1, h2⟩ := hg.rang
      exact (Tryd.strconv_ParseUint_10_at64_range X (by omega) hp ev W h1 h2).mono fun e w' ⟨N, k1, _, _, k2⟩ => ⟨⟨_, N, k1⟩, k2⟩
    have HFW : Hid (∀ (k : Nat) (r : List (List UInt8)), k < 18446744073709551616 → ws.map bL = Lib.decDigits k :: r → (18446744073709551615 : Int) = k ∧ true = bad) := fun k r hk hw => by
      obtain ⟨h1, h2⟩ := HP.out k r hw
      have h3 := HPD.out k hk h2
      rw [hp] at h3
      cases h3
    clear hp HPD HP
    generalize (bad || E) = bad1 at *
    go_enter Tryd.func50, Tryd.ntmps50
    go_upto_region 2 with (first
      | (go_at_call 34; refine cargs (by simp [Act.eval]) (HNX.out.mono ?_); rintro e w1 ⟨rfl, hw1, hg1⟩; have HW1 := Lib.hid hw1; have HG1 := Lib.hid hg1; clear hw1 hg1)
      | (go_at_call 67; refine cargs (by simp [Act.eval]) ((HPU.out _ (HK.out w1 HG1.out).1).mono ?_); rintro e w2 ⟨⟨te, N, rfl⟩, hb2⟩; have HB2 := Lib.hid hb2; clear hb2))
    obtain ⟨_, _, _, b1, _, bz⟩ := (HW1.out.below HB2.out (HK.out w1 HG1.out).2).cells
    cases bad1 with
    | true =>
      go_wp2_with fail
      go_ret
      exact HFIN.out w1 w2 true true 18446744073709551615 HW1.out HG1.out HB2.out ⟨by omega, by omega⟩ (fun k r hk hw => HFW.out k r hk hw)
    | false =>
      go_wp2_with fail
      go_ret
      exact HFIN.out w1 w2 false true 18446744073709551615 HW1.out HG1.out HB2.out ⟨by omega, by omega⟩ (fun k r hk hw => HFW.out k r hk hw)
  | _ =>
    have HPU : Hid (∀ W : World, Grd W → Calls Tryd.prog 67 #[.string X, .int .i64 10, .int .i64 64] W fun e w' => (∃ t N, e = .returned (.tuple #[.int .u64 0, .iface t (.pointer (some ⟨N, 0, none⟩))])) ∧ Below W.heap.size W w') := fun W hg => by
      obtain ⟨ev, h1, h2⟩ := hg.synt
      exact (Tryd.strconv_ParseUint_10_at64_syntax X (by omega) hp ev W h1 h2).mono fun e w' ⟨N, k1, _, _, k2⟩ => ⟨⟨_, N, k1⟩, k2⟩
    have HFW : Hid (∀ (k : Nat) (r : List (List UInt8)), k < 18446744073709551616 → ws.map bL = Lib.decDigits k :: r → (0 : Int) = k ∧ true = bad) := fun k r hk hw => by
      obtain ⟨h1, h2⟩ := HP.out k r hw
      have h3 := HPD.out k hk h2
      rw [hp] at h3
      cases h3
    clear hp HPD HP
    generalize (bad || E) = bad1 at *
    go_enter Tryd.func50, Tryd.ntmps50
    go_upto_region 2 with (first
      | (go_at_call 34; refine cargs (by simp [Act.eval]) (HNX.out.mono ?_); rintro e w1 ⟨rfl, hw1, hg1⟩; have HW1 := Lib.hid hw1; have HG1 := Lib.hid hg1; clear hw1 hg1)
      | (go_at_call 67; refine cargs (by simp [Act.eval]) ((HPU.out _ (HK.out w1 HG1.out).1).mono ?_); rintro e w2 ⟨⟨te, N, rfl⟩, hb2⟩; have HB2 := Lib.hid hb2; clear hb2))
    obtain ⟨_, _, _, b1, _, bz⟩ := (HW1.out.below HB2.out (HK.out w1 HG1.out).2).cells
    cases bad1 with
    | true =>
      go_wp2_with fail
      go_ret
      exact HFIN.out w1 w2 true true 0 HW1.out HG1.out HB2.out ⟨by omega, by omega⟩ (fun k r hk hw => HFW.out k r hk hw)
    | false =>
      go_wp2_with fail
      go_ret
      exact HFIN.out w1 w2 false true 0 HW1.out HG1.out HB2.out ⟨by omega, by omega⟩ (fun k r hk hw => HFW.out k r hk hw)
end Go.Proofs.YtmgngapkgcofnabDoor
