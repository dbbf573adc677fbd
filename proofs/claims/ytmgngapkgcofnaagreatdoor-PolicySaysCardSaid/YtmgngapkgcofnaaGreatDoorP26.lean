/- A line's number: the walk over the shelf's ParseUint. -/
import Derived.Test.YtmgngapkgcofnaaGreatDoorP19
import Derived.Test.YtmgngapkgcofnaaGreatDoorP03
import Derived.Lib.ParseIntBCases
import Derived.Lib.AtoiErrMem
import Derived.Lib.SplitLaws
import Derived.Lib.IndexBytes
namespace Go.Proofs.YtmgngapkgcofnaaGreatDoor
open Go.RowKit

theorem fold_ge : ∀ (l : List UInt8) (a : Nat), a ≤ l.foldl (fun n b => 10 * n + (b.toNat - 48)) a
  | [], _ => Nat.le_refl _
  | b :: l, a => by
    have := fold_ge l (10 * a + (b.toNat - 48))
    simp only [List.foldl_cons]
    omega
theorem parseM_digs : ∀ (l : List UInt8) (a : Nat), (∀ b ∈ l, isDig b = true) → l.foldl (fun n b => 10 * n + (b.toNat - 48)) a ≤ 18446744073709551615 → Lib.parseUintM 18446744073709551615 a l = .ok (l.foldl (fun n b => 10 * n + (b.toNat - 48)) a)
  | [], _, _, _ => rfl
  | b :: l, a, hd, hl => by
    have h1 := hd b (by simp)
    simp only [isDig, Bool.and_eq_true, decide_eq_true_eq] at h1
    simp only [List.foldl_cons] at hl ⊢
    have h2 := fold_ge l (10 * a + (b.toNat - 48))
    rw [Lib.parseUintM, if_pos h1, if_neg (by omega), if_neg (by omega), show a * 10 + (b.toNat - 48) = 10 * a + (b.toNat - 48) from by omega]
    exact parseM_digs l _ (fun x hx => hd x (by simp [hx])) hl
theorem parseB_dec {k : Nat} (h : k < 18446744073709551616) : Lib.parseUintB 64 (Lib.decDigits k) = .ok k := by
  unfold Lib.parseUintB
  rw [if_neg (dec_ne k)]
  have h1 : valD (Lib.decDigits k) = k := valD_dec k
  unfold valD at h1
  have := parseM_digs (Lib.decDigits k) 0 (decDigits_dig k) (by rw [h1]; omega)
  rw [h1] at this
  exact this
theorem num_head {ws : List ByteArray} {k : Nat} {r : List (List UInt8)} (h : ws.map bL = Lib.decDigits k :: r) : ws.isEmpty = false ∧ (ws.headD ByteArray.empty).data.toList = Lib.decDigits k := by
  cases ws with
  | nil => simp at h
  | cons x t => simp only [List.map_cons, List.cons.injEq] at h; exact ⟨rfl, h.1⟩

set_option linter.unusedSimpArgs false in
set_option maxHeartbeats 2000000 in
theorem wordNum_any : NumSaid := fun w0 H b ws bad w hG hB hb hH h hl hs => by
  have hbw : b < w.heap.size := Nat.lt_of_lt_of_le h.1 hH
  have HP := Lib.hid (fun k r => num_head (ws := ws) (k := k) (r := r))
  have hX : (ws.headD ByteArray.empty).size ≤ 1000000 := by
    cases ws with
    | nil => simp
    | cons x t => exact hs x (by simp)
  have HNX := Lib.hid (next_any H b ws bad w h hl)
  have HK : Hid (∀ W1, w.grownBy W1 (some b) → Grd W1 ∧ H ≤ W1.heap.size) := fun W1 hg =>
    ⟨hG.below (below_of_grown hB hg hb hB.size) (Nat.le_refl _), Nat.le_trans hH hg.size⟩
  clear h hs hG hB hb hH
  generalize ws.headD ByteArray.empty = X at *
  generalize ws.isEmpty = E at *
  generalize ws.tail = T at *
  have HFIN : Hid (∀ (w1 w2 : World) (bad1 bad2 : Bool) (n : Int), WordsAt w1 H b T bad1 → w.grownBy w1 (some b) → Below w1.heap.size w1 w2 → (0 ≤ n ∧ n < 18446744073709551616) → (∀ (k : Nat) (r : List (List UInt8)), k < 18446744073709551616 → ws.map bL = Lib.decDigits k :: r → n = k ∧ bad2 = bad) → ∃ (n' : Int) (bad' : Bool), Ending.returned (.int .u64 n) = .returned (.int .u64 n') ∧ (0 ≤ n' ∧ n' < 18446744073709551616) ∧ WordsAt (w2.setCell ⟨b, 1, none⟩ (.bool bad2)) H b T bad' ∧ w.grownBy (w2.setCell ⟨b, 1, none⟩ (.bool bad2)) (some b) ∧ (∀ (k : Nat) (r : List (List UInt8)), k < 18446744073709551616 → ws.map bL = Lib.decDigits k :: r → n' = k ∧ bad' = bad)) := fun w1 w2 bad1 bad2 n h1 h2 h3 h4 h5 =>
    ⟨n, bad2, rfl, h4, (h1.below h3 (HK.out w1 h2).2).setBad bad2, grown_trans (grown_trans h2 (grown_of_below h3)) (grown_set _ _ _ _), h5⟩
  have HPD : Hid (∀ k, k < 18446744073709551616 → X.data.toList = Lib.decDigits k → Lib.parseUintB 64 X.data.toList = .ok k) := fun k hk e => by rw [e]; exact parseB_dec hk
  cases hp : Lib.parseUintB 64 X.data.toList with
  | ok u =>
    have hu : u ≤ 18446744073709551615 := Lib.parseUintB_le hp
    have HPU : Hid (∀ W : World, Calls Tryz.prog 73 #[.string X, .int .i64 10, .int .i64 64] W fun e w' => e = .returned (.tuple #[.int .u64 u, .nilIface]) ∧ Below W.heap.size W w') := fun W =>
      (Tryz.strconv_ParseUint_10_at64_ok X (by omega) u hp W).mono fun e w' ⟨h1, h2⟩ => ⟨h1, by rcases h2 with rfl | rfl; exact Below.refl _ _; exact Lib.bytesWorld_below _ _ _⟩
    have HFW : Hid (∀ (k : Nat) (r : List (List UInt8)), k < 18446744073709551616 → ws.map bL = Lib.decDigits k :: r → (u : Int) = k ∧ (bad || E) = bad) := fun k r hk hw => by
      obtain ⟨h1, h2⟩ := HP.out k r hw
      have h3 := HPD.out k hk h2
      rw [hp] at h3
      injection h3 with h3
      exact ⟨by rw [h3], by rw [h1]; simp⟩
    clear hp HPD HP
    generalize (bad || E) = bad1 at *
    go_enter Tryz.func46, Tryz.ntmps46
    go_upto_region 2 with (first
      | (go_at_call 22; refine cargs (by simp [Act.eval]) (HNX.out.mono ?_); rintro e w1 ⟨rfl, hw1, hg1⟩; have HW1 := Lib.hid hw1; have HG1 := Lib.hid hg1; clear hw1 hg1)
      | (go_at_call 73; refine cargs (by simp [Act.eval]) ((HPU.out _).mono ?_); rintro e w2 ⟨rfl, hb2⟩; have HB2 := Lib.hid hb2; clear hb2))
    obtain ⟨_, _, _, b1, _, bz⟩ := (HW1.out.below HB2.out (HK.out w1 HG1.out).2).cells
    cases bad1 with
    | true =>
      go_wp2_with fail
      go_ret
      exact HFIN.out w1 w2 true true u HW1.out HG1.out HB2.out ⟨by omega, by omega⟩ (fun k r hk hw => HFW.out k r hk hw)
    | false =>
      go_wp2_with fail
      go_ret
      exact HFIN.out w1 w2 false false u HW1.out HG1.out HB2.out ⟨by omega, by omega⟩ (fun k r hk hw => HFW.out k r hk hw)
  | range =>
    have HPU : Hid (∀ W : World, Grd W → Calls Tryz.prog 73 #[.string X, .int .i64 10, .int .i64 64] W fun e w' => (∃ t N, e = .returned (.tuple #[.int .u64 18446744073709551615, .iface t (.pointer (some ⟨N, 0, none⟩))])) ∧ Below W.heap.size W w') := fun W hg => by
      obtain ⟨ev, h1, h2⟩ := hg.rang
      exact (Tryz.strconv_ParseUint_10_at64_range X (by omega) hp ev W h1 h2).mono fun e w' ⟨N, k1, _, _, k2⟩ => ⟨⟨_, N, k1⟩, k2⟩
    have HFW : Hid (∀ (k : Nat) (r : List (List UInt8)), k < 18446744073709551616 → ws.map bL = Lib.decDigits k :: r → (18446744073709551615 : Int) = k ∧ true = bad) := fun k r hk hw => by
      obtain ⟨h1, h2⟩ := HP.out k r hw
      have h3 := HPD.out k hk h2
      rw [hp] at h3
      cases h3
    clear hp HPD HP
    generalize (bad || E) = bad1 at *
    go_enter Tryz.func46, Tryz.ntmps46
    go_upto_region 2 with (first
      | (go_at_call 22; refine cargs (by simp [Act.eval]) (HNX.out.mono ?_); rintro e w1 ⟨rfl, hw1, hg1⟩; have HW1 := Lib.hid hw1; have HG1 := Lib.hid hg1; clear hw1 hg1)
      | (go_at_call 73; refine cargs (by simp [Act.eval]) ((HPU.out _ (HK.out w1 HG1.out).1).mono ?_); rintro e w2 ⟨⟨te, N, rfl⟩, hb2⟩; have HB2 := Lib.hid hb2; clear hb2))
    obtain ⟨_, _, _, b1, _, bz⟩ := (HW1.out.below HB2.out (HK.out w1 HG1.out).2).cells
    cases bad1 with
    | true =>
      go_wp2_with fail
      go_ret
      exact HFIN.out w1 w2 true true 18446744073709551615 HW1.out HG1.out HB2.out ⟨by omega, by omega⟩ (fun k r hk hw => HFW.out k r hk hw)
    | false =>
      go_wp2_with fail
      go_ret
      exact HFIN.out w1 w2 false true 18446744073709551615 HW1.out HG1.out HB2.out ⟨by omega, by omega⟩ (fun k r hk hw => HFW.out k r hk hw)
  | _ =>
    have HPU : Hid (∀ W : World, Grd W → Calls Tryz.prog 73 #[.string X, .int .i64 10, .int .i64 64] W fun e w' => (∃ t N, e = .returned (.tuple #[.int .u64 0, .iface t (.pointer (some ⟨N, 0, none⟩))])) ∧ Below W.heap.size W w') := fun W hg => by
      obtain ⟨ev, h1, h2⟩ := hg.synt
      exact (Tryz.strconv_ParseUint_10_at64_syntax X (by omega) hp ev W h1 h2).mono fun e w' ⟨N, k1, _, _, k2⟩ => ⟨⟨_, N, k1⟩, k2⟩
    have HFW : Hid (∀ (k : Nat) (r : List (List UInt8)), k < 18446744073709551616 → ws.map bL = Lib.decDigits k :: r → (0 : Int) = k ∧ true = bad) := fun k r hk hw => by
      obtain ⟨h1, h2⟩ := HP.out k r hw
      have h3 := HPD.out k hk h2
      rw [hp] at h3
      cases h3
    clear hp HPD HP
    generalize (bad || E) = bad1 at *
    go_enter Tryz.func46, Tryz.ntmps46
    go_upto_region 2 with (first
      | (go_at_call 22; refine cargs (by simp [Act.eval]) (HNX.out.mono ?_); rintro e w1 ⟨rfl, hw1, hg1⟩; have HW1 := Lib.hid hw1; have HG1 := Lib.hid hg1; clear hw1 hg1)
      | (go_at_call 73; refine cargs (by simp [Act.eval]) ((HPU.out _ (HK.out w1 HG1.out).1).mono ?_); rintro e w2 ⟨⟨te, N, rfl⟩, hb2⟩; have HB2 := Lib.hid hb2; clear hb2))
    obtain ⟨_, _, _, b1, _, bz⟩ := (HW1.out.below HB2.out (HK.out w1 HG1.out).2).cells
    cases bad1 with
    | true =>
      go_wp2_with fail
      go_ret
      exact HFIN.out w1 w2 true true 0 HW1.out HG1.out HB2.out ⟨by omega, by omega⟩ (fun k r hk hw => HFW.out k r hk hw)
    | false =>
      go_wp2_with fail
      go_ret
      exact HFIN.out w1 w2 false true 0 HW1.out HG1.out HB2.out ⟨by omega, by omega⟩ (fun k r hk hw => HFW.out k r hk hw)
end Go.Proofs.YtmgngapkgcofnaaGreatDoor
/- strings.Split at a byte, in plain words. -/
namespace Go.Proofs.YtmgngapkgcofnaaGreatDoor
open Go.RowKit

theorem index_at (c : UInt8) : ∀ (a r : List UInt8), (∀ b ∈ a, b ≠ c) → Lib.indexByte (a ++ c :: r) c = a.length
  | [], r, _ => by simp [Lib.indexByte]
  | x :: a, r, h => by
    have ih := index_at c a r (fun b hb => h b (by simp [hb]))
    have hx := h x (by simp)
    rw [List.cons_append, Lib.indexByte, if_neg (by simpa using hx), ih, if_neg (by simp)]
    simp
theorem first_of {c : UInt8} : ∀ {l : List UInt8}, c ∈ l → ∃ a r, l = a ++ c :: r ∧ c ∉ a
  | [], h => by simp at h
  | x :: l, h => by
    by_cases hx : x = c
    · subst hx; exact ⟨[], l, rfl, by simp⟩
    · obtain ⟨a, r, rfl, ha⟩ := first_of (List.mem_of_ne_of_mem (Ne.symm hx) h)
      exact ⟨x :: a, r, rfl, by simp [ha]; exact fun e => hx e.symm⟩
theorem splitK_cut (c : UInt8) : ∀ (n : Nat) (l : List UInt8), l.length ≤ n → Lib.splitK [c] 0 (l.count c) l = cutW c l
  | n, l, hn => by
    by_cases hc : c ∈ l
    · obtain ⟨a, r, rfl, ha⟩ := first_of hc
      have ha' : ∀ b ∈ a, b ≠ c := fun b hb e => ha (e ▸ hb)
      have hcnt : (a ++ c :: r).count c = r.count c + 1 := by
        rw [List.count_append, List.count_cons_self, List.count_eq_zero.2 ha]; omega
      have hix : Lib.index (a ++ c :: r) [c] = a.length := by rw [Lib.index_one, index_at c a r ha']
      rw [hcnt, Lib.splitK, hix, if_neg (by simp), cutW_app c a r ha']
      cases n with
      | zero => simp at hn
      | succ n =>
        have ih := splitK_cut c n r (by simp at hn; omega)
        simp only [Int.toNat_natCast, Nat.add_zero, List.length_cons, List.length_nil, Nat.zero_add]
        rw [List.take_left, show (a ++ c :: r).drop (a.length + 1) = r from by simp, ih]
    · rw [List.count_eq_zero.2 hc, Lib.splitK, cutW_one c l (fun b hb e => hc (e ▸ hb))]
theorem cutW_len (c : UInt8) : ∀ l : List UInt8, (cutW c l).length ≤ l.length + 1
  | [] => by simp [cutW]
  | b :: r => by
    have ih := cutW_len c r
    rw [cutW]
    split
    · simp; omega
    · split
      · simp
      · rename_i h t e; rw [e] at ih; simp at ih ⊢; omega
theorem cutW_word (c : UInt8) : ∀ (l : List UInt8), ∀ w ∈ cutW c l, w.length ≤ l.length
  | [], w, hw => by simp [cutW] at hw; subst hw; simp
  | b :: r, w, hw => by
    rw [cutW] at hw
    split at hw
    · rcases List.mem_cons.1 hw with rfl | hw
      · simp
      · have := cutW_word c r w hw; simp; omega
    · cases h : cutW c r with
      | nil => exact absurd h (cutW_ne _ _)
      | cons y t =>
        rw [h] at hw
        simp only at hw
        rcases List.mem_cons.1 hw with rfl | hw
        · have := cutW_word c r y (by rw [h]; simp); simp; omega
        · have := cutW_word c r w (by rw [h]; simp [hw]); simp; omega
theorem split_any (s : ByteArray) (c : UInt8) (w : World) (hs : s.size ≤ 1000000) (hG : Grd w) :
    Calls Tryz.prog 21 #[.string s, .string ⟨#[c]⟩] w fun e w' => ∃ ws : List ByteArray, ws.map bL = cutW c (bL s) ∧ e = .returned (.slice (some ⟨w.heap.size, 0, none⟩) ws.length ws.length) ∧ w' = w.alloc (.cells (ws.map Value.string).toArray 9) ∧ (∀ x ∈ ws, x.size ≤ s.size) ∧ ws.length ≤ s.size + 1 ∧ ws ≠ [] := by
  obtain ⟨m, hm⟩ := hG.maxl
  refine (Tryz.strings_Split s ⟨#[c]⟩ m w (by omega) hm (Nat.le_refl 1)).mono fun e w' ⟨h1, h2⟩ => ?_
  have hd := Lib.splitB_data ⟨#[c]⟩ 0 (Lib.countB s ⟨#[c]⟩) s
  have hlen := Lib.splitB_all ⟨#[c]⟩ (Nat.le_refl 1) 0 _ s rfl
  have hk : (Lib.splitB ⟨#[c]⟩ 0 (Lib.countB s ⟨#[c]⟩) s).map bL = cutW c (bL s) := by
    show (Lib.splitB ⟨#[c]⟩ 0 (Lib.countB s ⟨#[c]⟩) s).map (·.data.toList) = _
    rw [hd]
    have : Lib.countB s ⟨#[c]⟩ = (bL s).count c := by
      unfold Lib.countB
      rw [Lib.count_one]
      rfl
    rw [this]
    exact splitK_cut c _ _ (Nat.le_refl _)
  have hsz : (bL s).length = s.size := by unfold bL; simp
  refine ⟨_, hk, by rw [h1, hlen], h2, fun x hx => ?_, ?_, fun h0 => ?_⟩
  · have := cutW_word c (bL s) (bL x) (by rw [← hk]; exact List.mem_map_of_mem hx)
    unfold bL at this
    simp at this
    exact this
  · have := cutW_len c (bL s)
    rw [← hk, List.length_map] at this
    omega
  · rw [h0] at hlen; simp at hlen
end Go.Proofs.YtmgngapkgcofnaaGreatDoor
