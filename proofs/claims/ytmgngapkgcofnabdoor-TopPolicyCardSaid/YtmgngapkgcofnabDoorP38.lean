/- Texts of actions and of conditions: the walks. -/
import Derived.Test.YtmgngapkgcofnabDoorP36
import Derived.Test.YtmgngapkgcofnabDoorP37
import Derived.Test.YtmgngapkgcofnabDoorP21
import Derived.Test.YtmgngapkgcofnabDoorP30
namespace Go.Proofs.YtmgngapkgcofnabDoor
open Go.RowKit

theorem dec_len20 (n : Nat) (h : n < 18446744073709551616) : (Lib.decDigits n).length ≤ 20 := by
  rw [Lib.decDigits_length]
  rcases Nat.eq_zero_or_pos n with rfl | h1
  · have := nDigits_le5 (u := 0) (by omega); omega
  · have := Lib.numDigits_eq n h1 h; split at this <;> omega
theorem joinA1 : joinW 32 (actW 1 0) = [97, 108, 108, 111, 119] := rfl
theorem joinA3 : joinW 32 (actW 3 0) = [107, 105, 108, 108] := rfl
theorem joinA2 (n : Nat) : joinW 32 (actW 2 (n : Int)) = [100, 101, 110, 121, 32] ++ Lib.decDigits n := by
  show joinW 32 [wDeny, Lib.decDigits ((n : Int).toNat)] = _
  rw [Int.toNat_natCast]
  rfl
theorem actionText_any (k e : Int) (w : World) (hk : actF k e = 0) (htab : Lib.TabIs Tryd.prog w "internal/strconv.uint64pow10" .u64 Lib.pow10Tab) :
    Calls Tryd.prog 30 #[.agg #[.int .i64 k, .int .i64 e]] w fun e' w' => e' = .returned (.string ⟨(joinW 32 (actW k e)).toArray⟩) ∧ Below w.heap.size w w' := by
  have HTB := Lib.hid (tab_below htab)
  clear htab
  rcases actF_cases hk with ⟨rfl, rfl⟩ | ⟨rfl, rfl⟩ | ⟨rfl, h1, h2⟩
  · rw [joinA1]
    go_enter Tryd.func30, Tryd.ntmps30
    go_wp2
    go_ret
    exact ⟨rfl, (Below.refl _ _).alloc (Nat.le_refl _) _⟩
  · rw [joinA3]
    go_enter Tryd.func30, Tryd.ntmps30
    go_wp2
    go_ret
    exact ⟨rfl, (Below.refl _ _).alloc (Nat.le_refl _) _⟩
  · obtain ⟨n, rfl⟩ : ∃ n : Nat, e = n := ⟨e.toNat, by omega⟩
    rw [joinA2]
    have hB : ∀ W, W = w.alloc (.cells #[.int .i64 2, .int .i64 (n : Int)] 38) → Below w.heap.size w W := fun W h => by subst h; exact (Below.refl _ _).alloc (Nat.le_refl _) _
    have HB := Lib.hid hB
    have HIT : Hid (∀ W, Below w.heap.size w W → Calls Tryd.prog 22 #[.int .i64 (n : Int)] W fun e w' => e = .returned (.string ⟨(Lib.decDigits n).toArray⟩) ∧ Below W.heap.size W w') := fun W hb => Tryd.itoa_any _ (by omega) W (HTB.out W hb)
    have hl := dec_len20 n (by omega)
    generalize Lib.decDigits n = D at *
    have g1 : ¬ 9223372036854775807 < 5 + D.length := by omega
    clear hB
    go_enter Tryd.func30, Tryd.ntmps30
    go_wp2_with (go_at_call 22; refine cargs (by simp) ((HIT.out _ (HB.out _ rfl)).mono ?_); rintro e w1 ⟨rfl, hb1⟩; have HB1 := Lib.hid hb1; clear hb1)
    go_ret
    refine ⟨?_, below_box (Below.refl _ _) (Nat.le_refl _) HB1.out⟩
    refine congrArg (fun v => Ending.returned (Value.string v)) ?_
    exact bstr_app [100, 101, 110, 121, 32] D
theorem textN_len {x : NetD} (hx : x.ok) (hf : netF x = 0) : (textN x).length ≤ 200 := by
  have h := parts_small hx hf
  have hd : ∀ k ∈ partsN x, (Lib.decDigits k).length ≤ 20 := fun k hk => dec_len20 k (by have := h k hk; omega)
  have key : ∀ (cs : List UInt8) (ks : List Nat), (∀ k ∈ ks, (Lib.decDigits k).length ≤ 20) → (joinT cs ks).length ≤ 21 * cs.length + 20 := by
    intro cs
    induction cs with
    | nil =>
      intro ks hk
      rcases ks with _ | ⟨k, _ | ⟨k2, ks⟩⟩
      · simp [joinT]
      · simpa [joinT] using hk k (by simp)
      · simp [joinT]
    | cons c cs ih =>
      intro ks hk
      rcases ks with _ | ⟨k, ks⟩
      · simp [joinT]
      · have h1 := hk k (by simp)
        have h2 := ih ks (fun x hx => hk x (by simp [hx]))
        rw [joinT]
        simp only [List.length_append, List.length_cons]
        omega
  have h2 := key sepsN (partsN x) hd
  have h3 : sepsN.length = 6 := rfl
  unfold textN
  omega
/-! A condition's text. -/
def ctL (x : CondD) : List UInt8 := joinW 32 (condW x)
theorem ct7 (a v m : Nat) (g : ByteArray) (n : NetD) : ctL ⟨a, 7, v, m, g, n⟩ = Lib.decDigits a ++ [32] ++ [38, 32] ++ Lib.decDigits m ++ [32, 61, 61, 32] ++ Lib.decDigits v := by
  unfold ctL condW
  simp [joinW, wMask, wEq]
theorem ct8 (a : Nat) (v m : Int) (g : ByteArray) (n : NetD) : ctL ⟨a, 8, v, m, g, n⟩ = Lib.decDigits a ++ [32] ++ [126, 32, 34] ++ g.data.toList ++ [34] := by
  unfold ctL condW
  simp [joinW, wLike, quoteW]
theorem ct9 (a : Nat) (v m : Int) (g : ByteArray) (n : NetD) : ctL ⟨a, 9, v, m, g, n⟩ = Lib.decDigits a ++ [32] ++ [105, 110, 32] ++ textN n := by
  unfold ctL condW
  simp [joinW, wIn]
theorem ct6 (a j v : Nat) (m : Int) (g : ByteArray) (n : NetD) (h1 : 1 ≤ j) (h6 : j ≤ 6) : ctL ⟨a, j, v, m, g, n⟩ = Lib.decDigits a ++ [32] ++ signW j ++ [32] ++ Lib.decDigits v := by
  unfold ctL condW
  simp only
  rw [if_neg (by omega), if_neg (by omega), if_neg (by omega)]
  simp [joinW]
theorem gstr (g : ByteArray) : g = ⟨g.data.toList.toArray⟩ := by simp

set_option linter.unusedSimpArgs false in
set_option maxRecDepth 100000 in
set_option maxHeartbeats 4000000 in
theorem condText_any (nr : Nat) (x : CondD) (w : World) (hok : x.ok) (hf : condF nr x = 0) (htab : Lib.TabIs Tryd.prog w "internal/strconv.uint64pow10" .u64 Lib.pow10Tab) :
    Calls Tryd.prog 32 #[x.val] w fun e w' => e = .returned (.string ⟨(ctL x).toArray⟩) ∧ Below w.heap.size w w' := by
  have HTB := Lib.hid (tab_below htab)
  clear htab
  obtain ⟨⟨ha0, ha3⟩, ⟨ho1, ho9⟩, ⟨v0, v1⟩, ⟨m0, m1⟩, _, _, _, _, hnet⟩ := condRd_of hok hf
  have hgl : x.op = 8 → x.glob.size ≤ 24 := fun h8 => by
    unfold condF at hf
    split at hf
    · omega
    · split at hf
      · omega
      · unfold globF at hf
        split at hf
        · omega
        · rename_i h; unfold bytesOf at h; simp at h; exact h
  clear hf hok
  obtain ⟨arg, op, v, m, glob, net⟩ := x
  simp only at ha0 ha3 ho1 ho9 v0 v1 m0 m1 hnet hgl
  obtain ⟨A, rfl⟩ : ∃ A : Nat, arg = A := ⟨arg.toNat, by omega⟩
  obtain ⟨v, rfl⟩ : ∃ j : Nat, v = j := ⟨v.toNat, by omega⟩
  obtain ⟨m, rfl⟩ : ∃ j : Nat, m = j := ⟨m.toNat, by omega⟩
  have HIT : Hid (∀ W, Below w.heap.size w W → Calls Tryd.prog 22 #[.int .i64 (A : Int)] W fun e w' => e = .returned (.string ⟨(Lib.decDigits A).toArray⟩) ∧ Below W.heap.size W w') := fun W hb => Tryd.itoa_any _ (by omega) W (HTB.out W hb)
  have HDV : Hid (∀ W, Below w.heap.size w W → Calls Tryd.prog 47 #[.int .u64 (v : Int)] W fun e w' => e = .returned (.string ⟨(Lib.decDigits v).toArray⟩) ∧ Below W.heap.size W w') := fun W hb => polDigits_any v (by omega) W (HTB.out W hb)
  have HDM : Hid (∀ W, Below w.heap.size w W → Calls Tryd.prog 47 #[.int .u64 (m : Int)] W fun e w' => e = .returned (.string ⟨(Lib.decDigits m).toArray⟩) ∧ Below W.heap.size W w') := fun W hb => polDigits_any m (by omega) W (HTB.out W hb)
  have hlA := dec_len20 A (by omega)
  have hlV := dec_len20 v (by omega)
  have hlM := dec_len20 m (by omega)
  have h6 := ct6 A op.toNat v m glob net
  have h7 := Lib.hid (ct7 A v m glob net)
  have h8 := Lib.hid (ct8 A v m glob net)
  have h9 := Lib.hid (ct9 A v m glob net)
  rw [show ((op.toNat : Nat) : Int) = op from by omega] at h6
  have H6 := Lib.hid h6
  clear h6
  generalize Lib.decDigits A = DA at *
  generalize Lib.decDigits v = DV at *
  generalize Lib.decDigits m = DM at *
  obtain ⟨ip, bits, lo, hi⟩ := net
  have HC9 := Lib.hid (cell9 w (.int .i64 (A : Int)) (.int .i64 op) (.int .u64 (v : Int)) (.int .u64 (m : Int)) (.string glob) (.int .u32 ip) (.int .i64 bits) (.int .i64 lo) (.int .i64 hi) 86)
  have HAB := Lib.hid (above w (.cells #[.int .i64 (A : Int), .int .i64 op, .int .u64 (v : Int), .int .u64 (m : Int), .string glob, .int .u32 ip, .int .i64 bits, .int .i64 lo, .int .i64 hi] 86))
  have hB : ∀ W, W = w.alloc (.cells #[.int .i64 (A : Int), .int .i64 op, .int .u64 (v : Int), .int .u64 (m : Int), .string glob, .int .u32 ip, .int .i64 bits, .int .i64 lo, .int .i64 hi] 86) → Below w.heap.size w W := fun W h => by subst h; exact (Below.refl _ _).alloc (Nat.le_refl _) _
  have HB := Lib.hid hB
  have g0 : ¬ 9223372036854775807 < DA.length + 1 := by omega
  clear hB
  unfold CondD.val
  simp only
  go_enter Tryd.func32, Tryd.ntmps32
  go_upto_region 2 with (go_at_call 22; refine cargs (by simp [Act.eval]) ((HIT.out _ (HB.out _ rfl)).mono ?_); rintro e w1 ⟨rfl, hb1⟩; have HB1 := Lib.hid hb1; clear hb1)
  obtain ⟨j0, j1, j2, j3, j4, j5, j6, j7, j8⟩ := HC9.out w1 HB1.out
  have HBW := Lib.hid (HAB.out w1 HB1.out)
  have HBQ : Hid (∀ (d : Nat) (os : Array Obj), Below w.heap.size w (Go.Sort.grow (redrawn w1 d) os)) := fun d os => HBW.out.trans ((below_regrown w1 d os).mono HBW.out.size)
  by_cases c7 : op = 7
  · subst c7
    have HT : Hid (ctL ⟨(A : Int), 7, (v : Int), (m : Int), glob, ⟨ip, bits, lo, hi⟩⟩ = DA ++ [32] ++ [38, 32] ++ DM ++ [32, 61, 61, 32] ++ DV) := h7.out
    have r2 := cell_regrown j2
    have r3 := cell_regrown j3
    have cDV := fun d os => Calls.regrown_of (HDV.out (Go.Sort.grow (redrawn w1 d) os) (HBQ.out d os))
    have cDM := fun d os => Calls.regrown_of (HDM.out (Go.Sort.grow (redrawn w1 d) os) (HBQ.out d os))
    have g1 : ¬ 9223372036854775807 < DA.length + 1 + 2 := by omega
    have g2 : ¬ 9223372036854775807 < DA.length + 1 + 2 + DM.length := by omega
    have g3 : ¬ 9223372036854775807 < DA.length + 1 + 2 + DM.length + 4 := by omega
    have g4 : ¬ 9223372036854775807 < DA.length + 1 + 2 + DM.length + 4 + DV.length := by omega
    clear hnet hgl
    go_upto_region 4 with fail
    refine wp_region_quiet_below (by kernel_rfl) (by kernel_rfl) ?_
    repeat (go_big_quiet_step (first | exact cDM _ _ | exact cDV _ _))
    refine wpQuiet_nil ?_
    intro _ hw'
    obtain ⟨⟨dq, osq⟩, hw''⟩ := hw'
    subst hw''
    go_wp2_with fail
    go_returns
    refine ⟨?_, HBQ.out dq osq⟩
    rw [HT.out]
    refine congrArg (fun v => Ending.returned (Value.string v)) ?_
    simp only [← bstr_app] <;> rfl
  · have t7 : ((op : Int) == 7) = false := beq_eq_false_iff_ne.2 c7
    by_cases c8 : op = 8
    · subst c8
      have HT : Hid (ctL ⟨(A : Int), 8, (v : Int), (m : Int), glob, ⟨ip, bits, lo, hi⟩⟩ = DA ++ [32] ++ [126, 32, 34] ++ glob.data.toList ++ [34]) := h8.out
      have hgs := hgl rfl
      have g1 : ¬ 9223372036854775807 < DA.length + 1 + 3 := by omega
      have g2 : ¬ 9223372036854775807 < DA.length + 1 + 3 + glob.size := by omega
      have g3 : ¬ 9223372036854775807 < DA.length + 1 + 3 + glob.size + 1 := by omega
      clear hnet hgl c7
      go_wp2_with fail
      go_returns
      refine ⟨?_, HBW.out⟩
      rw [HT.out]
      refine congrArg (fun v => Ending.returned (Value.string v)) ?_
      simp only [← bstr_app]
    · have t8 : ((op : Int) == 8) = false := beq_eq_false_iff_ne.2 c8
      by_cases c9 : op = 9
      · subst c9
        have HT : Hid (ctL ⟨(A : Int), 9, (v : Int), (m : Int), glob, ⟨ip, bits, lo, hi⟩⟩ = DA ++ [32] ++ [105, 110, 32] ++ textN ⟨ip, bits, lo, hi⟩) := h9.out
        obtain ⟨hn1, hn2⟩ := hnet rfl
        have HNT : Hid (∀ W, Below w.heap.size w W → Calls Tryd.prog 7 #[.agg #[.int .u32 ip, .int .i64 bits, .int .i64 lo, .int .i64 hi]] W fun e w' => e = .returned (.tuple #[.string ⟨(textN ⟨ip, bits, lo, hi⟩).toArray⟩, .nilIface]) ∧ Below W.heap.size W w') := fun W hb => (text_any ⟨ip, bits, lo, hi⟩ W hn1 (HTB.out W hb)).mono fun e w' ⟨k1, k2⟩ => ⟨by rw [k1, hn2]; rfl, k2⟩
        have hln := textN_len hn1 hn2
        generalize textN ⟨ip, bits, lo, hi⟩ = D at *
        have g1 : ¬ 9223372036854775807 < DA.length + 1 + 3 := by omega
        have g2 : ¬ 9223372036854775807 < DA.length + 1 + 3 + D.length := by omega
        clear hnet hgl c7 c8 hn1 hn2
        go_wp2_with (go_at_call 7; refine cargs (by simp [Act.eval]) ((HNT.out _ HBW.out).mono ?_); rintro e w2 ⟨rfl, hb2⟩; have HB2 := Lib.hid hb2; clear hb2)
        go_returns
        refine ⟨?_, HBW.out.trans (HB2.out.mono HBW.out.size)⟩
        rw [HT.out]
        refine congrArg (fun v => Ending.returned (Value.string v)) ?_
        simp only [← bstr_app] <;> rfl
      · have t9 : ((op : Int) == 9) = false := beq_eq_false_iff_ne.2 c9
        obtain ⟨j, rfl⟩ : ∃ j : Nat, op = j := ⟨op.toNat, by omega⟩
        rw [Int.toNat_natCast] at H6
        have HT : Hid (ctL ⟨(A : Int), (j : Int), (v : Int), (m : Int), glob, ⟨ip, bits, lo, hi⟩⟩ = DA ++ [32] ++ signW j ++ [32] ++ DV) := H6.out (by omega) (by omega)
        have r1 := cell_regrown j1
        have r2 := cell_regrown j2
        have cDV := fun d os => Calls.regrown_of (HDV.out (Go.Sort.grow (redrawn w1 d) os) (HBQ.out d os))
        have cSG : ∀ d os, Calls Tryd.prog 48 #[.int .i64 (j : Int)] (Go.Sort.grow (redrawn w1 d) os) fun e w'' => e = .returned (.string ⟨(signW j).toArray⟩) ∧ ∃ p : Regrown, w'' = Go.Sort.grow (redrawn w1 p.d) p.os := fun d os => (sign_any j _ (by omega)).mono fun _ _ h => ⟨h.1, ⟨⟨d, os⟩, h.2.symm⟩⟩
        have hls : (signW j).length ≤ 2 := by
          have : j = 1 ∨ j = 2 ∨ j = 3 ∨ j = 4 ∨ j = 5 ∨ j = 6 := by omega
          rcases this with rfl | rfl | rfl | rfl | rfl | rfl <;> decide
        generalize signW j = D at *
        have g1 : ¬ 9223372036854775807 < DA.length + 1 + D.length := by omega
        have g2 : ¬ 9223372036854775807 < DA.length + 1 + D.length + 1 := by omega
        have g3 : ¬ 9223372036854775807 < DA.length + 1 + D.length + 1 + DV.length := by omega
        clear hnet hgl c7 c8 c9
        go_upto_region 10 with fail
        refine wp_region_quiet_below (by kernel_rfl) (by kernel_rfl) ?_
        repeat (go_big_quiet_step (first | exact cDV _ _ | exact cSG _ _))
        refine wpQuiet_nil ?_
        intro _ hw'
        obtain ⟨⟨dq, osq⟩, hw''⟩ := hw'
        subst hw''
        go_wp2_with fail
        go_returns
        refine ⟨?_, HBQ.out dq osq⟩
        rw [HT.out]
        refine congrArg (fun v => Ending.returned (Value.string v)) ?_
        simp only [← bstr_app] <;> rfl
end Go.Proofs.YtmgngapkgcofnabDoor
