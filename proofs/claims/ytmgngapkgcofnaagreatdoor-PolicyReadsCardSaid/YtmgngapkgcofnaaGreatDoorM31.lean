/- Texts of actions and of conditions: the walks. -/
import Derived.Test.YtmgngapkgcofnaaGreatDoorM23
import Derived.Test.YtmgngapkgcofnaaGreatDoorM21
import Derived.Test.YtmgngapkgcofnaaGreatDoorM19
import Derived.Test.YtmgngapkgcofnaaGreatDoorM29
import Derived.Test.YtmgngapkgcofnaaGreatDoorM06
import Derived.Test.YtmgngapkgcofnaaGreatDoorM30
import Derived.BigQuiet
import Derived.Deep.RegionWith
namespace Go.Proofs.YtmgngapkgcofnaaGreatDoor
open Go.RowKit

theorem dec_len20 (n : Nat) (h : n < 18446744073709551616) : (Lib.decDigits n).length ≤ 20 := by
  rw [Lib.decDigits_length]
  rcases Nat.eq_zero_or_pos n with rfl | h1
  · have := nDigits_le5 (u := 0) (by omega); omega
  · have := Lib.numDigits_eq n h1 h; split at this <;> omega
theorem joinA1 : joinW 32 (actW 1 0) = [97, 108, 108, 111, 119] := rfl
theorem joinA3 : joinW 32 (actW 3 0) = [107, 105, 108, 108] := rfl
theorem joinA2 (n : Nat) : joinW 32 (actW 2 (n : Int)) = [100, 101, 110, 121, 32] ++ Lib.decDigits n := by
  show joinW 32 [wDeny, Lib.decDigits ((n : Int).toNat)] = _
  rw [Int.toNat_natCast]
  rfl
theorem actionText_any (k e : Int) (w : World) (hk : actF k e = 0) (htab : Lib.TabIs Tryz.prog w "internal/strconv.uint64pow10" .u64 Lib.pow10Tab) :
    Calls Tryz.prog 31 #[.agg #[.int .i64 k, .int .i64 e]] w fun e' w' => e' = .returned (.string ⟨(joinW 32 (actW k e)).toArray⟩) ∧ Below w.heap.size w w' := by
  have HTB := Lib.hid (tab_below htab)
  clear htab
  rcases actF_cases hk with ⟨rfl, rfl⟩ | ⟨rfl, rfl⟩ | ⟨rfl, h1, h2⟩
  · rw [joinA1]
    go_enter Tryz.func31, Tryz.ntmps31
    go_wp2
    go_ret
    exact ⟨rfl, (Below.refl _ _).alloc (Nat.le_refl _) _⟩
  · rw [joinA3]
    go_enter Tryz.func31, Tryz.ntmps31
    go_wp2
    go_ret
    exact ⟨rfl, (Below.refl _ _).alloc (Nat.le_refl _) _⟩
  · obtain ⟨n, rfl⟩ : ∃ n : Nat, e = n := ⟨e.toNat, by omega⟩
    rw [joinA2]
    have hB : ∀ W, W = w.alloc (.cells #[.int .i64 2, .int .i64 (n : Int)] 25) → Below w.heap.size w W := fun W h => by subst h; exact (Below.refl _ _).alloc (Nat.le_refl _) _
    have HB := Lib.hid hB
    have HIT : Hid (∀ W, Below w.heap.size w W → Calls Tryz.prog 54 #[.int .i64 (n : Int)] W fun e w' => e = .returned (.string ⟨(Lib.decDigits n).toArray⟩) ∧ Below W.heap.size W w') := fun W hb => Tryz.itoa_any _ (by omega) W (HTB.out W hb)
    have hl := dec_len20 n (by omega)
    generalize Lib.decDigits n = D at *
    have g1 : ¬ 9223372036854775807 < 5 + D.length := by omega
    clear hB
    go_enter Tryz.func31, Tryz.ntmps31
    go_wp2_with (go_at_call 54; refine cargs (by simp) ((HIT.out _ (HB.out _ rfl)).mono ?_); rintro e w1 ⟨rfl, hb1⟩; have HB1 := Lib.hid hb1; clear hb1)
    go_ret
    refine ⟨?_, below_box (Below.refl _ _) (Nat.le_refl _) HB1.out⟩
    refine congrArg (fun v => Ending.returned (Value.string v)) ?_
    exact bstr_app [100, 101, 110, 121, 32] D
theorem textN_len {x : NetD} (hx : x.ok) (hf : netF x = 0) : (textN x).length ≤ 200 := by
  have h := parts_small hx hf
  have hd : ∀ k ∈ partsN x, (Lib.decDigits k).length ≤ 20 := fun k hk => dec_len20 k (by have := h k hk; omega)
  have key : ∀ (cs : List UInt8) (ks : List Nat), (∀ k ∈ ks, (Lib.decDigits k).length ≤ 20) → (joinT cs ks).length ≤ 21 * cs.length + 20 := by
    intro cs
    induction cs with
    | nil =>
      intro ks hk
      rcases ks with _ | ⟨k, _ | ⟨k2, ks⟩⟩
      · simp [joinT]
      · simpa [joinT] using hk k (by simp)
      · simp [joinT]
    | cons c cs ih =>
      intro ks hk
      rcases ks with _ | ⟨k, ks⟩
      · simp [joinT]
      · have h1 := hk k (by simp)
        have h2 := ih ks (fun x hx => hk x (by simp [hx]))
        rw [joinT]
        simp only [List.length_append, List.length_cons]
        omega
  have h2 := key sepsN (partsN x) hd
  have h3 : sepsN.length = 6 := rfl
  unfold textN
  omega
/-! A condition's text. -/
def ctL (x : CondD) : List UInt8 := joinW 32 (condW x)
theorem ct7 (a v m : Nat) (g : ByteArray) (n : NetD) : ctL ⟨a, 7, v, m, g, n⟩ = Lib.decDigits a ++ [32] ++ [38, 32] ++ Lib.decDigits m ++ [32, 61, 61, 32] ++ Lib.decDigits v := by
  unfold ctL condW
  simp [joinW, wMask, wEq]
theorem ct8 (a : Nat) (v m : Int) (g : ByteArray) (n : NetD) : ctL ⟨a, 8, v, m, g, n⟩ = Lib.decDigits a ++ [32] ++ [126, 32, 34] ++ g.data.toList ++ [34] := by
  unfold ctL condW
  simp [joinW, wLike, quoteW]
theorem ct9 (a : Nat) (v m : Int) (g : ByteArray) (n : NetD) : ctL ⟨a, 9, v, m, g, n⟩ = Lib.decDigits a ++ [32] ++ [105, 110, 32] ++ textN n := by
  unfold ctL condW
  simp [joinW, wIn]
theorem ct6 (a j v : Nat) (m : Int) (g : ByteArray) (n : NetD) (h1 : 1 ≤ j) (h6 : j ≤ 6) : ctL ⟨a, j, v, m, g, n⟩ = Lib.decDigits a ++ [32] ++ signW j ++ [32] ++ Lib.decDigits v := by
  unfold ctL condW
  simp only
  rw [if_neg (by omega), if_neg (by omega), if_neg (by omega)]
  simp [joinW]
theorem gstr (g : ByteArray) : g = ⟨g.data.toList.toArray⟩ := by simp

set_option linter.unusedSimpArgs false in
set_option maxRecDepth 100000 in
set_option maxHeartbeats 4000000 in
theorem condText_any (nr : Nat) (x : CondD) (w : World) (hok : x.ok) (hf : condF nr x = 0) (htab : Lib.TabIs Tryz.prog w "internal/strconv.uint64pow10" .u64 Lib.pow10Tab) :
    Calls Tryz.prog 33 #[x.val] w fun e w' => e = .returned (.string ⟨(ctL x).toArray⟩) ∧ Below w.heap.size w w' := by
  have HTB := Lib.hid (tab_below htab)
  clear htab
  obtain ⟨⟨ha0, ha3⟩, ⟨ho1, ho9⟩, ⟨v0, v1⟩, ⟨m0, m1⟩, _, _, _, _, hnet⟩ := condRd_of hok hf
  have hgl : x.op = 8 → x.glob.size ≤ 24 := fun h8 => by
    unfold condF at hf
    split at hf
    · omega
    · split at hf
      · omega
      · unfold globF at hf
        split at hf
        · omega
        · rename_i h; unfold bytesOf at h; simp at h; exact h
  clear hf hok
  obtain ⟨arg, op, v, m, glob, net⟩ := x
  simp only at ha0 ha3 ho1 ho9 v0 v1 m0 m1 hnet hgl
  obtain ⟨A, rfl⟩ : ∃ A : Nat, arg = A := ⟨arg.toNat, by omega⟩
  obtain ⟨v, rfl⟩ : ∃ j : Nat, v = j := ⟨v.toNat, by omega⟩
  obtain ⟨m, rfl⟩ : ∃ j : Nat, m = j := ⟨m.toNat, by omega⟩
  have HIT : Hid (∀ W, Below w.heap.size w W → Calls Tryz.prog 54 #[.int .i64 (A : Int)] W fun e w' => e = .returned (.string ⟨(Lib.decDigits A).toArray⟩) ∧ Below W.heap.size W w') := fun W hb => Tryz.itoa_any _ (by omega) W (HTB.out W hb)
  have HDV : Hid (∀ W, Below w.heap.size w W → Calls Tryz.prog 55 #[.int .u64 (v : Int)] W fun e w' => e = .returned (.string ⟨(Lib.decDigits v).toArray⟩) ∧ Below W.heap.size W w') := fun W hb => polDigits_any v (by omega) W (HTB.out W hb)
  have HDM : Hid (∀ W, Below w.heap.size w W → Calls Tryz.prog 55 #[.int .u64 (m : Int)] W fun e w' => e = .returned (.string ⟨(Lib.decDigits m).toArray⟩) ∧ Below W.heap.size W w') := fun W hb => polDigits_any m (by omega) W (HTB.out W hb)
  have hlA := dec_len20 A (by omega)
  have hlV := dec_len20 v (by omega)
  have hlM := dec_len20 m (by omega)
  have h6 := ct6 A op.toNat v m glob net
  have h7 := Lib.hid (ct7 A v m glob net)
  have h8 := Lib.hid (ct8 A v m glob net)
  have h9 := Lib.hid (ct9 A v m glob net)
  rw [show ((op.toNat : Nat) : Int) = op from by omega] at h6
  have H6 := Lib.hid h6
  clear h6
  generalize Lib.decDigits A = DA at *
  generalize Lib.decDigits v = DV at *
  generalize Lib.decDigits m = DM at *
  obtain ⟨ip, bits, lo, hi⟩ := net
  have HC9 := Lib.hid (cell9 w (.int .i64 (A : Int)) (.int .i64 op) (.int .u64 (v : Int)) (.int .u64 (m : Int)) (.string glob) (.int .u32 ip) (.int .i64 bits) (.int .i64 lo) (.int .i64 hi) 84)
  have HAB := Lib.hid (above w (.cells #[.int .i64 (A : Int), .int .i64 op, .int .u64 (v : Int), .int .u64 (m : Int), .string glob, .int .u32 ip, .int .i64 bits, .int .i64 lo, .int .i64 hi] 84))
  have hB : ∀ W, W = w.alloc (.cells #[.int .i64 (A : Int), .int .i64 op, .int .u64 (v : Int), .int .u64 (m : Int), .string glob, .int .u32 ip, .int .i64 bits, .int .i64 lo, .int .i64 hi] 84) → Below w.heap.size w W := fun W h => by subst h; exact (Below.refl _ _).alloc (Nat.le_refl _) _
  have HB := Lib.hid hB
  have g0 : ¬ 9223372036854775807 < DA.length + 1 := by omega
  clear hB
  unfold CondD.val
  simp only
  go_enter Tryz.func33, Tryz.ntmps33
  go_upto_region 2 with (go_at_call 54; refine cargs (by simp [Act.eval]) ((HIT.out _ (HB.out _ rfl)).mono ?_); rintro e w1 ⟨rfl, hb1⟩; have HB1 := Lib.hid hb1; clear hb1)
  obtain ⟨j0, j1, j2, j3, j4, j5, j6, j7, j8⟩ := HC9.out w1 HB1.out
  have HBW := Lib.hid (HAB.out w1 HB1.out)
  have HBQ : Hid (∀ (d : Nat) (os : Array Obj), Below w.heap.size w (Go.Sort.grow (redrawn w1 d) os)) := fun d os => HBW.out.trans ((below_regrown w1 d os).mono HBW.out.size)
  by_cases c7 : op = 7
  · subst c7
    have HT : Hid (ctL ⟨(A : Int), 7, (v : Int), (m : Int), glob, ⟨ip, bits, lo, hi⟩⟩ = DA ++ [32] ++ [38, 32] ++ DM ++ [32, 61, 61, 32] ++ DV) := h7.out
    have r2 := cell_regrown j2
    have r3 := cell_regrown j3
    have cDV := fun d os => Calls.regrown_of (HDV.out (Go.Sort.grow (redrawn w1 d) os) (HBQ.out d os))
    have cDM := fun d os => Calls.regrown_of (HDM.out (Go.Sort.grow (redrawn w1 d) os) (HBQ.out d os))
    have g1 : ¬ 9223372036854775807 < DA.length + 1 + 2 := by omega
    have g2 : ¬ 9223372036854775807 < DA.length + 1 + 2 + DM.length := by omega
    have g3 : ¬ 9223372036854775807 < DA.length + 1 + 2 + DM.length + 4 := by omega
    have g4 : ¬ 9223372036854775807 < DA.length + 1 + 2 + DM.length + 4 + DV.length := by omega
    clear hnet hgl
    go_upto_region 4 with fail
    refine wp_region_quiet_below (by kernel_rfl) (by kernel_rfl) ?_
    repeat (go_big_quiet_step (first | exact cDM _ _ | exact cDV _ _))
    refine wpQuiet_nil ?_
    intro _ hw'
    obtain ⟨⟨dq, osq⟩, hw''⟩ := hw'
    subst hw''
    go_wp2_with fail
    go_returns
    refine ⟨?_, HBQ.out dq osq⟩
    rw [HT.out]
    refine congrArg (fun v => Ending.returned (Value.string v)) ?_
    simp only [← bstr_app] <;> rfl
  · have t7 : ((op : Int) == 7) = false := beq_eq_false_iff_ne.2 c7
    by_cases c8 : op = 8
    · subst c8
      have HT : Hid (ctL ⟨(A : Int), 8, (v : Int), (m : Int), glob, ⟨ip, bits, lo, hi⟩⟩ = DA ++ [32] ++ [126, 32, 34] ++ glob.data.toList ++ [34]) := h8.out
      have hgs := hgl rfl
      have g1 : ¬ 9223372036854775807 < DA.length + 1 + 3 := by omega
      have g2 : ¬ 9223372036854775807 < DA.length + 1 + 3 + glob.size := by omega
      have g3 : ¬ 9223372036854775807 < DA.length + 1 + 3 + glob.size + 1 := by omega
      clear hnet hgl c7
      go_wp2_with fail
      go_returns
      refine ⟨?_, HBW.out⟩
      rw [HT.out]
      refine congrArg (fun v => Ending.returned (Value.string v)) ?_
      simp only [← bstr_app]
    · have t8 : ((op : Int) == 8) = false := beq_eq_false_iff_ne.2 c8
      by_cases c9 : op = 9
      · subst c9
        have HT : Hid (ctL ⟨(A : Int), 9, (v : Int), (m : Int), glob, ⟨ip, bits, lo, hi⟩⟩ = DA ++ [32] ++ [105, 110, 32] ++ textN ⟨ip, bits, lo, hi⟩) := h9.out
        obtain ⟨hn1, hn2⟩ := hnet rfl
        have HNT : Hid (∀ W, Below w.heap.size w W → Calls Tryz.prog 56 #[.agg #[.int .u32 ip, .int .i64 bits, .int .i64 lo, .int .i64 hi]] W fun e w' => e = .returned (.tuple #[.string ⟨(textN ⟨ip, bits, lo, hi⟩).toArray⟩, .nilIface]) ∧ Below W.heap.size W w') := fun W hb => (text_any ⟨ip, bits, lo, hi⟩ W hn1 (HTB.out W hb)).mono fun e w' ⟨k1, k2⟩ => ⟨by rw [k1, hn2]; rfl, k2⟩
        have hln := textN_len hn1 hn2
        generalize textN ⟨ip, bits, lo, hi⟩ = D at *
        have g1 : ¬ 9223372036854775807 < DA.length + 1 + 3 := by omega
        have g2 : ¬ 9223372036854775807 < DA.length + 1 + 3 + D.length := by omega
        clear hnet hgl c7 c8 hn1 hn2
        go_wp2_with (go_at_call 56; refine cargs (by simp [Act.eval]) ((HNT.out _ HBW.out).mono ?_); rintro e w2 ⟨rfl, hb2⟩; have HB2 := Lib.hid hb2; clear hb2)
        go_returns
        refine ⟨?_, HBW.out.trans (HB2.out.mono HBW.out.size)⟩
        rw [HT.out]
        refine congrArg (fun v => Ending.returned (Value.string v)) ?_
        simp only [← bstr_app] <;> rfl
      · have t9 : ((op : Int) == 9) = false := beq_eq_false_iff_ne.2 c9
        obtain ⟨j, rfl⟩ : ∃ j : Nat, op = j := ⟨op.toNat, by omega⟩
        rw [Int.toNat_natCast] at H6
        have HT : Hid (ctL ⟨(A : Int), (j : Int), (v : Int), (m : Int), glob, ⟨ip, bits, lo, hi⟩⟩ = DA ++ [32] ++ signW j ++ [32] ++ DV) := H6.out (by omega) (by omega)
        have r1 := cell_regrown j1
        have r2 := cell_regrown j2
        have cDV := fun d os => Calls.regrown_of (HDV.out (Go.Sort.grow (redrawn w1 d) os) (HBQ.out d os))
        have cSG : ∀ d os, Calls Tryz.prog 57 #[.int .i64 (j : Int)] (Go.Sort.grow (redrawn w1 d) os) fun e w'' => e = .returned (.string ⟨(signW j).toArray⟩) ∧ ∃ p : Regrown, w'' = Go.Sort.grow (redrawn w1 p.d) p.os := fun d os => (sign_any j _ (by omega)).mono fun _ _ h => ⟨h.1, ⟨⟨d, os⟩, h.2.symm⟩⟩
        have hls : (signW j).length ≤ 2 := by
          have : j = 1 ∨ j = 2 ∨ j = 3 ∨ j = 4 ∨ j = 5 ∨ j = 6 := by omega
          rcases this with rfl | rfl | rfl | rfl | rfl | rfl <;> decide
        generalize signW j = D at *
        have g1 : ¬ 9223372036854775807 < DA.length + 1 + D.length := by omega
        have g2 : ¬ 9223372036854775807 < DA.length + 1 + D.length + 1 := by omega
        have g3 : ¬ 9223372036854775807 < DA.length + 1 + D.length + 1 + DV.length := by omega
        clear hnet hgl c7 c8 c9
        go_upto_region 10 with fail
        refine wp_region_quiet_below (by kernel_rfl) (by kernel_rfl) ?_
        repeat (go_big_quiet_step (first | exact cDV _ _ | exact cSG _ _))
        refine wpQuiet_nil ?_
        intro _ hw'
        obtain ⟨⟨dq, osq⟩, hw''⟩ := hw'
        subst hw''
        go_wp2_with fail
        go_returns
        refine ⟨?_, HBQ.out dq osq⟩
        rw [HT.out]
        refine congrArg (fun v => Ending.returned (Value.string v)) ?_
        simp only [← bstr_app] <;> rfl
end Go.Proofs.YtmgngapkgcofnaaGreatDoor
/- A policy's text, piece by piece: plain laws. -/
namespace Go.Proofs.YtmgngapkgcofnaaGreatDoor
open Go.RowKit

def condsT : Nat → List CondD → List UInt8
  | _, [] => []
  | k, x :: r => (if k = 0 then [32, 105, 102, 32] else [32, 97, 110, 100, 32]) ++ ctL x ++ condsT (k + 1) r
def ruleT (r : RuleD) : List UInt8 := joinW 32 (actW r.kind r.errno) ++ [32] ++ nameW r.nr.toNat ++ condsT 0 r.conds ++ [10]
def rulesT : List RuleD → List UInt8
  | [] => []
  | r :: rs => ruleT r ++ rulesT rs
def elseT (p : PolD) : List UInt8 := [101, 108, 115, 101, 32] ++ joinW 32 (actW p.kind p.errno) ++ [10]
theorem actW_ne (k e : Int) : actW k e ≠ [] := by unfold actW; split; simp; split <;> simp
theorem condW_ne (x : CondD) : condW x ≠ [] := by unfold condW; simp
theorem join_conds : ∀ (cs : List CondD) (k : Nat) (ws : List (List UInt8)), ws ≠ [] → joinW 32 (ws ++ condsW k cs) = joinW 32 ws ++ condsT k cs
  | [], k, ws, _ => by simp [condsW, condsT]
  | x :: r, k, ws, h => by
    rw [condsW, joinW_append 32 ws _ h (by simp)]
    have ih := join_conds r (k + 1) (condW x) (condW_ne x)
    have h2 : condW x ++ condsW (k + 1) r ≠ [] := by simp [condW_ne]
    obtain ⟨y, t, hy⟩ := List.exists_cons_of_ne_nil h2
    rw [hy] at ih ⊢
    rw [joinW, ih, condsT]
    by_cases hk : k = 0
    · rw [if_pos hk, if_pos hk]; simp [wIf, ctL]
    · rw [if_neg hk, if_neg hk]; simp [wAnd, ctL]
theorem line_text (r : RuleD) : lineR r ++ [10] = ruleT r := by
  unfold lineR ruleW ruleT
  rw [show actW r.kind r.errno ++ nameW r.nr.toNat :: condsW 0 r.conds = (actW r.kind r.errno ++ [nameW r.nr.toNat]) ++ condsW 0 r.conds from by simp, join_conds _ _ _ (by simp), joinW_append 32 _ _ (actW_ne _ _) (by simp)]
  simp [joinW]
theorem lines_text : ∀ (rs : List RuleD), joinW 10 (rs.map lineR ++ [[]]) = rulesT rs
  | [] => rfl
  | r :: rs => by
    have ih := lines_text rs
    rw [List.map_cons, List.cons_append]
    have h2 : rs.map lineR ++ [[]] ≠ [] := by simp
    obtain ⟨y, t, hy⟩ := List.exists_cons_of_ne_nil h2
    rw [hy] at ih ⊢
    rw [joinW, ih, rulesT, ← line_text]
    simp
theorem polT_text (p : PolD) : polT p = elseT p ++ rulesT p.rules := by
  unfold polT linesP
  have h2 : p.rules.map lineR ++ [[]] ≠ [] := by simp
  have ih := lines_text p.rules
  obtain ⟨y, t, hy⟩ := List.exists_cons_of_ne_nil h2
  rw [hy] at ih ⊢
  rw [joinW, ih]
  unfold lineE elseT
  have h3 := actW_ne p.kind p.errno
  obtain ⟨y2, t2, hy2⟩ := List.exists_cons_of_ne_nil h3
  rw [hy2, joinW]
  simp [wElse]
theorem rulesT_snoc : ∀ (a : List RuleD) (r : RuleD), rulesT (a ++ [r]) = rulesT a ++ ruleT r
  | [], r => by simp [rulesT]
  | x :: a, r => by rw [List.cons_append, rulesT, rulesT_snoc a r, rulesT]; simp
theorem condsT_snoc : ∀ (a : List CondD) (k : Nat) (x : CondD), condsT k (a ++ [x]) = condsT k a ++ ((if k + a.length = 0 then [32, 105, 102, 32] else [32, 97, 110, 100, 32]) ++ ctL x)
  | [], k, x => by simp [condsT]
  | y :: a, k, x => by
    rw [List.cons_append, condsT, condsT_snoc a (k + 1) x, condsT, if_neg (by omega : ¬ k + 1 + a.length = 0), if_neg (by simp : ¬ k + (y :: a).length = 0)]
    simp
theorem take_next {α : Type} {l : List α} {k : Nat} {x : α} (h : l[k]? = some x) : l.take (k + 1) = l.take k ++ [x] := by
  rw [List.take_add_one, h]; rfl

/-! How long they are. -/
theorem joinW_len (c : UInt8) (B : Nat) : ∀ ws : List (List UInt8), (∀ w ∈ ws, w.length ≤ B) → (joinW c ws).length ≤ ws.length * (B + 1)
  | [], _ => by simp [joinW]
  | [a], h => by have := h a (by simp); simp [joinW]; omega
  | a :: b :: r, h => by
    have ih := joinW_len c B (b :: r) (fun w hw => h w (by simp [List.mem_cons.1 hw]))
    have := h a (by simp)
    rw [joinW]
    simp only [List.length_append, List.length_cons] at ih ⊢
    rw [Nat.add_mul (r.length + 1) 1 (B + 1)]
    omega
structure CondSm (x : CondD) : Prop where
  rd : CondRd x
  gl : x.op = 8 → x.glob.size ≤ 24
theorem condSm_of {n : Nat} {x : CondD} (hok : x.ok) (h : condF n x = 0) : CondSm x := ⟨condRd_of hok h, fun h8 => by
  unfold condF at h
  split at h
  · omega
  · split at h
    · omega
    · unfold globF at h
      split at h
      · omega
      · rename_i h2; unfold bytesOf at h2; simp at h2; exact h2⟩
theorem ctL_len {x : CondD} (h : CondSm x) : (ctL x).length ≤ 1005 := by
  obtain ⟨⟨ha, ho, hv, hm, _, _, _, _, hn⟩, hg⟩ := h
  have hw : ∀ w ∈ condW x, w.length ≤ 200 := by
    intro w hw
    unfold condW at hw
    rcases List.mem_cons.1 hw with rfl | hw
    · have := dec_len20 x.arg.toNat (by omega); omega
    · split at hw
      · simp only [List.mem_cons, List.not_mem_nil, or_false] at hw
        rcases hw with rfl | rfl | rfl | rfl
        · decide
        · have := dec_len20 x.m.toNat (by omega); omega
        · decide
        · have := dec_len20 x.v.toNat (by omega); omega
      · split at hw
        · simp only [List.mem_cons, List.not_mem_nil, or_false] at hw
          rcases hw with rfl | rfl
          · decide
          · have := hg (by assumption)
            unfold quoteW
            simp
            omega
        · split at hw
          · simp only [List.mem_cons, List.not_mem_nil, or_false] at hw
            rcases hw with rfl | rfl
            · decide
            · obtain ⟨h1, h2⟩ := hn (by assumption)
              exact textN_len h1 h2
          · simp only [List.mem_cons, List.not_mem_nil, or_false] at hw
            rcases hw with rfl | rfl
            · unfold signW; split <;> decide
            · have := dec_len20 x.v.toNat (by omega); omega
  have hc : (condW x).length ≤ 5 := by
    unfold condW
    split
    · simp
    · split
      · simp
      · split <;> simp
  have h1 := joinW_len 32 200 (condW x) hw
  have h2 : (condW x).length * (200 + 1) ≤ 5 * (200 + 1) := Nat.mul_le_mul_right _ hc
  unfold ctL
  omega
theorem condsT_len : ∀ (cs : List CondD) (k : Nat), (∀ x ∈ cs, CondSm x) → (condsT k cs).length ≤ 1010 * cs.length
  | [], _, _ => by simp [condsT]
  | x :: r, k, h => by
    have ih := condsT_len r (k + 1) (fun y hy => h y (by simp [hy]))
    have h1 := ctL_len (h x (by simp))
    rw [condsT]
    simp only [List.length_append, List.length_cons]
    have : (if k = 0 then [32, 105, 102, 32] else [32, 97, 110, 100, 32] : List UInt8).length ≤ 5 := by split <;> decide
    omega
theorem act_len {k e : Int} (h : actF k e = 0) : (joinW 32 (actW k e)).length ≤ 25 := by
  rcases actF_cases h with ⟨rfl, rfl⟩ | ⟨rfl, rfl⟩ | ⟨rfl, h1, h2⟩
  · rw [joinA1]; decide
  · rw [joinA3]; decide
  · obtain ⟨n, rfl⟩ : ∃ n : Nat, e = n := ⟨e.toNat, by omega⟩
    rw [joinA2]
    have := dec_len20 n (by omega)
    simp only [List.length_append, List.length_cons, List.length_nil]
    omega
theorem name_len (n : Nat) (h : n ≤ 8) : (nameW n).length ≤ 10 := by
  have h1 : n = 0 ∨ n = 1 ∨ n = 2 ∨ n = 3 ∨ n = 4 ∨ n = 5 ∨ n = 6 ∨ n = 7 ∨ n = 8 := by omega
  rcases h1 with rfl | rfl | rfl | rfl | rfl | rfl | rfl | rfl | rfl <;> decide
structure RuleSm (r : RuleD) : Prop where
  act : actF r.kind r.errno = 0
  nr : 0 ≤ r.nr ∧ r.nr ≤ 8
  few : r.conds.length ≤ 4
  con : ∀ x ∈ r.conds, CondSm x ∧ x.ok ∧ condF r.nr.toNat x = 0
theorem ruleSm_of {r : RuleD} (hok : ∀ c ∈ r.conds, c.ok) (h : ruleF r = 0) : RuleSm r := by
  obtain ⟨h1, h2, h3, _, h5⟩ := ruleF_zero h
  exact ⟨h5, ⟨h1, h2⟩, h3, fun x hx => ⟨condSm_of (hok x hx) (ruleF_conds h x hx), hok x hx, ruleF_conds h x hx⟩⟩
theorem ruleT_len {r : RuleD} (h : RuleSm r) : (ruleT r).length ≤ 4100 := by
  have h1 := act_len h.act
  have h2 := name_len r.nr.toNat (by have := h.nr; omega)
  have h3 := condsT_len r.conds 0 (fun x hx => (h.con x hx).1)
  have h4 := h.few
  unfold ruleT
  simp only [List.length_append, List.length_cons, List.length_nil]
  omega
theorem rulesT_len : ∀ (rs : List RuleD), (∀ r ∈ rs, RuleSm r) → (rulesT rs).length ≤ 4100 * rs.length
  | [], _ => by simp [rulesT]
  | r :: rs, h => by
    have ih := rulesT_len rs (fun x hx => h x (by simp [hx]))
    have := ruleT_len (h r (by simp))
    rw [rulesT]
    simp only [List.length_append, List.length_cons]
    omega
theorem elseT_len {p : PolD} (h : actF p.kind p.errno = 0) : (elseT p).length ≤ 31 := by
  have := act_len h
  unfold elseT
  simp only [List.length_append, List.length_cons, List.length_nil]
  omega
end Go.Proofs.YtmgngapkgcofnaaGreatDoor
/- The reference's texts of actions, names, conditions: the walks. -/
namespace Go.Proofs.YtmgngapkgcofnaaGreatDoor
open Go.RowKit

theorem refActionText_any (k e : Int) (w : World) (hk : actF k e = 0) :
    Calls Tryz.prog 39 #[.agg #[.int .i64 k, .int .i64 e]] w fun e' w' => e' = .returned (.string ⟨(joinW 32 (actW k e)).toArray⟩) ∧ Below w.heap.size w w' := by
  rcases actF_cases hk with ⟨rfl, rfl⟩ | ⟨rfl, rfl⟩ | ⟨rfl, h1, h2⟩
  · rw [joinA1]
    go_enter Tryz.func39, Tryz.ntmps39
    go_wp2
    go_ret
    exact ⟨rfl, (Below.refl _ _).alloc (Nat.le_refl _) _⟩
  · rw [joinA3]
    go_enter Tryz.func39, Tryz.ntmps39
    go_wp2
    go_ret
    exact ⟨rfl, (Below.refl _ _).alloc (Nat.le_refl _) _⟩
  · obtain ⟨n, rfl⟩ : ∃ n : Nat, e = n := ⟨e.toNat, by omega⟩
    rw [joinA2]
    have HIT : Hid (∀ W, Calls Tryz.prog 64 #[.int .u64 (n : Int)] W fun e w' => e = .returned (.string ⟨(Lib.decDigits n).toArray⟩) ∧ Below W.heap.size W w') := fun W => digits_any n W (by omega)
    have hl := dec_len20 n (by omega)
    have h0 : (0 : Int) ≤ (n : Int) := by omega
    have h255 : (n : Int) ≤ 255 := by omega
    generalize Lib.decDigits n = D at *
    have g1 : ¬ 9223372036854775807 < 5 + D.length := by omega
    go_enter Tryz.func39, Tryz.ntmps39
    go_wp2_with (go_at_call 64; refine cargs (by simp) ((HIT.out _).mono ?_); rintro e w1 ⟨rfl, hb1⟩; have HB1 := Lib.hid hb1; clear hb1)
    go_ret
    refine ⟨?_, below_box (Below.refl _ _) (Nat.le_refl _) HB1.out⟩
    refine congrArg (fun v => Ending.returned (Value.string v)) ?_
    exact bstr_app [100, 101, 110, 121, 32] D

def namesArr : Array Value := #[.string ⟨#[114, 101, 97, 100]⟩, .string ⟨#[119, 114, 105, 116, 101]⟩, .string ⟨#[111, 112, 101, 110]⟩, .string ⟨#[99, 108, 111, 115, 101]⟩, .string ⟨#[115, 116, 97, 116]⟩, .string ⟨#[114, 101, 110, 97, 109, 101]⟩, .string ⟨#[99, 111, 110, 110, 101, 99, 116]⟩, .string ⟨#[108, 105, 110, 107]⟩, .string ⟨#[115, 101, 110, 100]⟩]
theorem nameIdx0 (w : World) : (Instr.index 105 (.agg namesArr) (.int .i64 0)).run Tryz.prog w = .ok (.string (formName 0)) w := by kernel_rfl
theorem nameIdx1 (w : World) : (Instr.index 105 (.agg namesArr) (.int .i64 1)).run Tryz.prog w = .ok (.string (formName 1)) w := by kernel_rfl
theorem nameIdx2 (w : World) : (Instr.index 105 (.agg namesArr) (.int .i64 2)).run Tryz.prog w = .ok (.string (formName 2)) w := by kernel_rfl
theorem nameIdx3 (w : World) : (Instr.index 105 (.agg namesArr) (.int .i64 3)).run Tryz.prog w = .ok (.string (formName 3)) w := by kernel_rfl
theorem nameIdx4 (w : World) : (Instr.index 105 (.agg namesArr) (.int .i64 4)).run Tryz.prog w = .ok (.string (formName 4)) w := by kernel_rfl
theorem nameIdx5 (w : World) : (Instr.index 105 (.agg namesArr) (.int .i64 5)).run Tryz.prog w = .ok (.string (formName 5)) w := by kernel_rfl
theorem nameIdx6 (w : World) : (Instr.index 105 (.agg namesArr) (.int .i64 6)).run Tryz.prog w = .ok (.string (formName 6)) w := by kernel_rfl
theorem nameIdx7 (w : World) : (Instr.index 105 (.agg namesArr) (.int .i64 7)).run Tryz.prog w = .ok (.string (formName 7)) w := by kernel_rfl
theorem nameIdx8 (w : World) : (Instr.index 105 (.agg namesArr) (.int .i64 8)).run Tryz.prog w = .ok (.string (formName 8)) w := by kernel_rfl
theorem nameIdx (nr : Nat) (h : nr < 9) (w : World) : (Instr.index 105 (.agg namesArr) (.int .i64 (nr : Int))).run Tryz.prog w = .ok (.string (formName nr)) w := by
  have h1 : nr = 0 ∨ nr = 1 ∨ nr = 2 ∨ nr = 3 ∨ nr = 4 ∨ nr = 5 ∨ nr = 6 ∨ nr = 7 ∨ nr = 8 := by omega
  clear h
  rcases h1 with rfl | rfl | rfl | rfl | rfl | rfl | rfl | rfl | rfl
  · exact nameIdx0 w
  · exact nameIdx1 w
  · exact nameIdx2 w
  · exact nameIdx3 w
  · exact nameIdx4 w
  · exact nameIdx5 w
  · exact nameIdx6 w
  · exact nameIdx7 w
  · exact nameIdx8 w
theorem callNames_any (w : World) : Calls Tryz.prog 40 #[] w fun e w' => e = .returned (.agg namesArr) ∧ Below w.heap.size w w' := by
  go_enter Tryz.func40, Tryz.ntmps40
  go_wp2
  refine bodyPost_ret (v := .agg namesArr) (by simp [results, Tryz.results40, go_sem]; try rfl) rfl ?_
  exact ⟨rfl, (Below.refl _ _).alloc (Nat.le_refl _) _⟩
/-- One byte as a text. -/
theorem conv_one (c : UInt8) {W : World} {b : Nat} (h : W.heap[b]? = some (.cells #[.int .u8 (c.toNat : Int)] 5 (0, 0))) : (convert 88 9 (.slice (some ⟨b, 0, none⟩) 1 1)).run Tryz.prog W = .ok (.string ⟨#[c]⟩) W := by
  refine run_convert_bytes_back W 88 9 5 ⟨b, 0, none⟩ 1 [c] Tryz.underlying88 Tryz.underlying5 Tryz.underlying9 (fun j hj => ?_)
  obtain rfl : j = 0 := by simpa using hj
  rw [add_plainA, cell_of_row _ _ _ _ _ _ h]
  rfl

def signsArr : Array Value := #[.string ⟨#[]⟩, .string ⟨#[61, 61]⟩, .string ⟨#[33, 61]⟩, .string ⟨#[60]⟩, .string ⟨#[60, 61]⟩, .string ⟨#[62]⟩, .string ⟨#[62, 61]⟩]
theorem signCell (j : Nat) (h : j < 7) : signsArr[j]? = some (.string ⟨(signW j).toArray⟩) := by
  have h1 : j = 0 ∨ j = 1 ∨ j = 2 ∨ j = 3 ∨ j = 4 ∨ j = 5 ∨ j = 6 := by omega
  rcases h1 with rfl | rfl | rfl | rfl | rfl | rfl | rfl <;> rfl

set_option linter.unusedSimpArgs false in
set_option maxRecDepth 100000 in
set_option maxHeartbeats 4000000 in
theorem refCondText_any (nr : Nat) (x : CondD) (w : World) (hok : x.ok) (hf : condF nr x = 0) :
    Calls Tryz.prog 41 #[x.val] w fun e w' => e = .returned (.string ⟨(ctL x).toArray⟩) ∧ Below w.heap.size w w' := by
  obtain ⟨⟨⟨ha0, ha3⟩, ⟨ho1, ho9⟩, ⟨v0, v1⟩, ⟨m0, m1⟩, _, _, _, _, hnet⟩, hgl⟩ := condSm_of hok hf
  clear hf hok
  obtain ⟨arg, op, v, m, glob, net⟩ := x
  simp only at ha0 ha3 ho1 ho9 v0 v1 m0 m1 hnet hgl
  obtain ⟨A, rfl⟩ : ∃ A : Nat, arg = A := ⟨arg.toNat, by omega⟩
  obtain ⟨v, rfl⟩ : ∃ j : Nat, v = j := ⟨v.toNat, by omega⟩
  obtain ⟨m, rfl⟩ : ∃ j : Nat, m = j := ⟨m.toNat, by omega⟩
  have HIT : Hid (∀ W, Calls Tryz.prog 64 #[.int .u64 (A : Int)] W fun e w' => e = .returned (.string ⟨(Lib.decDigits A).toArray⟩) ∧ Below W.heap.size W w') := fun W => digits_any A W (by omega)
  have HDV : Hid (∀ W, Calls Tryz.prog 64 #[.int .u64 (v : Int)] W fun e w' => e = .returned (.string ⟨(Lib.decDigits v).toArray⟩) ∧ Below W.heap.size W w') := fun W => digits_any v W (by omega)
  have HDM : Hid (∀ W, Calls Tryz.prog 64 #[.int .u64 (m : Int)] W fun e w' => e = .returned (.string ⟨(Lib.decDigits m).toArray⟩) ∧ Below W.heap.size W w') := fun W => digits_any m W (by omega)
  have hlA := dec_len20 A (by omega)
  have hlV := dec_len20 v (by omega)
  have hlM := dec_len20 m (by omega)
  have h6 := ct6 A op.toNat v m glob net
  have h7 := Lib.hid (ct7 A v m glob net)
  have h8 := Lib.hid (ct8 A v m glob net)
  have h9 := Lib.hid (ct9 A v m glob net)
  rw [show ((op.toNat : Nat) : Int) = op from by omega] at h6
  have H6 := Lib.hid h6
  clear h6
  generalize Lib.decDigits A = DA at *
  generalize Lib.decDigits v = DV at *
  generalize Lib.decDigits m = DM at *
  obtain ⟨ip, bits, lo, hi⟩ := net
  have HC9 := Lib.hid (cell9 w (.int .i64 (A : Int)) (.int .i64 op) (.int .u64 (v : Int)) (.int .u64 (m : Int)) (.string glob) (.int .u32 ip) (.int .i64 bits) (.int .i64 lo) (.int .i64 hi) 84)
  have HAB := Lib.hid (above w (.cells #[.int .i64 (A : Int), .int .i64 op, .int .u64 (v : Int), .int .u64 (m : Int), .string glob, .int .u32 ip, .int .i64 bits, .int .i64 lo, .int .i64 hi] 84))
  have g0 : ¬ 9223372036854775807 < DA.length + 1 := by omega
  unfold CondD.val
  simp only
  go_enter Tryz.func41, Tryz.ntmps41
  go_upto_region 2 with (go_at_call 64; refine cargs (by simp) ((HIT.out _).mono ?_); rintro e w1 ⟨rfl, hb1⟩; have HB1 := Lib.hid hb1; clear hb1)
  obtain ⟨j0, j1, j2, j3, j4, j5, j6, j7, j8⟩ := HC9.out w1 HB1.out
  have HBW := Lib.hid (HAB.out w1 HB1.out)
  have HBQ : Hid (∀ (d : Nat) (os : Array Obj), Below w.heap.size w (Go.Sort.grow (redrawn w1 d) os)) := fun d os => HBW.out.trans ((below_regrown w1 d os).mono HBW.out.size)
  by_cases c7 : op = 7
  · subst c7
    have HT : Hid (ctL ⟨(A : Int), 7, (v : Int), (m : Int), glob, ⟨ip, bits, lo, hi⟩⟩ = DA ++ [32] ++ [38, 32] ++ DM ++ [32, 61, 61, 32] ++ DV) := h7.out
    have r2 := cell_regrown j2
    have r3 := cell_regrown j3
    have cDV := fun d os => Calls.regrown_of (HDV.out (Go.Sort.grow (redrawn w1 d) os))
    have cDM := fun d os => Calls.regrown_of (HDM.out (Go.Sort.grow (redrawn w1 d) os))
    have g1 : ¬ 9223372036854775807 < DA.length + 1 + 2 := by omega
    have g2 : ¬ 9223372036854775807 < DA.length + 1 + 2 + DM.length := by omega
    have g3 : ¬ 9223372036854775807 < DA.length + 1 + 2 + DM.length + 4 := by omega
    have g4 : ¬ 9223372036854775807 < DA.length + 1 + 2 + DM.length + 4 + DV.length := by omega
    clear hnet hgl
    go_upto_region 3 with fail
    refine wp_region_quiet_below (by kernel_rfl) (by kernel_rfl) ?_
    repeat (go_big_quiet_step (first | (go_at_call_of 64 (Value.int .u64 (m : Int)); exact cDM _ _) | (go_at_call_of 64 (Value.int .u64 (v : Int)); exact cDV _ _)))
    refine wpQuiet_nil ?_
    intro _ hw'
    obtain ⟨⟨dq, osq⟩, hw''⟩ := hw'
    subst hw''
    go_wp2_with fail
    go_returns
    refine ⟨?_, HBQ.out dq osq⟩
    rw [HT.out]
    refine congrArg (fun v => Ending.returned (Value.string v)) ?_
    simp only [← bstr_app] <;> rfl
  · have t7 : ((op : Int) == 7) = false := beq_eq_false_iff_ne.2 c7
    by_cases c8 : op = 8
    · subst c8
      have HT : Hid (ctL ⟨(A : Int), 8, (v : Int), (m : Int), glob, ⟨ip, bits, lo, hi⟩⟩ = DA ++ [32] ++ [126, 32, 34] ++ glob.data.toList ++ [34]) := h8.out
      have hgs := hgl rfl
      have g1 : ¬ 9223372036854775807 < DA.length + 1 + 2 := by omega
      have g2 : ¬ 9223372036854775807 < DA.length + 1 + 2 + 1 := by omega
      have g3 : ¬ 9223372036854775807 < DA.length + 1 + 2 + 1 + glob.size := by omega
      have g4 : ¬ 9223372036854775807 < DA.length + 1 + 2 + 1 + glob.size + 1 := by omega
      have hcv : ∀ W : World, (convert 88 9 (.slice (some ⟨W.heap.size, 0, none⟩) 1 1)).run Tryz.prog (W.alloc (.cells #[.int .u8 34] 5)) = .ok (.string ⟨#[34]⟩) (W.alloc (.cells #[.int .u8 34] 5)) := fun W => conv_one 34 (heap_alloc_new _ _)
      have hcv2 : ∀ W : World, (convert 88 9 (.slice (some ⟨W.heap.size + 1, 0, none⟩) 1 1)).run Tryz.prog ((W.alloc (.cells #[.int .u8 34] 5)).alloc (.cells #[.int .u8 34] 5)) = .ok (.string ⟨#[34]⟩) ((W.alloc (.cells #[.int .u8 34] 5)).alloc (.cells #[.int .u8 34] 5)) := fun W => conv_one 34 (by
        have := heap_alloc_new (W.alloc (.cells #[.int .u8 34] 5)) (.cells #[.int .u8 34] 5)
        rw [show (W.alloc (.cells #[.int .u8 34] 5)).heap.size = W.heap.size + 1 from by simp] at this
        exact this)
      have hlt : w.heap.size < w1.heap.size := by have := HB1.out.size; simp at this; omega
      clear hnet hgl c7
      go_wp2_with fail
      go_returns
      refine ⟨?_, (HBW.out.alloc HBW.out.size _).alloc (by simp; have := HBW.out.size; omega) _⟩
      rw [HT.out]
      refine congrArg (fun v => Ending.returned (Value.string v)) ?_
      have e1 : (⟨#[126, 32]⟩ : ByteArray) = ⟨([126, 32] : List UInt8).toArray⟩ := rfl
      have e2 : (⟨#[34]⟩ : ByteArray) = ⟨([34] : List UInt8).toArray⟩ := rfl
      have e3 : (⟨#[32]⟩ : ByteArray) = ⟨([32] : List UInt8).toArray⟩ := rfl
      rw [e1, e2, e3, gstr glob]
      simp only [bstr_app]
      simp
    · have t8 : ((op : Int) == 8) = false := beq_eq_false_iff_ne.2 c8
      by_cases c9 : op = 9
      · subst c9
        have HT : Hid (ctL ⟨(A : Int), 9, (v : Int), (m : Int), glob, ⟨ip, bits, lo, hi⟩⟩ = DA ++ [32] ++ [105, 110, 32] ++ textN ⟨ip, bits, lo, hi⟩) := h9.out
        obtain ⟨hn1, hn2⟩ := hnet rfl
        have HNT : Hid (∀ W, Calls Tryz.prog 65 #[.agg #[.int .u32 ip, .int .i64 bits, .int .i64 lo, .int .i64 hi]] W fun e w' => e = .returned (.string ⟨(textN ⟨ip, bits, lo, hi⟩).toArray⟩) ∧ Below W.heap.size W w') := fun W => refNetText_any ⟨ip, bits, lo, hi⟩ W hn1 hn2
        have hln := textN_len hn1 hn2
        generalize textN ⟨ip, bits, lo, hi⟩ = D at *
        have g1 : ¬ 9223372036854775807 < DA.length + 1 + 3 := by omega
        have g2 : ¬ 9223372036854775807 < DA.length + 1 + 3 + D.length := by omega
        clear hnet hgl c7 c8 hn1 hn2
        go_wp2_with (go_at_call 65; refine cargs (by simp) ((HNT.out _).mono ?_); rintro e w2 ⟨rfl, hb2⟩; have HB2 := Lib.hid hb2; clear hb2)
        go_returns
        refine ⟨?_, HBW.out.trans (HB2.out.mono HBW.out.size)⟩
        rw [HT.out]
        refine congrArg (fun v => Ending.returned (Value.string v)) ?_
        simp only [← bstr_app] <;> rfl
      · have t9 : ((op : Int) == 9) = false := beq_eq_false_iff_ne.2 c9
        obtain ⟨j, rfl⟩ : ∃ j : Nat, op = j := ⟨op.toNat, by omega⟩
        rw [Int.toNat_natCast] at H6
        have HT : Hid (ctL ⟨(A : Int), (j : Int), (v : Int), (m : Int), glob, ⟨ip, bits, lo, hi⟩⟩ = DA ++ [32] ++ signW j ++ [32] ++ DV) := H6.out (by omega) (by omega)
        have z7 : (j : Int) < 7 := by omega
        have z0 : (0 : Int) ≤ (j : Int) := by omega
        have HSGN : Hid (∀ W : World, W.heap[w1.heap.size]? = some (.cells signsArr 128 (0, 0)) → W.cell? ⟨w1.heap.size, j, none⟩ = some (.string ⟨(signW j).toArray⟩)) := fun W h => (cell_of_row _ _ _ _ _ _ h).trans (signCell j (by omega))
        have hls : (signW j).length ≤ 2 := by
          have : j = 1 ∨ j = 2 ∨ j = 3 ∨ j = 4 ∨ j = 5 ∨ j = 6 := by omega
          rcases this with rfl | rfl | rfl | rfl | rfl | rfl <;> decide
        generalize signW j = D at *
        have g1 : ¬ 9223372036854775807 < DA.length + 1 + D.length := by omega
        have g2 : ¬ 9223372036854775807 < DA.length + 1 + D.length + 1 := by omega
        have g3 : ¬ 9223372036854775807 < DA.length + 1 + D.length + 1 + DV.length := by omega
        have HW2 : Hid (∀ W : World, W = w1.alloc (.cells #[.string ⟨#[]⟩, .string ⟨#[61, 61]⟩, .string ⟨#[33, 61]⟩, .string ⟨#[60]⟩, .string ⟨#[60, 61]⟩, .string ⟨#[62]⟩, .string ⟨#[62, 61]⟩] 128) → W.cell? ⟨w.heap.size, 1, none⟩ = some (.int .i64 (j : Int)) ∧ W.cell? ⟨w.heap.size, 2, none⟩ = some (.int .u64 (v : Int)) ∧ W.cell? ⟨w1.heap.size, j, none⟩ = some (.string ⟨D.toArray⟩) ∧ Below w.heap.size w W) := fun W hW => by
          subst hW
          have hb2 := HB1.out.alloc HB1.out.size (.cells signsArr 128)
          exact ⟨(HC9.out _ hb2).2.1, (HC9.out _ hb2).2.2.1, HSGN.out _ (heap_alloc_new _ _), HBW.out.alloc HBW.out.size _⟩
        clear hnet hgl c7 c8 c9 HSGN
        go_upto_region 9 with fail
        obtain ⟨k1, k2, k3, hbw2⟩ := HW2.out (w1.alloc (.cells #[.string ⟨#[]⟩, .string ⟨#[61, 61]⟩, .string ⟨#[33, 61]⟩, .string ⟨#[60]⟩, .string ⟨#[60, 61]⟩, .string ⟨#[62]⟩, .string ⟨#[62, 61]⟩] 128)) rfl
        have HBW2 := Lib.hid hbw2
        clear hbw2 HW2
        generalize w1.alloc (.cells #[.string ⟨#[]⟩, .string ⟨#[61, 61]⟩, .string ⟨#[33, 61]⟩, .string ⟨#[60]⟩, .string ⟨#[60, 61]⟩, .string ⟨#[62]⟩, .string ⟨#[62, 61]⟩] 128) = W2 at *
        have HBQ2 : Hid (∀ (d : Nat) (os : Array Obj), Below w.heap.size w (Go.Sort.grow (redrawn W2 d) os)) := fun d os => HBW2.out.trans ((below_regrown W2 d os).mono HBW2.out.size)
        have r1 := cell_regrown k1
        have r2 := cell_regrown k2
        have r3 := cell_regrown k3
        have cDV := fun d os => Calls.regrown_of (HDV.out (Go.Sort.grow (redrawn W2 d) os))
        refine wp_region_quiet_below (by kernel_rfl) (by kernel_rfl) ?_
        repeat (go_big_quiet_step ((go_at_call 64; exact cDV _ _)))
        refine wpQuiet_nil ?_
        intro _ hw'
        obtain ⟨⟨dq, osq⟩, hw''⟩ := hw'
        subst hw''
        go_wp2_with fail
        go_returns
        refine ⟨?_, HBQ2.out dq osq⟩
        rw [HT.out]
        refine congrArg (fun v => Ending.returned (Value.string v)) ?_
        simp only [← bstr_app] <;> rfl
end Go.Proofs.YtmgngapkgcofnaaGreatDoor
