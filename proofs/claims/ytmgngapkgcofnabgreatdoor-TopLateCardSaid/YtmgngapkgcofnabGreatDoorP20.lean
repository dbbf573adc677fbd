/- policy.fits: the walk. -/
import Derived.Test.YtmgngapkgcofnabGreatDoorP19
import Derived.Deep.RegionWith
namespace Go.Proofs.YtmgngapkgcofnabGreatDoor
open Go.RowKit
theorem cell6 (w : World) (a b c d e f : Value) (t : TypeId) (W : World) (h : Below (w.alloc (.cells #[a, b, c, d, e, f] t)).heap.size (w.alloc (.cells #[a, b, c, d, e, f] t)) W) :
  W.cell? ⟨w.heap.size, 0, none⟩ = some a ∧ W.cell? ⟨w.heap.size, 1, none⟩ = some b ∧ W.cell? ⟨w.heap.size, 2, none⟩ = some c ∧ W.cell? ⟨w.heap.size, 3, none⟩ = some d ∧ W.cell? ⟨w.heap.size, 4, none⟩ = some e ∧ W.cell? ⟨w.heap.size, 5, none⟩ = some f := by
 have hs : w.heap.size < (w.alloc (.cells #[a, b, c, d, e, f] t)).heap.size := by simp
 refine ⟨?_, ?_, ?_, ?_, ?_, ?_⟩ <;> (rw [h.cell (p := ⟨w.heap.size, _, none⟩) hs, cell_of_row _ _ _ _ _ _ (heap_alloc_new _ _)]; rfl)
theorem fit_no {c : CallD} {r : RuleD} {k : Nat} {x : CondD} (hk : r.conds[k]? = some x) (h : passC c x = false) : fitB c r = false := by
 unfold fitB; rw [Bool.and_eq_false_iff]; refine .inr ?_; rw [Bool.eq_false_iff]; intro hall; have := List.all_eq_true.1 hall x (List.mem_of_getElem? hk); rw [h] at this; cases this
theorem pass_next {c : CallD} {cs : List CondD} {k : Nat} {x : CondD} (hk : cs[k]? = some x) (ha : (cs.take k).all (passC c) = true) (h : passC c x = true) : (cs.take (k + 1)).all (passC c) = true := by
 rw [List.take_add_one, hk, List.all_append, ha]; simp only [Option.toList_some, List.all_cons, List.all_nil, h, Bool.and_true]
theorem deep_next {cs : List CondD} {k : Nat} {x : CondD} (hk : cs[k]? = some x) : deepN cs (k + 1) = (deepN cs k || decide (7 < x.op)) := by
 rw [deepN, hk]
set_option linter.unusedSimpArgs false in
set_option maxRecDepth 100000 in
set_option maxHeartbeats 4000000 in
theorem fits_any (nr : Int) (sv : Value) (conds : List CondD) (rk re : Int) (c : CallD) (w : World) (hcs : CondsSl w w.heap.size sv conds) (hn : 0 ≤ nr ∧ nr ≤ 8)
  (hops : ∀ x ∈ conds, (0 ≤ x.arg ∧ x.arg ≤ 3) ∧ 1 ≤ x.op ∧ x.op ≤ 9) (hl : conds.length ≤ 100000) :
  Calls Tryz.prog 73 #[.agg #[.int .i64 nr, sv, .int .i64 rk, .int .i64 re], c.v] w fun e w' => e = .returned (.tuple #[.bool (fitB c ⟨nr, conds, rk, re⟩), .bool (fitB c ⟨nr, conds, rk, re⟩ && deepN conds conds.length)]) ∧ Below w.heap.size w w' := by
 have hN : ∀ x : Bool, fitB c ⟨nr, conds, rk, re⟩ = x → (Value.tuple #[.bool (fitB c ⟨nr, conds, rk, re⟩), .bool (fitB c ⟨nr, conds, rk, re⟩ && deepN conds conds.length)]) = .tuple #[.bool x, .bool (x && deepN conds conds.length)] := fun x h => by rw [h]
 have HNO : Hid (fitB c ⟨nr, conds, rk, re⟩ = false → (Value.tuple #[.bool (fitB c ⟨nr, conds, rk, re⟩), .bool (fitB c ⟨nr, conds, rk, re⟩ && deepN conds conds.length)]) = .tuple #[.bool false, .bool false]) := fun h => hN false h
 have HYES : Hid (fitB c ⟨nr, conds, rk, re⟩ = true → (Value.tuple #[.bool (fitB c ⟨nr, conds, rk, re⟩), .bool (fitB c ⟨nr, conds, rk, re⟩ && deepN conds conds.length)]) = .tuple #[.bool true, .bool (deepN conds conds.length)]) := fun h => by rw [hN true h, Bool.true_and]
 clear hN; have HFE : Hid ((decide (c.nr = nr) && conds.all (passC c)) = fitB c ⟨nr, conds, rk, re⟩) := rfl; have HNOK : Hid (∀ k x, conds[k]? = some x → passC c x = false → fitB c ⟨nr, conds, rk, re⟩ = false) := fun k x h1 h2 => fit_no (r := ⟨nr, conds, rk, re⟩) h1 h2
 have HPN : Hid (∀ k x, conds[k]? = some x → (conds.take k).all (passC c) = true → passC c x = true → (conds.take (k + 1)).all (passC c) = true) := fun k x => pass_next; have HP : Hid (∀ x, passC c x = (decide (7 < x.op) || numB x.op x.v x.m (argN c x.arg.toNat))) := fun x => rfl; have HA0 : Hid (argN c 0 = c.a0) := rfl; have HA1 : Hid (argN c 1 = c.a1) := rfl
 have HA2 : Hid (argN c 2 = c.a2) := rfl; have HA3 : Hid (argN c 3 = c.a3) := rfl; obtain ⟨P, hPd⟩ : ∃ P : CondD → Bool, P = passC c := ⟨_, rfl⟩
 obtain ⟨AN, hAN⟩ : ∃ AN : Nat → Int, AN = argN c := ⟨_, rfl⟩
 rw [← hPd] at HFE HNOK HPN HP; rw [← hAN] at HP HA0 HA1 HA2 HA3; clear hPd hAN; generalize fitB c ⟨nr, conds, rk, re⟩ = F at *
 obtain ⟨A', c', rfl⟩ : ∃ A' c', sv = .slice A' conds.length c' := by obtain ⟨_, A', c', h, _⟩ := hcs; exact ⟨A', c', h⟩
 obtain ⟨arch, cnr, a0, a1, a2, a3⟩ := c; unfold CallD.v; simp only at HA0 HA1 HA2 HA3 HFE ⊢
 by_cases hnr : cnr = nr
 ·subst hnr; obtain ⟨n, rfl⟩ : ∃ n : Nat, cnr = n := ⟨cnr.toNat, by omega⟩
  have hn8 : n ≤ 8 := by omega
  have HFE2 : Hid (conds.all P = F) := by show _ = _; rw [← HFE.out]; simp
  clear HFE; have HCS := Lib.hid hcs; have HOPS := Lib.hid hops; clear hcs hops; have HC6 := Lib.hid (cell6 (w.alloc (.cells #[.int .i64 (n : Int), .slice A' conds.length c', .int .i64 rk, .int .i64 re] 41)) (.int .u32 arch) (.int .u32 (n : Int)) (.int .u64 a0) (.int .u64 a1) (.int .u64 a2) (.int .u64 a3) 52)
  have HAB2 : Hid (Below w.heap.size w ((w.alloc (.cells #[.int .i64 (n : Int), .slice A' conds.length c', .int .i64 rk, .int .i64 re] 41)).alloc (.cells #[.int .u32 arch, .int .u32 (n : Int), .int .u64 a0, .int .u64 a1, .int .u64 a2, .int .u64 a3] 52))) := ((Below.refl _ _).alloc (Nat.le_refl _) _).alloc (by simp) _; go_enter Tryz.func73, Tryz.ntmps73
  go_wp2_with fail; generalize (w.alloc (.cells #[.int .i64 (n : Int), .slice A' conds.length c', .int .i64 rk, .int .i64 re] 41)).alloc (.cells #[.int .u32 arch, .int .u32 (n : Int), .int .u64 a0, .int .u64 a1, .int .u64 a2, .int .u64 a3] 52) = W2 at *
  have hw1 : (w.alloc (.cells #[.int .i64 (n : Int), .slice A' conds.length c', .int .i64 rk, .int .i64 re] 41)).heap.size = w.heap.size + 1 := by simp
  rw [hw1] at HC6
  go_loopw [6, 18] (fun mv iv wr => ∃ k : Nat, k ≤ conds.length ∧ iv = .int .i64 k ∧ mv = .bool (deepN conds k) ∧ Hid ((conds.take k).all P = true) ∧ Hid (Below W2.heap.size W2 wr)) (fun _ iv _ => conds.length - (intOf iv).toNat)
  case atStart => exact ⟨0, Nat.zero_le _, rfl, rfl, rfl, Below.refl _ _⟩
  case round =>
   obtain ⟨k, hk, rfl, rfl, hAll, hB⟩ := hrel; have HBW : Hid (Below w.heap.size w wr) := HAB2.out.trans (hB.out.mono HAB2.out.size)
   by_cases hkl : k < conds.length
   ·have y2 : (k : Int) < (conds.length : Int) := by omega
    have y3 : (0 : Int) ≤ (k : Int) := by omega
    have hlk : conds[k]? = some conds[k] := by simp
    obtain ⟨hcok, A2, c2, hA2, hrw⟩ := HCS.out.below HBW.out (Nat.le_refl _); obtain ⟨rfl, rfl⟩ : A' = A2 ∧ c' = c2 := by simpa using hA2
    obtain ⟨b2, o2, rfl, hb2, hrow2⟩ := hrw.resolve_left (by intro e; rw [e] at hkl; simp at hkl); have hr9 := hrow2 k _ hlk; obtain ⟨⟨ha0, ha3⟩, ho1, ho9⟩ := HOPS.out conds[k] (by simp); have HDN : Hid (deepN conds (k + 1) = (deepN conds k || decide (7 < conds[k].op))) := deep_next hlk; have HPY : Hid (P conds[k] = true → (conds.take (k + 1)).all P = true) := fun h => HPN.out k _ hlk hAll.out h
    have HPX : Hid (P conds[k] = false → F = false) := HNOK.out k _ hlk; have HPV := HP.out conds[k]; have HDC : Hid (∀ W : World, Calls Tryz.prog 128 #[conds[k].val] W fun e w' => e = .returned (.bool (decide (7 < conds[k].op))) ∧ Below W.heap.size W w') := fun W => deep_any _ W ⟨ho1, ho9⟩
    have HNC : Hid (∀ (A : Int) (W : World), conds[k].op ≤ 7 → Calls Tryz.prog 129 #[conds[k].val, .int .u64 A] W fun e w' => e = .returned (.bool (numB conds[k].op conds[k].v conds[k].m A)) ∧ Below W.heap.size W w') := fun A W h => polNum_any _ A W ⟨ho1, h⟩; clear hcok hA2 hrw hrow2 hlk; generalize conds[k] = CC at *
    obtain ⟨arg, op, v, m, glob, ⟨ip, bits, lo, hi⟩⟩ := CC; have e0 : wr.cell? ⟨b2, o2 + k * 9, none⟩ = some (.int .i64 arg) := hr9 0 _ rfl; have e1 := hr9 1 _ rfl; have e2 := hr9 2 _ rfl; have e3 := hr9 3 _ rfl; have e4 := hr9 4 _ rfl; have e5 := hr9 5 _ rfl; have e6 := hr9 6 _ rfl; have e7 := hr9 7 _ rfl; have e8 := hr9 8 _ rfl; simp only at e1 e2 e3 e4 e5 e6 e7 e8
    have HC9 := Lib.hid (cell9 wr (.int .i64 arg) (.int .i64 op) (.int .u64 v) (.int .u64 m) (.string glob) (.int .u32 ip) (.int .i64 bits) (.int .i64 lo) (.int .i64 hi) 47); have HAB9 := Lib.hid (above wr (.cells #[.int .i64 arg, .int .i64 op, .int .u64 v, .int .u64 m, .string glob, .int .u32 ip, .int .i64 bits, .int .i64 lo, .int .i64 hi] 47)); unfold CondD.val at HDC HNC
    simp only at HDC HNC HDN HPV ha0 ha3 ho1 ho9; clear hr9; go_upto_region 7 with fail; generalize wr.alloc (.cells #[.int .i64 arg, .int .i64 op, .int .u64 v, .int .u64 m, .string glob, .int .u32 ip, .int .i64 bits, .int .i64 lo, .int .i64 hi] 47) = W3 at *
    clear e0 e1 e2 e3 e4 e5 e6 e7 e8; have HB3 := Lib.hid (HAB9.out W3 (Below.refl _ _)); have HB23 : Hid (Below W2.heap.size W2 W3) := hB.out.trans (HB3.out.mono hB.out.size); have HK : Hid (∀ W, Below W3.heap.size W3 W → Below W2.heap.size W2 W) := fun W h => HB23.out.trans (h.mono HB23.out.size); obtain ⟨j0, j1, j2, j3, j4, j5, j6, j7, j8⟩ := HC9.out W3 (Below.refl _ _); clear HAB9
    by_cases h7 : 7 < op
    ·have HPT := Lib.hid (HPY.out (by rw [HPV]; simp [h7])); have HDT : Hid (deepN conds (k + 1) = true) := by show _ = _; rw [HDN.out]; simp [h7]
     have HDC2 : Hid (∀ W : World, Calls Tryz.prog 128 #[.agg #[.int .i64 arg, .int .i64 op, .int .u64 v, .int .u64 m, .string glob, .int .u32 ip, .int .i64 bits, .int .i64 lo, .int .i64 hi]] W fun e w' => e = .returned (.bool true) ∧ Below W.heap.size W w') := fun W => (HDC.out W).mono fun _ _ ⟨q1, q2⟩ => ⟨by rw [q1, decide_eq_true h7], q2⟩
     clear HDC HNC HPV h7 ho9
     go_wp2_with (go_at_call 128; refine cargs (by simp [Act.eval]) ((HDC2.out _).mono ?_); rintro e w4 ⟨rfl, hb4⟩; have HB4' := Lib.hid hb4; clear hb4)
     go_roundw
     case rel => exact ⟨k + 1, by omega, by go_num, by rw [HDT.out], HPT, HK.out _ HB4'.out⟩
     case measure => simp [intOf]; omega
    ·have HDF : Hid (deepN conds (k + 1) = deepN conds k) := by show _ = _; rw [HDN.out]; simp [h7]
     have HDC2 : Hid (∀ W : World, Calls Tryz.prog 128 #[.agg #[.int .i64 arg, .int .i64 op, .int .u64 v, .int .u64 m, .string glob, .int .u32 ip, .int .i64 bits, .int .i64 lo, .int .i64 hi]] W fun e w' => e = .returned (.bool false) ∧ Below W.heap.size W w') := fun W => (HDC.out W).mono fun _ _ ⟨q1, q2⟩ => ⟨by rw [q1, decide_eq_false h7], q2⟩
     have HNC2 := Lib.hid (fun A W => HNC.out A W (by omega)); have HPV2 : Hid (P ⟨arg, op, v, m, glob, ⟨ip, bits, lo, hi⟩⟩ = numB op v m (AN arg.toNat)) := by show _ = _; rw [HPV]; simp [h7]
     clear HDC HNC HPV h7 ho9 HDN
     go_upto_region 9 with (go_at_call 128; refine cargs (by simp [Act.eval]) ((HDC2.out _).mono ?_); rintro e w4 ⟨rfl, hb4⟩; have HB4' := Lib.hid (HK.out _ hb4); obtain ⟨j0, j1, j2, j3, j4, j5, j6, j7, j8⟩ := HC9.out w4 hb4; obtain ⟨l0, l1, l2, l3, l4, l5⟩ := HC6.out w4 (HK.out _ hb4); clear hb4)
     have ha4 : arg = 0 ∨ arg = 1 ∨ arg = 2 ∨ arg = 3 := by omega
     clear HC6 HC9 HCS HOPS HPN HNOK HDC2 HP ha0 ha3 hb2 HB3 HB23; rcases ha4 with rfl | rfl | rfl | rfl
     ·have HPV3 : Hid (P ⟨0, op, v, m, glob, ⟨ip, bits, lo, hi⟩⟩ = numB op v m a0) := by show _ = _; rw [HPV2.out, ← HA0.out]; rfl
      have HNC3 := Lib.hid (HNC2.out a0); clear HPV2 HNC2 HA0 HA1 HA2 HA3; rw [HPV3.out] at HPY HPX; generalize numB op v m _ = nb at *
      clear HPV3
      cases nb with
      | true =>
       have HPT := Lib.hid (HPY.out rfl); clear HPY HPX
       go_region_with (go_at_call 129; refine cargs (by simp [Act.eval]) ((HNC3.out _).mono ?_); rintro e w5 ⟨rfl, hb5⟩; have HB5 : Hid (Below w4.heap.size w4 w5) := (by first | exact hb5 | exact below_box (Below.refl _ _) (Nat.le_refl _) hb5 | exact (Below.refl _ _).drew.trans hb5))
       all_goals
        go_wp2_with fail; go_roundw
        case rel => exact ⟨k + 1, by omega, by go_num, by rw [HDF.out], HPT, HB4'.out.trans (HB5.out.mono HB4'.out.size)⟩
        case measure => simp [intOf]; omega
      | false =>
       have HT : Hid (F = false) := HPX.out rfl; clear HPY HPX
       go_region_with (go_at_call 129; refine cargs (by simp [Act.eval]) ((HNC3.out _).mono ?_); rintro e w5 ⟨rfl, hb5⟩; have HB5 : Hid (Below w4.heap.size w4 w5) := (by first | exact hb5 | exact below_box (Below.refl _ _) (Nat.le_refl _) hb5 | exact (Below.refl _ _).drew.trans hb5))
       all_goals
        go_wp2_with fail
        go_returns
        exact ⟨by rw [HNO.out HT.out]; rfl, HAB2.out.trans ((HB4'.out.trans (HB5.out.mono HB4'.out.size)).mono HAB2.out.size)⟩
     ·have HPV3 : Hid (P ⟨1, op, v, m, glob, ⟨ip, bits, lo, hi⟩⟩ = numB op v m a1) := by show _ = _; rw [HPV2.out, ← HA1.out]; rfl
      have HNC3 := Lib.hid (HNC2.out a1); clear HPV2 HNC2 HA0 HA1 HA2 HA3; rw [HPV3.out] at HPY HPX; generalize numB op v m _ = nb at *
      clear HPV3
      cases nb with
      | true =>
       have HPT := Lib.hid (HPY.out rfl); clear HPY HPX
       go_region_with (go_at_call 129; refine cargs (by simp [Act.eval]) ((HNC3.out _).mono ?_); rintro e w5 ⟨rfl, hb5⟩; have HB5 : Hid (Below w4.heap.size w4 w5) := (by first | exact hb5 | exact below_box (Below.refl _ _) (Nat.le_refl _) hb5 | exact (Below.refl _ _).drew.trans hb5))
       all_goals
        go_wp2_with fail; go_roundw
        case rel => exact ⟨k + 1, by omega, by go_num, by rw [HDF.out], HPT, HB4'.out.trans (HB5.out.mono HB4'.out.size)⟩
        case measure => simp [intOf]; omega
      | false =>
       have HT : Hid (F = false) := HPX.out rfl; clear HPY HPX
       go_region_with (go_at_call 129; refine cargs (by simp [Act.eval]) ((HNC3.out _).mono ?_); rintro e w5 ⟨rfl, hb5⟩; have HB5 : Hid (Below w4.heap.size w4 w5) := (by first | exact hb5 | exact below_box (Below.refl _ _) (Nat.le_refl _) hb5 | exact (Below.refl _ _).drew.trans hb5))
       all_goals
        go_wp2_with fail
        go_returns
        exact ⟨by rw [HNO.out HT.out]; rfl, HAB2.out.trans ((HB4'.out.trans (HB5.out.mono HB4'.out.size)).mono HAB2.out.size)⟩
     ·have HPV3 : Hid (P ⟨2, op, v, m, glob, ⟨ip, bits, lo, hi⟩⟩ = numB op v m a2) := by show _ = _; rw [HPV2.out, ← HA2.out]; rfl
      have HNC3 := Lib.hid (HNC2.out a2); clear HPV2 HNC2 HA0 HA1 HA2 HA3; rw [HPV3.out] at HPY HPX; generalize numB op v m _ = nb at *
      clear HPV3
      cases nb with
      | true =>
       have HPT := Lib.hid (HPY.out rfl); clear HPY HPX
       go_region_with (go_at_call 129; refine cargs (by simp [Act.eval]) ((HNC3.out _).mono ?_); rintro e w5 ⟨rfl, hb5⟩; have HB5 : Hid (Below w4.heap.size w4 w5) := (by first | exact hb5 | exact below_box (Below.refl _ _) (Nat.le_refl _) hb5 | exact (Below.refl _ _).drew.trans hb5))
       all_goals
        go_wp2_with fail; go_roundw
        case rel => exact ⟨k + 1, by omega, by go_num, by rw [HDF.out], HPT, HB4'.out.trans (HB5.out.mono HB4'.out.size)⟩
        case measure => simp [intOf]; omega
      | false =>
       have HT : Hid (F = false) := HPX.out rfl; clear HPY HPX
       go_region_with (go_at_call 129; refine cargs (by simp [Act.eval]) ((HNC3.out _).mono ?_); rintro e w5 ⟨rfl, hb5⟩; have HB5 : Hid (Below w4.heap.size w4 w5) := (by first | exact hb5 | exact below_box (Below.refl _ _) (Nat.le_refl _) hb5 | exact (Below.refl _ _).drew.trans hb5))
       all_goals
        go_wp2_with fail
        go_returns
        exact ⟨by rw [HNO.out HT.out]; rfl, HAB2.out.trans ((HB4'.out.trans (HB5.out.mono HB4'.out.size)).mono HAB2.out.size)⟩
     ·have HPV3 : Hid (P ⟨3, op, v, m, glob, ⟨ip, bits, lo, hi⟩⟩ = numB op v m a3) := by show _ = _; rw [HPV2.out, ← HA3.out]; rfl
      have HNC3 := Lib.hid (HNC2.out a3); clear HPV2 HNC2 HA0 HA1 HA2 HA3; rw [HPV3.out] at HPY HPX; generalize numB op v m _ = nb at *
      clear HPV3
      cases nb with
      | true =>
       have HPT := Lib.hid (HPY.out rfl); clear HPY HPX
       go_region_with (go_at_call 129; refine cargs (by simp [Act.eval]) ((HNC3.out _).mono ?_); rintro e w5 ⟨rfl, hb5⟩; have HB5 : Hid (Below w4.heap.size w4 w5) := (by first | exact hb5 | exact below_box (Below.refl _ _) (Nat.le_refl _) hb5 | exact (Below.refl _ _).drew.trans hb5))
       all_goals
        go_wp2_with fail; go_roundw
        case rel => exact ⟨k + 1, by omega, by go_num, by rw [HDF.out], HPT, HB4'.out.trans (HB5.out.mono HB4'.out.size)⟩
        case measure => simp [intOf]; omega
      | false =>
       have HT : Hid (F = false) := HPX.out rfl; clear HPY HPX
       go_region_with (go_at_call 129; refine cargs (by simp [Act.eval]) ((HNC3.out _).mono ?_); rintro e w5 ⟨rfl, hb5⟩; have HB5 : Hid (Below w4.heap.size w4 w5) := (by first | exact hb5 | exact below_box (Below.refl _ _) (Nat.le_refl _) hb5 | exact (Below.refl _ _).drew.trans hb5))
       all_goals
        go_wp2_with fail
        go_returns
        exact ⟨by rw [HNO.out HT.out]; rfl, HAB2.out.trans ((HB4'.out.trans (HB5.out.mono HB4'.out.size)).mono HAB2.out.size)⟩
   ·obtain rfl : k = conds.length := by omega
    have HT : Hid (F = true) := by show _ = _; rw [← HFE2.out]; have := hAll.out; rwa [List.take_length] at this
    go_wp2_with fail
    go_returns
    exact ⟨by rw [HYES.out HT.out]; rfl, HBW.out⟩
 ·have HF : Hid (F = false) := by show _ = _; rw [← HFE.out]; simp [hnr]
  obtain ⟨n, rfl⟩ : ∃ n : Nat, nr = n := ⟨nr.toNat, by omega⟩
  have hn8 : n ≤ 8 := by omega
  have e1 : ((n : Int) != cnr) = true := by simp; exact fun h => hnr h.symm
  clear hnr HFE HPN HNOK HP HA0 HA1 HA2 HA3 hcs hops HYES; go_enter Tryz.func73, Tryz.ntmps73
  go_wp2_with fail
  go_returns
  exact ⟨by rw [HNO.out HF.out]; rfl, by go_grown⟩
end Go.Proofs.YtmgngapkgcofnabGreatDoor
