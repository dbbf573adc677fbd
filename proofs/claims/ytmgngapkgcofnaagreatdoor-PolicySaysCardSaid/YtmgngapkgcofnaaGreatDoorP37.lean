/- The reference's Fits: the walk. Printed by genfitsr.py. -/
import Derived.Test.YtmgngapkgcofnaaGreatDoorP30
import Derived.Test.YtmgngapkgcofnaaGreatDoorP36
namespace Go.Proofs.YtmgngapkgcofnaaGreatDoor
open Go.RowKit

theorem pass_step {B : Bool} {P : CondD → Bool} {conds : List CondD} {k : Nat} {x : CondD} (hx : conds[k]? = some x) : (B && (conds.take (k + 1)).all P) = ((B && (conds.take k).all P) && P x) := by
  obtain ⟨hk, rfl⟩ := List.getElem?_eq_some_iff.1 hx
  rw [List.take_succ_eq_append_getElem hk, List.all_append, Bool.and_assoc]
  simp
set_option linter.unusedSimpArgs false in
set_option maxRecDepth 100000 in
set_option maxHeartbeats 4000000 in
theorem refFits_any (nr : Int) (sv : Value) (conds : List CondD) (rk re : Int) (c : CallD) (w : World) (hcs : CondsSl w w.heap.size sv conds) (hc : 0 ≤ c.nr ∧ c.nr < 4294967296)
    (hops : ∀ x ∈ conds, (0 ≤ x.arg ∧ x.arg ≤ 3) ∧ 1 ≤ x.op ∧ x.op ≤ 9) (hl : conds.length ≤ 100000) :
    Calls Tryz.prog 42 #[.agg #[.int .i64 nr, sv, .int .i64 rk, .int .i64 re], c.v] w fun e w' => e = .returned (.tuple #[.bool (fitB c ⟨nr, conds, rk, re⟩), .bool (deepN conds conds.length)]) ∧ Below w.heap.size w w' := by
  have HFE : Hid (∀ b, b = (decide (c.nr = nr) && (conds.take conds.length).all (passC c)) → b = fitB c ⟨nr, conds, rk, re⟩) := fun b h => by rw [h, List.take_length]; rfl
  have HP : Hid (∀ x, passC c x = (decide (7 < x.op) || numB x.op x.v x.m (argN c x.arg.toNat))) := fun x => rfl
  have HA0 : Hid (argN c 0 = c.a0) := rfl
  have HA1 : Hid (argN c 1 = c.a1) := rfl
  have HA2 : Hid (argN c 2 = c.a2) := rfl
  have HA3 : Hid (argN c 3 = c.a3) := rfl
  obtain ⟨P, hPd⟩ : ∃ P : CondD → Bool, P = passC c := ⟨_, rfl⟩
  obtain ⟨AN, hAN⟩ : ∃ AN : Nat → Int, AN = argN c := ⟨_, rfl⟩
  rw [← hPd] at HFE HP
  rw [← hAN] at HP HA0 HA1 HA2 HA3
  clear hPd hAN
  generalize fitB c ⟨nr, conds, rk, re⟩ = FF at *
  obtain ⟨A', c', rfl⟩ : ∃ A' c', sv = .slice A' conds.length c' := by obtain ⟨_, A', c', h, _⟩ := hcs; exact ⟨A', c', h⟩
  obtain ⟨arch, cnr, a0, a1, a2, a3⟩ := c
  unfold CallD.v
  simp only at HA0 HA1 HA2 HA3 HFE hc ⊢
  obtain ⟨cn, rfl⟩ : ∃ cn : Nat, cnr = cn := ⟨cnr.toNat, by omega⟩
  have hcn : cn < 4294967296 := by omega
  have HB0 : Hid ((nr == (cn : Int)) = decide ((cn : Int) = nr)) := by
    show _ = _
    by_cases h : (cn : Int) = nr
    · rw [h]; simp
    · rw [decide_eq_false h]; exact beq_eq_false_iff_ne.2 (fun e => h e.symm)
  obtain ⟨B0, hB0⟩ : ∃ B0 : Bool, (nr == (cn : Int)) = B0 := ⟨_, rfl⟩
  rw [← HB0.out, hB0] at HFE
  have HCS := Lib.hid hcs
  have HOPS := Lib.hid hops
  have HC6 := Lib.hid (cell6 (w.alloc (.cells #[.int .i64 nr, .slice A' conds.length c', .int .i64 rk, .int .i64 re] 73)) (.int .u32 arch) (.int .u32 (cn : Int)) (.int .u64 a0) (.int .u64 a1) (.int .u64 a2) (.int .u64 a3) 41)
  have HAB2 : Hid (Below w.heap.size w ((w.alloc (.cells #[.int .i64 nr, .slice A' conds.length c', .int .i64 rk, .int .i64 re] 73)).alloc (.cells #[.int .u32 arch, .int .u32 (cn : Int), .int .u64 a0, .int .u64 a1, .int .u64 a2, .int .u64 a3] 41))) := ((Below.refl _ _).alloc (Nat.le_refl _) _).alloc (by simp) _
  have HR4 : Hid (∀ W, Below ((w.alloc (.cells #[.int .i64 nr, .slice A' conds.length c', .int .i64 rk, .int .i64 re] 73)).alloc (.cells #[.int .u32 arch, .int .u32 (cn : Int), .int .u64 a0, .int .u64 a1, .int .u64 a2, .int .u64 a3] 41)).heap.size ((w.alloc (.cells #[.int .i64 nr, .slice A' conds.length c', .int .i64 rk, .int .i64 re] 73)).alloc (.cells #[.int .u32 arch, .int .u32 (cn : Int), .int .u64 a0, .int .u64 a1, .int .u64 a2, .int .u64 a3] 41)) W → W.cell? ⟨w.heap.size, 0, none⟩ = some (.int .i64 nr) ∧ W.cell? ⟨w.heap.size, 1, none⟩ = some (.slice A' conds.length c')) := fun W hb => by
    have h1 := (hb.block w.heap.size (by simp; omega)).trans ((heap_alloc_old (w.alloc (.cells #[.int .i64 nr, .slice A' conds.length c', .int .i64 rk, .int .i64 re] 73)) (.cells #[.int .u32 arch, .int .u32 (cn : Int), .int .u64 a0, .int .u64 a1, .int .u64 a2, .int .u64 a3] 41) (by simp)).trans (heap_alloc_new w (.cells #[.int .i64 nr, .slice A' conds.length c', .int .i64 rk, .int .i64 re] 73)))
    exact ⟨(cell_of_row _ _ _ _ _ _ h1).trans rfl, (cell_of_row _ _ _ _ _ _ h1).trans rfl⟩
  clear HB0 hcs hops
  go_enter Tryz.func42, Tryz.ntmps42
  go_upto_region 1 with fail
  have HB00 : Hid (Below ((w.alloc (.cells #[.int .i64 nr, .slice A' conds.length c', .int .i64 rk, .int .i64 re] 73)).alloc (.cells #[.int .u32 arch, .int .u32 (cn : Int), .int .u64 a0, .int .u64 a1, .int .u64 a2, .int .u64 a3] 41)).heap.size ((w.alloc (.cells #[.int .i64 nr, .slice A' conds.length c', .int .i64 rk, .int .i64 re] 73)).alloc (.cells #[.int .u32 arch, .int .u32 (cn : Int), .int .u64 a0, .int .u64 a1, .int .u64 a2, .int .u64 a3] 41)) ((w.alloc (.cells #[.int .i64 nr, .slice A' conds.length c', .int .i64 rk, .int .i64 re] 73)).alloc (.cells #[.int .u32 arch, .int .u32 (cn : Int), .int .u64 a0, .int .u64 a1, .int .u64 a2, .int .u64 a3] 41))) := Below.refl _ _
  have hw1 : (w.alloc (.cells #[.int .i64 nr, .slice A' conds.length c', .int .i64 rk, .int .i64 re] 73)).heap.size = w.heap.size + 1 := by simp
  rw [hw1] at HC6
  generalize (w.alloc (.cells #[.int .i64 nr, .slice A' conds.length c', .int .i64 rk, .int .i64 re] 73)).alloc (.cells #[.int .u32 arch, .int .u32 (cn : Int), .int .u64 a0, .int .u64 a1, .int .u64 a2, .int .u64 a3] 41) = W2 at *
  obtain ⟨s0, s1, s2, s3, s4, s5⟩ := HC6.out W2 HB00.out
  obtain ⟨r0, r1⟩ := HR4.out W2 HB00.out
  go_wp2_with fail
  clear s0 s1 s2 s3 s4 s5 r0 r1 hw1 hB0
  have HST : Hid (B0 = (B0 && (conds.take 0).all P)) := by show _ = _; simp
  go_loopw [6, 7, 8] (fun fv dv iv wr => ∃ (k : Nat) (b : Bool), k ≤ conds.length ∧ iv = .int .i64 k ∧ fv = .bool b ∧ dv = .bool (deepN conds k) ∧ Hid (b = (B0 && (conds.take k).all P)) ∧ Hid (Below W2.heap.size W2 wr)) (fun _ _ iv _ => conds.length - (intOf iv).toNat)
  case atStart => exact ⟨0, B0, Nat.zero_le _, rfl, rfl, rfl, HST, HB00⟩
  case round =>
    clear HST HB00
    obtain ⟨k, b, hk, rfl, rfl, rfl, HAL, HB⟩ := hrel
    have HBW : Hid (Below w.heap.size w wr) := HAB2.out.trans (HB.out.mono HAB2.out.size)
    obtain ⟨r0, r1⟩ := HR4.out wr HB.out
    by_cases hkl : k < conds.length
    · have y2 : (k : Int) < (conds.length : Int) := by omega
      have y3 : (0 : Int) ≤ (k : Int) := by omega
      have hlk : conds[k]? = some conds[k] := by simp
      obtain ⟨hcok, A2, c2, hA2, hrw⟩ := HCS.out.below HBW.out (Nat.le_refl _)
      obtain ⟨rfl, rfl⟩ : A' = A2 ∧ c' = c2 := by simpa using hA2
      obtain ⟨b2, o2, rfl, hb2, hrow2⟩ := hrw.resolve_left (by intro e; rw [e] at hkl; simp at hkl)
      have hr9 := hrow2 k _ hlk
      obtain ⟨⟨ha0, ha3⟩, ho1, ho9⟩ := HOPS.out conds[k] (by simp)
      have HDN : Hid (deepN conds (k + 1) = (deepN conds k || decide (7 < conds[k].op))) := deep_next hlk
      have HPS : Hid ((B0 && (conds.take (k + 1)).all P) = ((B0 && (conds.take k).all P) && P conds[k])) := pass_step hlk
      have HPV := HP.out conds[k]
      have HNC : Hid (∀ (A : Int) (W : World), conds[k].op ≤ 7 → Calls Tryz.prog 66 #[conds[k].val, .int .u64 A] W fun e w' => e = .returned (.bool (numB conds[k].op conds[k].v conds[k].m A)) ∧ Below W.heap.size W w') := fun A W h => refHolds_any _ A W ⟨ho1, h⟩
      clear hcok hA2 hrw hrow2 hlk
      generalize conds[k] = CC at *
      obtain ⟨arg, op, v, m, glob, ⟨ip, bits, lo, hi⟩⟩ := CC
      have e0 : wr.cell? ⟨b2, o2 + k * 9, none⟩ = some (.int .i64 arg) := hr9 0 _ rfl
      have e1 := hr9 1 _ rfl
      have e2 := hr9 2 _ rfl
      have e3 := hr9 3 _ rfl
      have e4 := hr9 4 _ rfl
      have e5 := hr9 5 _ rfl
      have e6 := hr9 6 _ rfl
      have e7 := hr9 7 _ rfl
      have e8 := hr9 8 _ rfl
      simp only at e1 e2 e3 e4 e5 e6 e7 e8
      have HC9 := Lib.hid (cell9 wr (.int .i64 arg) (.int .i64 op) (.int .u64 v) (.int .u64 m) (.string glob) (.int .u32 ip) (.int .i64 bits) (.int .i64 lo) (.int .i64 hi) 84)
      have HAB9 := Lib.hid (above wr (.cells #[.int .i64 arg, .int .i64 op, .int .u64 v, .int .u64 m, .string glob, .int .u32 ip, .int .i64 bits, .int .i64 lo, .int .i64 hi] 84))
      unfold CondD.val at HNC
      simp only at HNC HDN HPV ha0 ha3 ho1 ho9
      clear hr9
      go_upto_region 7 with fail
      generalize wr.alloc (.cells #[.int .i64 arg, .int .i64 op, .int .u64 v, .int .u64 m, .string glob, .int .u32 ip, .int .i64 bits, .int .i64 lo, .int .i64 hi] 84) = W3 at *
      clear e0 e1 e2 e3 e4 e5 e6 e7 e8 r0 r1
      have HB3 := Lib.hid (HAB9.out W3 (Below.refl _ _))
      have HB23 : Hid (Below W2.heap.size W2 W3) := HB.out.trans (HB3.out.mono HB.out.size)
      obtain ⟨j0, j1, j2, j3, j4, j5, j6, j7, j8⟩ := HC9.out W3 (Below.refl _ _)
      clear HAB9
      by_cases h7 : 7 < op
      · have HPT : Hid (b = (B0 && (conds.take (k + 1)).all P)) := by show _ = _; rw [HPS.out, HPV, ← HAL.out]; simp [h7]
        have HDT : Hid (deepN conds (k + 1) = true) := by show _ = _; rw [HDN.out]; simp [h7]
        clear HNC HPV HDN HPS
        go_wp2_with fail
        go_roundw
        case rel => exact ⟨k + 1, b, by omega, by go_num, rfl, by rw [HDT.out], HPT, HB23⟩
        case measure => simp [intOf]; omega
      · have HDF : Hid (deepN conds (k + 1) = deepN conds k) := by show _ = _; rw [HDN.out]; simp [h7]
        clear HDN
        cases b with
        | false =>
          have HPT : Hid (false = (B0 && (conds.take (k + 1)).all P)) := by show _ = _; rw [HPS.out, ← HAL.out]; rfl
          clear HNC HPV HPS
          go_wp2_with fail
          go_roundw
          case rel => exact ⟨k + 1, false, by omega, by go_num, rfl, by rw [HDF.out], HPT, HB23⟩
          case measure => simp [intOf]; omega
        | true =>
          have HNC2 := Lib.hid (fun A W => HNC.out A W (by omega))
          have HPV2 : Hid (numB op v m (AN arg.toNat) = (B0 && (conds.take (k + 1)).all P)) := by show _ = _; rw [HPS.out, HPV, ← HAL.out]; simp [h7]
          obtain ⟨l0, l1, l2, l3, l4, l5⟩ := HC6.out W3 HB23.out
          have ha4 : arg = 0 ∨ arg = 1 ∨ arg = 2 ∨ arg = 3 := by omega
          clear HNC HPV HPS HC6 HC9 HCS HOPS HP ha0 ha3 HB3 ho9 HAL
          rcases ha4 with rfl | rfl | rfl | rfl
          · have HPV3 : Hid (numB op v m a0 = (B0 && (conds.take (k + 1)).all P)) := by rw [← HA0.out]; exact HPV2.out
            have HNC3 := Lib.hid (HNC2.out a0)
            clear HPV2 HNC2 HA0 HA1 HA2 HA3
            generalize numB op v m _ = nb at *
            go_upto_region 10 with fail
            go_region_with (go_at_call 66; refine cargs (by simp [Act.eval]) ((HNC3.out _).mono ?_); rintro e w5 ⟨rfl, hb5⟩; have HB5 : Hid (Below W3.heap.size W3 w5) := (by first | exact hb5 | exact (Below.refl _ _).drew.trans hb5))
            all_goals
              go_wp2_with fail
              go_roundw
              case rel => exact ⟨k + 1, nb, by omega, by go_num, rfl, by rw [HDF.out], HPV3, HB23.out.trans (HB5.out.mono HB23.out.size)⟩
              case measure => simp [intOf]; omega
          · have HPV3 : Hid (numB op v m a1 = (B0 && (conds.take (k + 1)).all P)) := by rw [← HA1.out]; exact HPV2.out
            have HNC3 := Lib.hid (HNC2.out a1)
            clear HPV2 HNC2 HA0 HA1 HA2 HA3
            generalize numB op v m _ = nb at *
            go_upto_region 10 with fail
            go_region_with (go_at_call 66; refine cargs (by simp [Act.eval]) ((HNC3.out _).mono ?_); rintro e w5 ⟨rfl, hb5⟩; have HB5 : Hid (Below W3.heap.size W3 w5) := (by first | exact hb5 | exact (Below.refl _ _).drew.trans hb5))
            all_goals
              go_wp2_with fail
              go_roundw
              case rel => exact ⟨k + 1, nb, by omega, by go_num, rfl, by rw [HDF.out], HPV3, HB23.out.trans (HB5.out.mono HB23.out.size)⟩
              case measure => simp [intOf]; omega
          · have HPV3 : Hid (numB op v m a2 = (B0 && (conds.take (k + 1)).all P)) := by rw [← HA2.out]; exact HPV2.out
            have HNC3 := Lib.hid (HNC2.out a2)
            clear HPV2 HNC2 HA0 HA1 HA2 HA3
            generalize numB op v m _ = nb at *
            go_upto_region 10 with fail
            go_region_with (go_at_call 66; refine cargs (by simp [Act.eval]) ((HNC3.out _).mono ?_); rintro e w5 ⟨rfl, hb5⟩; have HB5 : Hid (Below W3.heap.size W3 w5) := (by first | exact hb5 | exact (Below.refl _ _).drew.trans hb5))
            all_goals
              go_wp2_with fail
              go_roundw
              case rel => exact ⟨k + 1, nb, by omega, by go_num, rfl, by rw [HDF.out], HPV3, HB23.out.trans (HB5.out.mono HB23.out.size)⟩
              case measure => simp [intOf]; omega
          · have HPV3 : Hid (numB op v m a3 = (B0 && (conds.take (k + 1)).all P)) := by rw [← HA3.out]; exact HPV2.out
            have HNC3 := Lib.hid (HNC2.out a3)
            clear HPV2 HNC2 HA0 HA1 HA2 HA3
            generalize numB op v m _ = nb at *
            go_upto_region 10 with fail
            go_region_with (go_at_call 66; refine cargs (by simp [Act.eval]) ((HNC3.out _).mono ?_); rintro e w5 ⟨rfl, hb5⟩; have HB5 : Hid (Below W3.heap.size W3 w5) := (by first | exact hb5 | exact (Below.refl _ _).drew.trans hb5))
            all_goals
              go_wp2_with fail
              go_roundw
              case rel => exact ⟨k + 1, nb, by omega, by go_num, rfl, by rw [HDF.out], HPV3, HB23.out.trans (HB5.out.mono HB23.out.size)⟩
              case measure => simp [intOf]; omega
    · obtain rfl : k = conds.length := by omega
      obtain rfl : b = FF := HFE.out b HAL.out
      go_wp2_with fail
      go_ret2
      exact ⟨rfl, HBW.out⟩
end Go.Proofs.YtmgngapkgcofnaaGreatDoor
