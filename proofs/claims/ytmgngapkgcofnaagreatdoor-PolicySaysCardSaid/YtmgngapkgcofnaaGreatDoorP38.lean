/- The reference's Judge: the walk. Printed by genjudger.py. -/
import Derived.Test.YtmgngapkgcofnaaGreatDoorP33
import Derived.Test.YtmgngapkgcofnaaGreatDoorP37
import Derived.BigQuiet
import Derived.Lib.QuietBelow
namespace Go.Proofs.YtmgngapkgcofnaaGreatDoor
open Go.RowKit

set_option linter.unusedSimpArgs false in
set_option maxRecDepth 100000 in
set_option maxHeartbeats 8000000 in
theorem refJudge_any (v : Value) (p : PolD) (c : CallD) (w : World) (h : PolAt w w.heap.size v p) (hf : polF p = 0) (hc : c.ok) :
    Calls Tryz.prog 19 #[v, c.v] w fun e w' => e = .returned (verV (judgeF p c).1 (judgeF p c).2.1 (judgeF p c).2.2) ∧ Below w.heap.size w w' := by
  obtain ⟨A, cp, rfl, hr⟩ := h
  obtain ⟨A1, cp1, hA, hr⟩ := hr
  obtain ⟨rfl, rfl⟩ : A = A1 ∧ cp = cp1 := by simpa using hA
  clear hA
  obtain ⟨rules, pk, pe⟩ := p
  simp only at hr ⊢
  have HR := Lib.hid hr
  obtain ⟨hr12, _, hrz0⟩ := polF_zero hf
  have HRZ : Hid (∀ r ∈ rules, r.conds.length ≤ 4 ∧ ∀ c ∈ r.conds, (0 ≤ c.arg ∧ c.arg ≤ 3) ∧ 1 ≤ c.op ∧ c.op ≤ 9) := fun r hr => by
    obtain ⟨k1, k2, k3, k4, _⟩ := ruleF_zero (hrz0 r hr)
    exact ⟨k3, fun c hc => ⟨⟨(k4 c hc).1, (k4 c hc).2.1⟩, (k4 c hc).2.2⟩⟩
  have hcn : 0 ≤ c.nr ∧ c.nr < 4294967296 := hc.2.1
  have HFC : Hid (∀ (r : RuleD) (W : World) (A' : Option Addr) (c' : Nat), CondsSl W W.heap.size (.slice A' r.conds.length c') r.conds → (∀ x ∈ r.conds, (0 ≤ x.arg ∧ x.arg ≤ 3) ∧ 1 ≤ x.op ∧ x.op ≤ 9) → r.conds.length ≤ 100000 → Calls Tryz.prog 42 #[.agg #[.int .i64 r.nr, .slice A' r.conds.length c', .int .i64 r.kind, .int .i64 r.errno], c.v] W fun e w' => e = .returned (.tuple #[.bool (fitB c r), .bool (deepN r.conds r.conds.length)]) ∧ Below W.heap.size W w') := fun r W A' c' h1 h3 h4 => refFits_any r.nr _ r.conds r.kind r.errno c W h1 hcn h3 h4
  have HPK : Hid (∀ (i : Nat) r, rules[i]? = some r → pickJ c pk pe i (rules.drop i) = if fitB c r then (if deepN r.conds r.conds.length then (4, 0, (i : Int)) else (r.kind, r.errno, 0)) else pickJ c pk pe (i + 1) (rules.drop (i + 1))) := fun i r h => pickJ_at c pk pe h
  have HPE : Hid (pickJ c pk pe rules.length (rules.drop rules.length) = (pk, pe, 0)) := by show _ = _; rw [List.drop_length]; rfl
  have HJA : Hid (judgeF ⟨rules, pk, pe⟩ c = if c.arch = 3221225534 then pickJ c pk pe 0 (rules.drop 0) else (3, 0, 0)) := rfl
  obtain ⟨PJ, hPJ⟩ : ∃ PJ : Nat → List RuleD → Int × Int × Int, PJ = pickJ c pk pe := ⟨_, rfl⟩
  rw [← hPJ] at HPK HPE HJA
  obtain ⟨FB, hFB⟩ : ∃ FB : RuleD → Bool, FB = fitB c := ⟨_, rfl⟩
  rw [← hFB] at HFC HPK
  clear hPJ hFB hr hrz0 hf hc hcn
  generalize judgeF ⟨rules, pk, pe⟩ c = J at *
  obtain ⟨arch, cnr, a0, a1, a2, a3⟩ := c
  unfold CallD.v at HFC ⊢
  simp only at HJA HFC ⊢
  have HIN := Lib.hid (judge_in w (.slice A rules.length cp) pk pe arch cnr a0 a1 a2 a3)
  have hw0 : ((w.alloc (.cells #[.slice A rules.length cp, .int .i64 pk, .int .i64 pe] 27)).alloc (.cells #[.int .u32 arch, .int .u32 cnr, .int .u64 a0, .int .u64 a1, .int .u64 a2, .int .u64 a3] 41)).alloc (.cells #[.int .i64 0, .int .i64 0, .int .i64 0] 53) = judge0 w (.slice A rules.length cp) pk pe arch cnr a0 a1 a2 a3 := rfl
  go_enter Tryz.func19, Tryz.ntmps19
  go_upto_region 1 with fail
  try rw [hw0]
  clear hw0
  have HB0 : Hid (Below (judge0 w (.slice A rules.length cp) pk pe arch cnr a0 a1 a2 a3).heap.size (judge0 w (.slice A rules.length cp) pk pe arch cnr a0 a1 a2 a3) (judge0 w (.slice A rules.length cp) pk pe arch cnr a0 a1 a2 a3)) := Below.refl _ _
  generalize judge0 w (.slice A rules.length cp) pk pe arch cnr a0 a1 a2 a3 = W0 at *
  by_cases ha : arch = 3221225534
  · subst ha
    have HJ0 : Hid (J = PJ 0 (rules.drop 0)) := HJA.out.trans (if_pos rfl)
    clear HJA
    have h1 := HIN.out W0 HB0.out
    obtain ⟨bel1, p0, p1, p2, q0, q1, q2, q3, q4, q5, res1⟩ := h1
    clear bel1 res1
    go_wp2_with fail
    clear p0 p1 p2 q0 q1 q2 q3 q4 q5
    go_loopw [5] (fun iv wr => ∃ i : Nat, i ≤ rules.length ∧ iv = .int .i64 i ∧ Hid (Below W0.heap.size W0 wr) ∧ Hid (J = PJ i (rules.drop i))) (fun iv _ => rules.length - (intOf iv).toNat)
    case atStart => exact ⟨0, Nat.zero_le _, rfl, HB0, HJ0⟩
    case round =>
      clear HB0 HJ0
      obtain ⟨i, hi, rfl, HB, HP⟩ := hrel
      obtain ⟨hbel, p0, p1, p2, q0, q1, q2, q3, q4, q5, _⟩ := HIN.out wr HB.out
      have HBW := Lib.hid hbel
      clear hbel
      by_cases hlt : i < rules.length
      · have x2 : (i : Int) < (rules.length : Int) := by omega
        have x3 : (0 : Int) ≤ (i : Int) := by omega
        have hli : rules[i]? = some rules[i] := by simp
        obtain ⟨b, o, rfl, hb, hrow⟩ := HR.out.resolve_left (by intro e; rw [e] at hlt; simp at hlt)
        obtain ⟨A', c', hcs, hrg⟩ := hrow i _ hli
        have HRG := Lib.hid (fun W (hW : Below w.heap.size w W) => rangeAt_below hrg hW hb)
        have HCS := Lib.hid (fun W (hW : Below w.heap.size w W) => CondsSl.mono (CondsSl.below hcs hW (Nat.le_refl _)) hW.size)
        have HP1 : Hid (J = if FB rules[i] then (if deepN rules[i].conds rules[i].conds.length then (4, 0, (i : Int)) else (rules[i].kind, rules[i].errno, 0)) else PJ (i + 1) (rules.drop (i + 1))) := HP.out.trans (HPK.out i _ hli)
        obtain ⟨z2, z3⟩ := HRZ.out rules[i] (by simp)
        have HFC1 := Lib.hid (fun (W : World) (A' : Option Addr) (c' : Nat) (hcsl : CondsSl W W.heap.size (.slice A' (rules[i]'hlt).conds.length c') (rules[i]'hlt).conds) => HFC.out (rules[i]'hlt) W A' c' hcsl z3 (by omega))
        clear hcs hrg hrow hli z2 z3
        generalize rules[i] = R at *
        obtain ⟨nr, conds, rk, re⟩ := R
        simp only at HRG HCS HP1 HFC1
        have hrg2 := HRG.out wr HBW.out
        have f0 : wr.cell? ⟨b, o + i * 4, none⟩ = some (.int .i64 nr) := hrg2 0 _ rfl
        have f1 := hrg2 1 _ rfl
        have f2 := hrg2 2 _ rfl
        have f3 := hrg2 3 _ rfl
        clear hrg2
        have k0 := cell_regrown f0
        have k1 := cell_regrown f1
        have k2 := cell_regrown f2
        have k3 := cell_regrown f3
        have l0 := cell_regrown p0
        have m0 := cell_regrown q0
        have m1 := cell_regrown q1
        have m2 := cell_regrown q2
        have m3 := cell_regrown q3
        have m4 := cell_regrown q4
        have m5 := cell_regrown q5
        have HBQ : Hid (∀ (d : Nat) (os : Array Obj), Below wr.heap.size wr (Go.Sort.grow (redrawn wr d) os)) := fun d os => below_regrown wr d os
        generalize deepN conds conds.length = DP at *
        generalize hFR : FB ⟨nr, conds, rk, re⟩ = FR at *
        have cFT := fun d os => Calls.regrown_of (HFC1.out (Go.Sort.grow (redrawn wr d) os) A' c' (HCS.out _ (HBW.out.trans ((HBQ.out d os).mono HBW.out.size))))
        clear hFR HFC1 HFC HR
        go_upto_region 6 with fail
        refine wp_region_quiet_below (by kernel_rfl) (by kernel_rfl) ?_
        repeat (go_big_quiet_step (first | (go_at_call 42; exact cFT _ _) | fail))
        refine wpQuiet_nil ?_
        intro _ hw'
        obtain ⟨pq, hw''⟩ := hw'
        subst hw''
        have HB5 : Hid (Below W0.heap.size W0 (Go.Sort.grow (redrawn wr pq.d) pq.os)) := HB.out.trans ((HBQ.out pq.d pq.os).mono HB.out.size)
        have hrg3 := HRG.out _ (HBW.out.trans ((HBQ.out pq.d pq.os).mono HBW.out.size))
        clear k0 k1 k2 k3 l0 m0 m1 m2 m3 m4 m5 f0 f1 f2 f3 p0 p1 p2 q0 q1 q2 q3 q4 q5 cFT HBQ HRG HCS
        generalize Go.Sort.grow (redrawn wr pq.d) pq.os = W5 at *
        have f2 := hrg3 2 _ rfl
        have f3 := hrg3 3 _ rfl
        have p0 := (HIN.out W5 HB5.out).p0
        clear hrg3
        cases FR with
        | false =>
          have HJ1 : Hid (J = PJ (i + 1) (rules.drop (i + 1))) := HP1.out
          clear HP1 HP
          go_wp2_with fail
          go_roundw
          case rel => exact ⟨i + 1, by omega, by go_num, HB5, HJ1⟩
          case measure => simp [intOf]; omega
        | true =>
          cases DP with
          | true =>
            have HJ1 : Hid (J = (4, 0, (i : Int))) := HP1.out
            clear HP1 HP
            have hin := HIN.out W5 HB5.out
            obtain ⟨r0, r1, r2, fz0, fz1, fz2⟩ := hin.resf
            obtain ⟨y0, y1, y2⟩ := store3 hin.res (.int .i64 4) (.int .i64 0) (.int .i64 (i : Int))
            have HBS := Lib.hid (below_store3 hin.bel (show w.heap.size ≤ w.heap.size + 1 + 1 by omega) (.int .i64 4) (.int .i64 0) (.int .i64 (i : Int)))
            clear hin
            go_wp2_with fail
            try simp only [Exit.inBlock, Exit.then]
            refine bodyPost_ret (by simp [results, Tryz.results19, go_sem, y0, y1, y2]; try rfl) rfl ?_
            exact ⟨by rw [HJ1.out]; rfl, HBS.out⟩
          | false =>
            have HJ1 : Hid (J = (rk, re, 0)) := HP1.out
            clear HP1 HP
            have hin := HIN.out W5 HB5.out
            obtain ⟨r0, r1, r2, fz0, fz1, fz2⟩ := hin.resf
            obtain ⟨y0, y1, y2⟩ := store3 hin.res (.int .i64 rk) (.int .i64 re) (.int .i64 0)
            have HBS := Lib.hid (below_store3 hin.bel (show w.heap.size ≤ w.heap.size + 1 + 1 by omega) (.int .i64 rk) (.int .i64 re) (.int .i64 0))
            clear hin
            go_wp2_with fail
            try simp only [Exit.inBlock, Exit.then]
            refine bodyPost_ret (by simp [results, Tryz.results19, go_sem, y0, y1, y2]; try rfl) rfl ?_
            exact ⟨by rw [HJ1.out]; rfl, HBS.out⟩
      · obtain rfl : i = rules.length := by omega
        have HJ1 : Hid (J = (pk, pe, 0)) := HP.out.trans HPE.out
        clear HP
        have hin := HIN.out wr HB.out
        obtain ⟨r0, r1, r2, fz0, fz1, fz2⟩ := hin.resf
        obtain ⟨y0, y1, y2⟩ := store3 hin.res (.int .i64 pk) (.int .i64 pe) (.int .i64 0)
        have HBS := Lib.hid (below_store3 hin.bel (show w.heap.size ≤ w.heap.size + 1 + 1 by omega) (.int .i64 pk) (.int .i64 pe) (.int .i64 0))
        clear hin
        go_wp2_with fail
        try simp only [Exit.inBlock, Exit.then]
        refine bodyPost_ret (by simp [results, Tryz.results19, go_sem, y0, y1, y2]; try rfl) rfl ?_
        exact ⟨by rw [HJ1.out]; rfl, HBS.out⟩
  · have HJ1 : Hid (J = (3, 0, 0)) := HJA.out.trans (if_neg ha)
    have hab : ((arch : Int) != 3221225534) = true := bne_iff_ne.2 ha
    have hac : ((arch : Int) == 3221225534) = false := beq_eq_false_iff_ne.2 ha
    have q0 := (HIN.out W0 HB0.out).c0
    clear HJA
    have hin := HIN.out W0 HB0.out
    obtain ⟨r0, r1, r2, fz0, fz1, fz2⟩ := hin.resf
    obtain ⟨y0, y1, y2⟩ := store3 hin.res (.int .i64 3) (.int .i64 0) (.int .i64 0)
    have HBS := Lib.hid (below_store3 hin.bel (show w.heap.size ≤ w.heap.size + 1 + 1 by omega) (.int .i64 3) (.int .i64 0) (.int .i64 0))
    clear hin
    go_wp2_with fail
    try simp only [Exit.inBlock, Exit.then]
    refine bodyPost_ret (by simp [results, Tryz.results19, go_sem, y0, y1, y2]; try rfl) rfl ?_
    exact ⟨by rw [HJ1.out]; rfl, HBS.out⟩
end Go.Proofs.YtmgngapkgcofnaaGreatDoor
