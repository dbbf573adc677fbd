/- TopComp: the walk. -/
import Derived.Test.YtmgngapkgcofnabTopCompW
import Derived.Deep.RegionWith
namespace Go.Proofs.Ytmgngapkgcofnab
open Go.RowKit Go.PlainAid

theorem prow3' {w : World} {b : Nat} {t : TypeId} {a0 a1 a2 : Value} (h : w.heap[b]? = some (.cells #[a0, a1, a2] t (0, 0))) :
    w.cell? ⟨b, 0, none⟩ = some a0 ∧ w.cell? ⟨b, 1, none⟩ = some a1 ∧ w.cell? ⟨b, 2, none⟩ = some a2 ∧ w.frozen? ⟨b, 0, none⟩ = false ∧ w.frozen? ⟨b, 1, none⟩ = false ∧ w.frozen? ⟨b, 2, none⟩ = false :=
  ⟨(cell_of_row _ _ _ _ _ _ h).trans rfl, (cell_of_row _ _ _ _ _ _ h).trans rfl, (cell_of_row _ _ _ _ _ _ h).trans rfl, frozen_of_row _ _ _ _ _ h, frozen_of_row _ _ _ _ _ h, frozen_of_row _ _ _ _ _ h⟩
set_option linter.unusedSimpArgs false in
set_option maxRecDepth 100000 in
set_option maxHeartbeats 8000000 in
theorem topComp_walk (v vl : Value) (p : PolD) (l : List CallD) (w : World) (h : PolAt w w.heap.size v p) (hc : CallsSl w w.heap.size vl l) :
    Calls Try.prog 3 #[v, vl] w fun e w' => e = .returned (.bool true) ∧ Below w.heap.size w w' := by
  have hpol := h
  obtain ⟨A, cp, rfl, hr⟩ := h
  obtain ⟨hcok, AC, cC, rfl, hcr⟩ := hc
  obtain ⟨rules, pk, pe⟩ := p
  simp only at hpol hr
  have HPOL := Lib.hid hpol
  have HC3 := Lib.hid (cell3 w (.slice A rules.length cp) (.int .i64 pk) (.int .i64 pe) 26)
  have HAB := Lib.hid (above w (.cells #[.slice A rules.length cp, .int .i64 pk, .int .i64 pe] 26))
  have HCO1 : Hid (∀ W : World, Calls Try.prog 4 #[.agg #[.slice none 0 0, .int .i64 1, .int .i64 0]] W fun e w' => ∃ A c n, e = .returned (.tuple #[.slice A n c, .nilIface]) ∧ 0 < n ∧ Below W.heap.size W w') := fun W =>
    (comp_ok' (by simp [polF, actF, firstNZ]) (rightP_of (one_ok W) (by simp [polF, actF, firstNZ])) (compile_any _ _ W (one_ok W) (by simp) (by simp) (by simp))).mono fun e w' ⟨A, c, n, h1, _, h3, h4⟩ => ⟨A, c, n, h1, h3.1, h4⟩
  have HLT : Hid (∀ W, Below w.heap.size w W → Calls Try.prog 5 #[.agg #[.slice A rules.length cp, .int .i64 pk, .int .i64 pe]] W fun e w' => e = .returned (.bool (lightP ⟨rules, pk, pe⟩)) ∧ Below W.heap.size W w') := fun W hb => lightPolicy_any _ _ W (hpol.up' hb)
  have HW0 : Hid (∀ W, Below (w.alloc (.cells #[.slice A rules.length cp, .int .i64 pk, .int .i64 pe] 26)).heap.size (w.alloc (.cells #[.slice A rules.length cp, .int .i64 pk, .int .i64 pe] 26)) W → w.heap.size < W.heap.size) := fun W hb => by have := hb.size; simp at this; omega
  clear hr hpol
  have hlp : 0 ≤ l.length := Nat.zero_le _
  cases hL : lightP ⟨rules, pk, pe⟩ with
  | false =>
    rw [hL] at HLT
    clear hL
    go_enter Try.func3, Try.ntmps3
    go_wp2_with (first
      | (go_at_call 4; refine cargs (by simp [Act.eval]) ((HCO1.out _).mono ?_); rintro e w1 ⟨A1, c1, n1, rfl, hn1, hb1⟩; have hn1' : (0 : Int) < (n1 : Int) := Int.natCast_pos.2 hn1; have HB1 := Lib.hid (HAB.out w1 hb1); obtain ⟨p0, p1, p2⟩ := HC3.out w1 hb1)
      | (go_at_call 5; refine cargs (by simp [Act.eval]) ((HLT.out _ HB1.out).mono ?_); rintro e w2 ⟨rfl, hb2⟩))
    go_ret
    exact ⟨rfl, HB1.out.trans (hb2.mono HB1.out.size)⟩
  | true =>
    obtain ⟨lg1, lg2, lg3⟩ := lightP_gets' hL
    have HLG := Lib.hid (And.intro lg1 (And.intro lg2 lg3))
    have HCK : Hid (∀ W, Below w.heap.size w W → Calls Try.prog 6 #[.agg #[.slice A rules.length cp, .int .i64 pk, .int .i64 pe]] W fun e w' => e = .returned (errV (polF ⟨rules, pk, pe⟩)) ∧ Below W.heap.size W w') := fun W hb =>
      polCheck_any _ _ W (HPOL.out.up' hb) (fun r hr c hc => by have := HLG.out.1 r hr c hc; omega) (by have := HLG.out.2.1; omega) (fun r hr => by have := HLG.out.2.2 r hr; omega)
    have HCA : Hid (∀ W, Below w.heap.size w W → Calls Try.prog 4 #[.agg #[.slice A rules.length cp, .int .i64 pk, .int .i64 pe]] W (CompR ⟨rules, pk, pe⟩ W)) := fun W hb =>
      compile_any _ _ W (HPOL.out.up' hb) (fun r hr c hc => by have := HLG.out.1 r hr c hc; omega) (by have := HLG.out.2.1; omega) (fun r hr => by have := HLG.out.2.2 r hr; omega)
    rw [hL] at HLT
    clear hL lg1 lg2 lg3
    by_cases h60 : 60 < l.length
    · have t60 : decide (60 < (l.length : Int)) = true := by simp; omega
      clear HCA HCK hcr hcok
      go_enter Try.func3, Try.ntmps3
      go_wp2_with (first
        | (go_at_call 4; refine cargs (by simp [Act.eval]) ((HCO1.out _).mono ?_); rintro e w1 ⟨A1, c1, n1, rfl, hn1, hb1⟩; have hn1' : (0 : Int) < (n1 : Int) := Int.natCast_pos.2 hn1; have HB1 := Lib.hid (HAB.out w1 hb1); obtain ⟨p0, p1, p2⟩ := HC3.out w1 hb1)
        | (go_at_call 5; refine cargs (by simp [Act.eval]) ((HLT.out _ HB1.out).mono ?_); rintro e w2 ⟨rfl, hb2⟩))
      go_ret
      exact ⟨rfl, HB1.out.trans (hb2.mono HB1.out.size)⟩
    · have t60 : decide (60 < (l.length : Int)) = false := by simp; omega
      by_cases hp : polF ⟨rules, pk, pe⟩ = 0
      · have hR := rightP_of HPOL.out hp
        have HCP : Hid (∀ W, Below w.heap.size w W → Calls Try.prog 4 #[.agg #[.slice A rules.length cp, .int .i64 pk, .int .i64 pe]] W fun e w' => ∃ A c n, e = .returned (.tuple #[.slice A n c, .nilIface]) ∧ Hid (n = (progL ⟨rules, pk, pe⟩).length ∧ InsSl w' w'.heap.size (.slice A n c) (progL ⟨rules, pk, pe⟩)) ∧ (0 < n ∧ n ≤ 600) ∧ Below W.heap.size W w') := fun W hb => comp_ok' hp hR (HCA.out W hb)
        have HCZ : Hid (∀ W, Below w.heap.size w W → Calls Try.prog 6 #[.agg #[.slice A rules.length cp, .int .i64 pk, .int .i64 pe]] W fun e w' => e = .returned .nilIface ∧ Below W.heap.size W w') := fun W hb => by
          have := HCK.out W hb
          rw [hp] at this; exact this
        have HJ : Hid (∀ (c : CallD) W, Below w.heap.size w W → Calls Try.prog 10 #[.agg #[.slice A rules.length cp, .int .i64 pk, .int .i64 pe], c.v] W fun e w' => e = .returned (.tuple #[verV (judgeF ⟨rules, pk, pe⟩ c).1 (judgeF ⟨rules, pk, pe⟩ c).2.1 (judgeF ⟨rules, pk, pe⟩ c).2.2, .nilIface]) ∧ Below W.heap.size W w') := fun c W hb => by
          have := judge_any _ _ c W (HPOL.out.up' hb) (fun r hr c hc => by have := HLG.out.1 r hr c hc; omega) (by have := HLG.out.2.1; omega) (fun r hr => by have := HLG.out.2.2 r hr; omega)
          rw [hp] at this; exact this
        have HR := Lib.hid hR
        have HQ := Lib.hid (comp_right hR)
        have HPR := Lib.hid (prog_right hR)
        clear hR hp HCA HCK
        go_enter Try.func3, Try.ntmps3
        go_upto_region 6 with (first
          | (go_at_call 4; refine cargs (by simp [Act.eval]) ((HCO1.out _).mono ?_); rintro e w1 ⟨A1, c1, n1, rfl, hn1, hb1⟩; have hn1' : (0 : Int) < (n1 : Int) := Int.natCast_pos.2 hn1; have HB1 := Lib.hid hb1; obtain ⟨p0, p1, p2⟩ := HC3.out w1 hb1; clear hb1)
          | (go_at_call 5; refine cargs (by simp [Act.eval]) ((HLT.out _ (HAB.out _ HB1.out)).mono ?_); rintro e w2 ⟨rfl, hb2⟩; have HB2 := Lib.hid (HB1.out.trans (hb2.mono HB1.out.size)); clear hb2))
        clear p0 p1 p2 HB1 HLT HCO1
        obtain ⟨p0, p1, p2⟩ := HC3.out w2 HB2.out
        go_upto_region 7 with (go_at_call 4; refine cargs (by simp [Act.eval]) ((HCP.out _ (HAB.out _ HB2.out)).mono ?_); rintro e w3 ⟨A3, c3, n3, rfl, hi3, hn3, hb3⟩; have HI3 := Lib.hid hi3; have HB3 := Lib.hid (HB2.out.trans (hb3.mono HB2.out.size)); clear hb3 hi3)
        clear p0 p1 p2 HB2 HCP
        obtain ⟨p0, p1, p2⟩ := HC3.out w3 HB3.out
        go_upto_region 8 with (go_at_call 6; refine cargs (by simp [Act.eval]) ((HCZ.out _ (HAB.out _ HB3.out)).mono ?_); rintro e w4 ⟨rfl, hb4⟩; have HB4 := Lib.hid (HB3.out.trans (hb4.mono HB3.out.size)); have HB34 := Lib.hid hb4; clear hb4)
        clear p0 p1 p2 HCZ
        have HBC : Hid (∀ W, Below w3.heap.size w3 W → Calls Try.prog 7 #[.slice A3 n3 c3] W fun e w' => e = .returned .nilIface ∧ Below W.heap.size W w') := fun W hb => by
          have := check_any _ _ W ((HI3.out.2.below hb).mono hb.size) (by have := HPR.out.2.2; omega)
          rw [HPR.out.2.1] at this; exact this
        have HRN : Hid (∀ (c : CallD) W, c.ok → Below w3.heap.size w3 W → Calls Try.prog 8 #[.slice A3 n3 c3, c.v] W fun e w' => ∃ (k : Nat) (st : Int), e = .returned (.tuple #[.int .u32 (k : Int), .int .i64 st, .nilIface]) ∧ k < 4294967296 ∧ st ≤ (n3 : Int) ∧ Hid (verdF k = some (judgeF ⟨rules, pk, pe⟩ c)) ∧ Below W.heap.size W w') := fun c W hok hb => by
          obtain ⟨e3, hi⟩ := HI3.out
          subst e3
          obtain ⟨h1, A4, c4, h2, h3⟩ := hi
          simp only [Value.slice.injEq, true_and] at h2
          obtain ⟨rfl, rfl⟩ := h2
          obtain ⟨b, o, rfl, hB, hrow⟩ := h3.resolve_left (fun e => by rw [e] at hn3; simp at hn3)
          refine (run_ok b o _ _ c W (hrow.below hb hB) (Nat.lt_of_lt_of_le hB hb.size) h1 hok HPR.out.2.1).mono fun e w' ⟨h4, h5⟩ => ?_
          obtain ⟨q1, q2⟩ := HQ.out c hok
          obtain ⟨v1, v2, v3⟩ := verd_res c HR.out
          refine ⟨(resF ⟨rules, pk, pe⟩ c).toNat, _, ?_, by omega, q2, v1, h5⟩
          rw [h4, q1, Int.toNat_of_nonneg v2]
        have HBF : Hid (∀ W, Below w3.heap.size w3 W → Below w.heap.size w W ∧ Below (w.alloc (.cells #[.slice A rules.length cp, .int .i64 pk, .int .i64 pe] 26)).heap.size (w.alloc (.cells #[.slice A rules.length cp, .int .i64 pk, .int .i64 pe] 26)) W) := fun W hb =>
          ⟨HAB.out _ (HB3.out.trans (hb.mono HB3.out.size)), HB3.out.trans (hb.mono HB3.out.size)⟩
        clear HR HQ HPR HI3 HLG HPOL HB3 HB4 HAB HW0
        go_upto_region 11 with (go_at_call 7; refine cargs (by simp [Act.eval]) ((HBC.out _ HB34.out).mono ?_); rintro e w5 ⟨rfl, hb5⟩; have HB5 := Lib.hid (HB34.out.trans (hb5.mono HB34.out.size)); clear hb5)
        clear HBC HB34
        go_wp2_with fail
        go_loopw [9] (fun iv wr => ∃ i : Nat, i ≤ l.length ∧ iv = .int .i64 i ∧ Hid (Below w3.heap.size w3 wr)) (fun iv _ => l.length - (intOf iv).toNat)
        case atStart => exact ⟨0, Nat.zero_le _, rfl, HB5⟩
        case round =>
          obtain ⟨i, hi, rfl, HBR⟩ := hrel
          by_cases hlt : i < l.length
          · obtain ⟨b, o, rfl, hB, hrow⟩ := hcr.resolve_left (fun e => by rw [e] at hlt; simp at hlt)
            have hlti : (i : Int) < (l.length : Int) := by omega
            have hxo := hcok _ (List.getElem_mem hlt)
            have HX := Lib.hid (fun W (hb : Below w3.heap.size w3 W) => call_row (hrow.below (HBF.out W hb).1 hB) (List.getElem?_eq_getElem hlt))
            clear hrow hcr hcok
            generalize l[i] = x at *
            have HRX := Lib.hid (fun W hb => HRN.out x W hxo hb)
            have HJX := Lib.hid (fun W hb => HJ.out x W hb)
            clear HRN HJ hxo
            generalize judgeF ⟨rules, pk, pe⟩ x = J at *
            obtain ⟨arch, nr, a0, a1, a2, a3⟩ := x
            obtain ⟨j1, j2, j3⟩ := J
            unfold CallD.v at HRX HJX
            simp only at HRX HJX HX
            obtain ⟨r0, r1, r2, r3, r4, r5⟩ := HX.out _ HBR.out
            go_upto_region 15 with (go_at_call 8; refine cargs (by simp [Act.eval]) ((HRX.out _ HBR.out).mono ?_); rintro e w6 ⟨k, st, rfl, hk, hst, hv, hb6⟩; have HB6 := Lib.hid (HBR.out.trans (hb6.mono HBR.out.size)); clear hb6)
            clear r0 r1 r2 r3 r4 r5 HRX
            have HVX : Hid (∀ W : World, Calls Try.prog 9 #[.int .u32 (k : Int)] W fun e w' => e = .returned (.tuple #[verV j1 j2 j3, .nilIface]) ∧ Below W.heap.size W w') := fun W => by
              have := verdict_any k W hk
              rw [hv.out] at this; exact this
            clear hv
            unfold verV at HVX HJX
            go_upto_region 16 with (go_at_call 9; refine cargs (by simp [Act.eval]) ((HVX.out _).mono ?_); rintro e w7 ⟨rfl, hb7⟩; have HB7 := Lib.hid (HB6.out.trans (hb7.mono HB6.out.size)); clear hb7)
            have HT8 := Lib.hid (cell3 w7 (.int .i64 j1) (.int .i64 j2) (.int .i64 j3) 44)
            have HB8 : Hid (Below w3.heap.size w3 (w7.alloc (.cells #[.int .i64 j1, .int .i64 j2, .int .i64 j3] 44))) := HB7.out.alloc HB7.out.size _
            generalize w7.alloc (.cells #[.int .i64 j1, .int .i64 j2, .int .i64 j3] 44) = W8 at *
            have HA8 := Lib.hid (HBF.out _ HB8.out).1
            have HS : Hid (∀ W', Below w3.heap.size w3 W' → W'.cell? ⟨w.heap.size, 0, none⟩ = some (.slice A rules.length cp) ∧ W'.cell? ⟨w.heap.size, 1, none⟩ = some (.int .i64 pk) ∧ W'.cell? ⟨w.heap.size, 2, none⟩ = some (.int .i64 pe) ∧ W'.cell? ⟨b, o + i * 6, none⟩ = some (.int .u32 arch) ∧ W'.cell? ⟨b, o + i * 6 + 1, none⟩ = some (.int .u32 nr) ∧ W'.cell? ⟨b, o + i * 6 + 2, none⟩ = some (.int .u64 a0) ∧ W'.cell? ⟨b, o + i * 6 + 3, none⟩ = some (.int .u64 a1) ∧ W'.cell? ⟨b, o + i * 6 + 4, none⟩ = some (.int .u64 a2) ∧ W'.cell? ⟨b, o + i * 6 + 5, none⟩ = some (.int .u64 a3)) := fun W hb => by
              obtain ⟨r0, r1, r2, r3, r4, r5⟩ := HX.out _ hb
              obtain ⟨p0, p1, p2⟩ := HC3.out _ (HBF.out _ hb).2
              exact ⟨p0, p1, p2, r0, r1, r2, r3, r4, r5⟩
            go_region_held3 (fun W' : World => W'.cell? ⟨w.heap.size, 0, none⟩ = some (.slice A rules.length cp) ∧ W'.cell? ⟨w.heap.size, 1, none⟩ = some (.int .i64 pk) ∧ W'.cell? ⟨w.heap.size, 2, none⟩ = some (.int .i64 pe) ∧ W'.cell? ⟨b, o + i * 6, none⟩ = some (.int .u32 arch) ∧ W'.cell? ⟨b, o + i * 6 + 1, none⟩ = some (.int .u32 nr) ∧ W'.cell? ⟨b, o + i * 6 + 2, none⟩ = some (.int .u64 a0) ∧ W'.cell? ⟨b, o + i * 6 + 3, none⟩ = some (.int .u64 a1) ∧ W'.cell? ⟨b, o + i * 6 + 4, none⟩ = some (.int .u64 a2) ∧ W'.cell? ⟨b, o + i * 6 + 5, none⟩ = some (.int .u64 a3)) (first | exact HS.out _ HB8.out | exact HS.out _ HB8.out.drew | exact HS.out _ (HB8.out.alloc HB8.out.size _) | exact HS.out _ (HB8.out.alloc HB8.out.size _).drew | exact HS.out _ HB9.out | exact HS.out _ (HB9.out.alloc HB9.out.size _) | exact HS.out _ (((HB9.out.setCell (p := ⟨W8.heap.size, 0, none⟩) HB8.out.size _).setCell (p := ⟨W8.heap.size, 1, none⟩) HB8.out.size _).setCell (p := ⟨W8.heap.size, 2, none⟩) HB8.out.size _)) (first
              | (go_at_call 10; refine cargs (by simp [Act.eval]) ((HJX.out _ (by first | exact HA8.out | exact HA8.out.drew)).mono ?_); rintro e w9 ⟨rfl, hb9⟩; have HB89 : Hid (Below W8.heap.size W8 w9) := (by first | exact hb9 | exact ((Below.refl _ _).drew).trans hb9); have HB9 : Hid (Below w3.heap.size w3 w9) := HB8.out.trans (HB89.out.mono HB8.out.size); clear hb9)
              | (go_at_call 10; refine cargs (by simp [Act.eval]) ((HJX.out _ (by first | exact HA8.out.alloc HA8.out.size _ | exact (HA8.out.alloc HA8.out.size _).drew)).mono ?_); rintro e w9 ⟨rfl, hb9⟩; have HB89 : Hid (Below W8.heap.size W8 w9) := (by first | exact ((Below.refl _ _).alloc (Nat.le_refl _) _).trans (hb9.mono (by simp)) | exact ((Below.refl _ _).alloc (Nat.le_refl _) _).drew.trans (hb9.mono (by simp))); have HB9 : Hid (Below w3.heap.size w3 w9) := HB8.out.trans (HB89.out.mono HB8.out.size); have HZ := Lib.hid ((hb9.block W8.heap.size (by simp)).trans (heap_alloc_new W8 _)); obtain ⟨z0, z1, z2, y0, y1, y2⟩ := prow3' ((hb9.block W8.heap.size (by simp)).trans (heap_alloc_new W8 _)); clear hb9))
            all_goals
              first
                | (obtain ⟨e0, e1, e2⟩ := store3 HZ.out (.int .i64 j1) (.int .i64 j2) (.int .i64 j3)
                   have HB8X : Hid (Below W8.heap.size W8 (((w9.setCell ⟨W8.heap.size, 0, none⟩ (.int .i64 j1)).setCell ⟨W8.heap.size, 1, none⟩ (.int .i64 j2)).setCell ⟨W8.heap.size, 2, none⟩ (.int .i64 j3))) := ((HB89.out.setCell (p := ⟨W8.heap.size, 0, none⟩) (Nat.le_refl _) _).setCell (p := ⟨W8.heap.size, 1, none⟩) (Nat.le_refl _) _).setCell (p := ⟨W8.heap.size, 2, none⟩) (Nat.le_refl _) _
                   obtain ⟨q0, q1, q2⟩ := HT8.out _ HB8X.out
                   have HBX := Lib.hid (HB8.out.trans (HB8X.out.mono HB8.out.size))
                   clear HZ z0 z1 z2 y0 y1 y2
                   generalize ((w9.setCell ⟨W8.heap.size, 0, none⟩ (.int .i64 j1)).setCell ⟨W8.heap.size, 1, none⟩ (.int .i64 j2)).setCell ⟨W8.heap.size, 2, none⟩ (.int .i64 j3) = WX at *
                   clear HS HB89 HB9)
                | (obtain ⟨e0, e1, e2⟩ := cell3 w9 (.int .i64 j1) (.int .i64 j2) (.int .i64 j3) 44 _ (Below.refl _ _)
                   have HB8X : Hid (Below W8.heap.size W8 (w9.alloc (.cells #[.int .i64 j1, .int .i64 j2, .int .i64 j3] 44))) := HB89.out.alloc HB89.out.size _
                   obtain ⟨q0, q1, q2⟩ := HT8.out _ HB8X.out
                   have HBX := Lib.hid (HB8.out.trans (HB8X.out.mono HB8.out.size))
                   generalize w9.alloc (.cells #[.int .i64 j1, .int .i64 j2, .int .i64 j3] 44) = WX at *
                   clear HS HB89 HB9)
              have hst2 : decide ((n3 : Int) < st) = false := by simp; omega
              have hst3 : ¬ (n3 : Int) < st := by omega
              clear hst
              go_wp2_with fail
              go_roundw
              case rel => exact ⟨i + 1, by omega, by go_num, HBX⟩
              case measure => simp [intOf]; omega
          · obtain rfl : i = l.length := by omega
            go_wp2_with fail
            go_ret
            exact ⟨rfl, (HBF.out _ HBR.out).1⟩
      · have HF : Hid (errV (polF ⟨rules, pk, pe⟩) = .iface 64 (.int .i64 (polF ⟨rules, pk, pe⟩))) := errV_pos hp
        have HCP : Hid (∀ W, Below w.heap.size w W → Calls Try.prog 4 #[.agg #[.slice A rules.length cp, .int .i64 pk, .int .i64 pe]] W fun e w' => e = .returned (.tuple #[.slice none 0 0, .iface 64 (.int .i64 (polF ⟨rules, pk, pe⟩))]) ∧ Below W.heap.size W w') := fun W hb => (HCA.out W hb).mono fun e w' ⟨h1, h2⟩ => by
          rw [if_neg hp, HF.out] at h2
          exact ⟨h2, h1⟩
        have HCZ : Hid (∀ W, Below w.heap.size w W → Calls Try.prog 6 #[.agg #[.slice A rules.length cp, .int .i64 pk, .int .i64 pe]] W fun e w' => e = .returned (.iface 64 (.int .i64 (polF ⟨rules, pk, pe⟩))) ∧ Below W.heap.size W w') := fun W hb => by
          have := HCK.out W hb
          rw [HF.out] at this; exact this
        clear HF hp HCA HCK hcr hcok
        generalize polF ⟨rules, pk, pe⟩ = pf at *
        go_enter Try.func3, Try.ntmps3
        go_upto_region 6 with (first
          | (go_at_call 4; refine cargs (by simp [Act.eval]) ((HCO1.out _).mono ?_); rintro e w1 ⟨A1, c1, n1, rfl, hn1, hb1⟩; have hn1' : (0 : Int) < (n1 : Int) := Int.natCast_pos.2 hn1; have HB1 := Lib.hid hb1; obtain ⟨p0, p1, p2⟩ := HC3.out w1 hb1; clear hb1)
          | (go_at_call 5; refine cargs (by simp [Act.eval]) ((HLT.out _ (HAB.out _ HB1.out)).mono ?_); rintro e w2 ⟨rfl, hb2⟩; have HB2 := Lib.hid (HB1.out.trans (hb2.mono HB1.out.size)); clear hb2))
        clear p0 p1 p2 HB1 HLT HCO1
        obtain ⟨p0, p1, p2⟩ := HC3.out w2 HB2.out
        go_upto_region 7 with (go_at_call 4; refine cargs (by simp [Act.eval]) ((HCP.out _ (HAB.out _ HB2.out)).mono ?_); rintro e w3 ⟨rfl, hb3⟩; have HB3 := Lib.hid (HB2.out.trans (hb3.mono HB2.out.size)); clear hb3)
        clear p0 p1 p2 HB2 HCP
        obtain ⟨p0, p1, p2⟩ := HC3.out w3 HB3.out
        go_wp2_with (go_at_call 6; refine cargs (by simp [Act.eval]) ((HCZ.out _ (HAB.out _ HB3.out)).mono ?_); rintro e w4 ⟨rfl, hb4⟩; have HB4 := Lib.hid (HB3.out.trans (hb4.mono HB3.out.size)); clear hb4)
        go_ret
        exact ⟨rfl, HAB.out _ HB4.out⟩
end Go.Proofs.Ytmgngapkgcofnab
