/- does: the walk. -/
import Derived.Test.YtmgngapkgcofnabGreatDoorP34
import Derived.Test.YtmgngapkgcofnabGreatDoorP35
import Derived.Below
import Derived.Laws.OwnMore
import Derived.Deep.AppendLies
import Derived.Deep.Draws
import Derived.Maps.AppendAt
import Derived.RegionTactic
import Derived.OwnWalk
import Derived.Test.YtmgngapkgcofnabGreatDoorProg
import Derived.Test.YtmgngapkgcofnabGreatDoorP30
namespace Go.Proofs.YtmgngapkgcofnabGreatDoor
open Go.RowKit Go.PlainAid
set_option linter.unusedSimpArgs false in
set_option maxRecDepth 100000 in
set_option maxHeartbeats 4000000 in
theorem wardDoes_any (H : Nat) (B : Nat → Prop) (g : Nat) (p : PolD) (S : WardS) (n : Nat) (k x : Int) (w : World) (h : WardAt w H B g p S) (hn : n < 3) (hBs : ∀ k, w.heap.size ≤ k → B k) (hfew : S.log.length < 1000000) :
  Calls Tryz.prog 45 #[.pointer (some ⟨g, 0, none⟩), .int .i64 (n : Int), .agg #[.int .i64 k, .int .i64 x]] w fun e w' => e = .returned (.bool (decide (k = 1))) ∧ WardAt w' H B g p (doesS S n (k, x)) ∧ Frame B w w' := by
 have hb : Below w.heap.size w (w.alloc (.cells #[.int .i64 k, .int .i64 x] 24)) := (Below.refl _ _).alloc (Nat.le_refl _) _
 have HC : Hid (∀ (kind errno : Int), Calls Tryz.prog 96 #[.pointer (some ⟨g, 0, none⟩), .int .i64 (n : Int), .int .i64 kind, .int .i64 errno, .agg #[.string ⟨#[]⟩, .int .u32 0, .int .i64 0, .string ⟨#[]⟩, .int .u32 0, .int .i64 0, .string ⟨#[]⟩, .int .u32 0, .int .i64 0, .string ⟨#[]⟩, .int .u32 0, .int .i64 0]] (w.alloc (.cells #[.int .i64 k, .int .i64 x] 24)) fun e w' => e = .returned (.tuple #[]) ∧ Hid (WardAt w' H B g p (endsS S n kind errno zeroVals) ∧ Frame B w w')) := fun kind errno =>
  (wardEnds_any H B g p S n kind errno zeroVals _ (h.below hb) hn (fun i hi => hBs i (Nat.le_trans hb.size hi)) hfew).mono fun e w' ⟨h1, h2, h3⟩ => ⟨h1, h2, (Frame.of_below hb).trans h3⟩
 have HW : Hid (WardAt (w.alloc (.cells #[.int .i64 k, .int .i64 x] 24)) H B g p S ∧ Frame B w (w.alloc (.cells #[.int .i64 k, .int .i64 x] 24))) := ⟨h.below hb, Frame.of_below hb⟩
 clear h hBs hb hfew
 by_cases h1 : k = 1
 ·subst h1; have HS : Hid (doesS S n (1, x) = S) := if_pos rfl; go_enter Tryz.func45, Tryz.ntmps45
  go_wp2_with fail; go_ret; exact ⟨rfl, by rw [HS.out]; exact HW.out⟩
 ·have d1 : decide (k = 1) = false := decide_eq_false h1; rw [d1]
  by_cases h2 : k = 2
  ·subst h2; have HS : Hid (doesS S n (2, x) = endsS S n 2 x zeroVals) := by show _ = _; unfold doesS; rw [if_neg (by simp), if_pos rfl]
   have HC2 := Lib.hid (HC.out 2 x); clear HC HW d1; go_enter Tryz.func45, Tryz.ntmps45
   go_wp2_with (go_at_call 96; refine cargs (by simp [Act.eval]) (HC2.out.mono ?_); rintro e w1 ⟨rfl, HX⟩)
   go_ret; exact ⟨rfl, by rw [HS.out]; exact HX.out⟩
  ·have HS : Hid (doesS S n (k, x) = endsS S n 3 0 zeroVals) := by show _ = _; unfold doesS; rw [if_neg h1, if_neg h2]
   have HC2 := Lib.hid (HC.out 3 0); clear HC HW d1; go_enter Tryz.func45, Tryz.ntmps45
   go_wp2_with (go_at_call 96; refine cargs (by simp [Act.eval]) (HC2.out.mono ?_); rintro e w1 ⟨rfl, HX⟩)
   go_ret; exact ⟨rfl, by rw [HS.out]; exact HX.out⟩
end Go.Proofs.YtmgngapkgcofnabGreatDoor
namespace Go.Proofs.YtmgngapkgcofnabGreatDoor
open Go.RowKit Go.PlainAid
section
variable {w w' : World} {H : Nat} {B : Nat → Prop} {g : Nat} {p : PolD} {S : WardS} {A : Option Addr} {c : Nat} {Ap : Option Addr} {cp : Nat} {m : Nat} {lv : Value} {bv sv : Nat → Value}
theorem WardRep.run (R : WardRep w H B g p S A c Ap cp m lv bv sv) (hf : polF p = 0) (cl : CallD) (hc : cl.ok) :
  ∀ W : World, Below H w W → H ≤ W.heap.size → Calls Tryz.prog 92 #[.slice Ap (progL p).length cp, cl.v] W fun e w' => ∃ (k : Nat) (st : Int), e = .returned (.tuple #[.int .u32 (k : Int), .int .i64 st, .nilIface]) ∧ k < 4294967296 ∧ Hid (verdF k = some (judgeF p cl)) ∧ Below W.heap.size W w' := by
 intro W hb hW; have hR := rightP_of R.pol hf; have hP := prog_right hR; obtain ⟨h1, A4, c4, h2, h3⟩ := R.prg.below hb; simp only [Value.slice.injEq, true_and] at h2; obtain ⟨rfl, rfl⟩ := h2; obtain ⟨b, o, rfl, hB, hrow⟩ := h3.resolve_left (fun e => by have := progL_pos p; rw [e] at this; simp at this)
 refine (run_ok b o _ _ cl W hrow (Nat.lt_of_lt_of_le hB hW) h1 hc hP.2.1).mono fun e w' ⟨h4, h5⟩ => ?_; obtain ⟨q1, q2⟩ := comp_right hR cl hc; obtain ⟨v1, v2, v3⟩ := verd_res cl hR; refine ⟨(resF p cl).toNat, (runF (progL p) cl (progL p).length 0 0 0).2, ?_, by omega, v1, h5⟩; rw [h4, q1, Int.toNat_of_nonneg v2]
theorem setT_setT (S : WardS) (n : Nat) (T T2 : ThrS) : (S.setT n T).setT n T2 = S.setT n T2 := by
 unfold WardS.setT; simp only [WardS.mk.injEq, and_true]
 funext k
 by_cases h : k = n
 ·rw [if_pos h, if_pos h]
 ·rw [if_neg h, if_neg h, if_neg h]
theorem ptr_ok (nr : Int) : ptrN nr 0 ≤ 4 := (ptrN_le nr 0 (by omega)).2.1
end
set_option linter.unusedSimpArgs false in
set_option maxRecDepth 100000 in
set_option maxHeartbeats 8000000 in
theorem wardFilter_any (H : Nat) (B : Nat → Prop) (g : Nat) (p : PolD) (S : WardS) (n : Nat) (w : World) (h : WardAt w H B g p S) (hf : polF p = 0) (hn : n < 3) (hBs : ∀ k, w.heap.size ≤ k → B k) (hfew : S.log.length < 1000000) :
  Calls Tryz.prog 43 #[.pointer (some ⟨g, 0, none⟩), .int .i64 (n : Int)] w fun e w' => e = .returned (.tuple #[]) ∧ WardAt w' H B g p (filterS p S n) ∧ Frame B w w' := by
 have HH := Lib.hid h; obtain ⟨hB, hl, hok, A, c, Ap, cp, m, lv, bv, sv, R⟩ := h; have y3 : (0 : Int) ≤ (n : Int) := by omega
 have y4 : (n : Int) < 3 := by omega
 have hgl := R.lt; have hH : H ≤ w.heap.size := by have := hl g hB; omega
 obtain ⟨_, _, _, c3, _, _⟩ := R.head; have a0 := R.thr hn (j := 0) rfl; have a7 := R.thr hn (j := 7) rfl; have a8 := R.thr hn (j := 8) rfl; have a8' := a8; have a9 := R.thr hn (j := 9) rfl; have a10 := R.thr hn (j := 10) rfl; have a11 := R.thr hn (j := 11) rfl; have a12 := R.thr hn (j := 12) rfl; have a13 := R.thr hn (j := 13) rfl; have hcl := (hok.thr n).now
 have HT : Hid ((S.t n).ok) := hok.thr n
 have HRUN : Hid (∀ W : World, Below w.heap.size w W → Calls Tryz.prog 92 #[.slice Ap (progL p).length cp, (S.t n).now.v] W fun e w' => ∃ (k : Nat) (st : Int), e = .returned (.tuple #[.int .u32 (k : Int), .int .i64 st, .nilIface]) ∧ k < 4294967296 ∧ Hid (verdF k = some (judgeF p (S.t n).now)) ∧ Below W.heap.size W w') := fun W hb => R.run hf (S.t n).now hcl W (hb.mono hH) (Nat.le_trans hH hb.size)
 have HFZ : Hid (∀ W : World, Below w.heap.size w W → ∀ i, W.frozen? ⟨g, i, none⟩ = false) := fun W hb i => (World.frozen?_of_block (a := ⟨g, i, none⟩) (hb.block g hgl)).trans (R.frozen i); have HCE : Hid (∀ W : World, Below w.heap.size w W → ∀ i u, w.cell? ⟨g, i, none⟩ = some u → W.cell? ⟨g, i, none⟩ = some u) := fun W hb i u hu => (hb.cell (p := ⟨g, i, none⟩) hgl).trans hu
 have HPT : Hid (∀ W : World, W.cell? ⟨g, 5 + n * 28 + 8, none⟩ = some (.int .u32 (S.t n).now.nr) → Calls Tryz.prog 94 #[.pointer (some ⟨g, 5 + n * 28, none⟩), .int .i64 0] W fun e w' => e = .returned (.int .i64 (ptrN (S.t n).now.nr 0 : Nat)) ∧ Below W.heap.size W w') := fun W hc =>
  thrPtr_any g (5 + n * 28) (S.t n).now.nr 0 W (by rw [Nat.add_assoc]; rw [Nat.add_assoc] at hc; exact hc) hcl.2.1.1 (by omega)
 have HDO : Hid (∀ W : World, Below w.heap.size w W → ∀ k x, Calls Tryz.prog 45 #[.pointer (some ⟨g, 0, none⟩), .int .i64 (n : Int), .agg #[.int .i64 k, .int .i64 x]] W fun e w' => e = .returned (.bool (decide (k = 1))) ∧ Hid (WardAt w' H B g p (doesS S n (k, x)) ∧ Frame B w w')) := fun W hb k x =>
  (wardDoes_any H B g p S n k x W (HH.out.below hb) hn (fun i hi => hBs i (Nat.le_trans hb.size hi)) hfew).mono fun e w' ⟨h1, h2, h3⟩ => ⟨h1, h2, (Frame.of_below hb).trans h3⟩
 have HFS : Hid (filterS p S n = if (judgeF p (S.t n).now).1 = 4 then S.setT n { S.t n with phase := 2, arg := ptrN (S.t n).now.nr 0 } else if (judgeF p (S.t n).now).1 = 1 then setPh S n 5 else doesS S n ((judgeF p (S.t n).now).1, (judgeF p (S.t n).now).2.1)) := rfl; have HLB := Lib.hid (And.intro hB hl); obtain ⟨T0, hT0⟩ : ∃ T0, T0 = S.t n := ⟨_, rfl⟩
 rw [← hT0] at a0 a7 a8 a8' a9 a10 a11 a12 a13 hcl HT HRUN HPT HFS; obtain ⟨ph, ask, now, ar, bf, vs, se⟩ := T0; obtain ⟨arch, nr, x0, x1, x2, x3⟩ := now; simp only at a0 a7 a8 a8' a9 a10 a11 a12 a13 hcl HRUN HPT HFS; unfold CallD.v at HRUN; simp only at HRUN; obtain ⟨⟨j1, j2, j3⟩, hJ⟩ : ∃ j, j = judgeF p ⟨arch, nr, x0, x1, x2, x3⟩ := ⟨_, rfl⟩
 rw [← hJ] at HFS HRUN; simp only at HFS; have HT0 := Lib.hid hT0; clear R hok hB hl hBs hfew hT0 hJ hf hcl; generalize (progL p).length = pl at *
 go_enter Tryz.func43, Tryz.ntmps43; go_upto_region 1 with fail
 have HS : Hid (∀ W' : World, Below w.heap.size w W' → W'.cell? ⟨g, 3, none⟩ = some (.slice Ap pl cp) ∧ W'.cell? ⟨g, 5 + n * 28 + 7, none⟩ = some (.int .u32 arch) ∧ W'.cell? ⟨g, 5 + n * 28 + 8, none⟩ = some (.int .u32 nr) ∧ W'.cell? ⟨g, 5 + n * 28 + 9, none⟩ = some (.int .u64 x0) ∧ W'.cell? ⟨g, 5 + n * 28 + 10, none⟩ = some (.int .u64 x1) ∧ W'.cell? ⟨g, 5 + n * 28 + 11, none⟩ = some (.int .u64 x2) ∧ W'.cell? ⟨g, 5 + n * 28 + 12, none⟩ = some (.int .u64 x3)) := fun W hb =>
  ⟨HCE.out W hb _ _ c3, HCE.out W hb _ _ a7, HCE.out W hb _ _ a8, HCE.out W hb _ _ a9, HCE.out W hb _ _ a10, HCE.out W hb _ _ a11, HCE.out W hb _ _ a12⟩
 have HWR := Lib.hid (Below.refl w.heap.size w)
 go_region_held3 (fun W' : World => W'.cell? ⟨g, 3, none⟩ = some (.slice Ap pl cp) ∧ W'.cell? ⟨g, 5 + n * 28 + 7, none⟩ = some (.int .u32 arch) ∧ W'.cell? ⟨g, 5 + n * 28 + 8, none⟩ = some (.int .u32 nr) ∧ W'.cell? ⟨g, 5 + n * 28 + 9, none⟩ = some (.int .u64 x0) ∧ W'.cell? ⟨g, 5 + n * 28 + 10, none⟩ = some (.int .u64 x1) ∧ W'.cell? ⟨g, 5 + n * 28 + 11, none⟩ = some (.int .u64 x2) ∧ W'.cell? ⟨g, 5 + n * 28 + 12, none⟩ = some (.int .u64 x3))
  (first | exact HS.out _ HWR.out | exact HS.out _ HWR.out.drew | exact HS.out _ HB1.out | fail)
  (first | (go_at_call 92; refine cargs (by simp [Act.eval]) ((HRUN.out _ HWR.out.drew).mono ?_); rintro e w1 ⟨kk, st, rfl, hkk, hvd, hb1⟩; have HB1 : Hid (Below w.heap.size w w1) := HWR.out.drew.trans hb1; clear hb1) | fail)
 have HVE : Hid (∀ W : World, Calls Tryz.prog 93 #[.int .u32 (kk : Int)] W fun e w' => e = .returned (.tuple #[.agg #[.int .i64 j1, .int .i64 j2, .int .i64 j3], .nilIface]) ∧ Below W.heap.size W w') := fun W => by
  have := verdict_any kk W hkk; rw [hvd.out] at this; exact this
 clear hkk hvd HS HRUN HWR c3 a7 a8 a9 a10 a11 a12
 go_upto_region 3 with (first
  | (go_at_call 93; refine cargs (by simp [Act.eval]) ((HVE.out _).mono ?_); rintro e w2 ⟨rfl, hb2⟩; have HB2 := Lib.hid (HB1.out.trans (hb2.mono HB1.out.size)); clear hb2)
  | fail)
 have HB3 : Hid (Below w.heap.size w (w2.alloc (.cells #[.int .i64 j1, .int .i64 j2, .int .i64 j3] 149))) := HB2.out.alloc HB2.out.size _; obtain ⟨s0, s1, s2⟩ := cell3 w2 (.int .i64 j1) (.int .i64 j2) (.int .i64 j3) 149 _ (Below.refl _ _); generalize w2.alloc (.cells #[.int .i64 j1, .int .i64 j2, .int .i64 j3] 149) = W3 at *
 have HW3 := Lib.hid (HH.out.below HB3.out); have HF3 : Hid (Frame B w W3) := Frame.of_below HB3.out; have b0 := HCE.out W3 HB3.out _ _ a0; have b8 := HCE.out W3 HB3.out _ _ a8'; have b13 := HCE.out W3 HB3.out _ _ a13; simp only [Nat.add_zero] at b0; have z0 := HFZ.out W3 HB3.out
 by_cases h4 : j1 = 4
 ·subst h4
  have HS4 : Hid (filterS p S n = S.setT n ⟨2, ask, ⟨arch, nr, x0, x1, x2, x3⟩, ptrN nr 0, bf, vs, se⟩) := by
   have := HFS.out; rw [if_pos rfl] at this; exact this
  clear HFS HDO
  have HE4 : Hid (∀ W', Below W3.heap.size (W3.setCell ⟨g, 5 + n * 28, none⟩ (.int .i64 2)) W' → W'.cell? ⟨g, 5 + n * 28 + 13, none⟩ = some (.int .i64 ar) ∧ W'.cell? ⟨g, 5 + n * 28 + 8, none⟩ = some (.int .u32 nr) ∧ (∀ i, W'.frozen? ⟨g, i, none⟩ = false) ∧ WardAt (W'.setCell ⟨g, 5 + n * 28 + 13, none⟩ (.int .i64 (ptrN nr 0 : Nat))) H B g p (S.setT n ⟨2, ask, ⟨arch, nr, x0, x1, x2, x3⟩, ptrN nr 0, bf, vs, se⟩) ∧ Frame B w (W'.setCell ⟨g, 5 + n * 28 + 13, none⟩ (.int .i64 (ptrN nr 0 : Nat)))) := fun W' hb => by
   have e0 : S.t n = ⟨ph, ask, ⟨arch, nr, x0, x1, x2, x3⟩, ar, bf, vs, se⟩ := HT0.out.symm; have k1 := HW3.out.setC hn (j := 0) (v := .int .i64 2) (T := ⟨2, ask, ⟨arch, nr, x0, x1, x2, x3⟩, ar, bf, vs, se⟩) (by omega) (fun b s => by rw [e0]; rfl) (by rw [e0]) (by rw [e0]) ⟨HT.out.asked, HT.out.now, HT.out.arg, HT.out.buf, HT.out.byt, HT.out.seals, HT.out.sealed, HT.out.vals⟩
   have hsz : (W3.setCell ⟨g, 5 + n * 28, none⟩ (.int .i64 2)).heap.size = W3.heap.size := by simp [World.setCell]
   have k2 := k1.below (by rw [Nat.add_zero, hsz]; exact hb); have e1 : (S.setT n ⟨2, ask, ⟨arch, nr, x0, x1, x2, x3⟩, ar, bf, vs, se⟩).t n = ⟨2, ask, ⟨arch, nr, x0, x1, x2, x3⟩, ar, bf, vs, se⟩ := setT_self _ _ _; obtain ⟨A', c', Ap', cp', m', lv', bv', sv', R'⟩ := k2.rep; have q13 := R'.thr hn (j := 13) rfl; have q8 := R'.thr hn (j := 8) rfl; rw [e1] at q13 q8; refine ⟨q13, q8, R'.frozen, ?_, ?_⟩
   ·have k3 := k2.setC hn (j := 13) (v := .int .i64 (ptrN nr 0 : Nat)) (T := ⟨2, ask, ⟨arch, nr, x0, x1, x2, x3⟩, ptrN nr 0, bf, vs, se⟩) (by omega) (fun b s => by rw [e1]; rfl) (by rw [e1]) (by rw [e1]) ⟨HT.out.asked, HT.out.now, ptr_ok nr, HT.out.buf, HT.out.byt, HT.out.seals, HT.out.sealed, HT.out.vals⟩; rw [setT_setT] at k3; exact k3
   ·exact ((HF3.out.trans (Frame.set W3 HLB.out.1 _ _)).trans (Frame.of_below (by rw [hsz]; exact hb))).trans (Frame.set W' HLB.out.1 _ _)
  go_upto_region 5 with fail; obtain ⟨_, q8, _, _⟩ := HE4.out _ (Below.refl _ _); have HQ8 := Lib.hid q8; clear b0 b8 b13 z0 q8 HW3 HF3 HT HT0 HFZ HCE; generalize hW4 : W3.setCell ⟨g, 5 + n * 28, none⟩ (.int .i64 2) = W4 at *
  have HSZ : Hid (W4.heap.size = W3.heap.size) := by show _ = _; rw [← hW4]; simp [World.setCell]
  clear hW4
  go_wp2_with (first | (go_at_call 94; refine cargs (by simp [Act.eval]) ((HPT.out _ HQ8.out).mono ?_); rintro e w5 ⟨rfl, hb5⟩; obtain ⟨q13, _, z13, hx⟩ := HE4.out w5 (by have := HSZ.out; rw [← this]; exact hb5); have z13' := z13 (5 + n * 28 + 13); have HX5 := Lib.hid hx; clear hx hb5 z13) | fail)
  go_returns
  exact ⟨rfl, by rw [HS4.out]; exact HX5.out.1, HX5.out.2⟩
 ·have e4 := HFS.out; rw [if_neg h4] at e4
  by_cases h1 : j1 = 1
  ·subst h1; rw [if_pos rfl] at e4; have HS1 := Lib.hid e4; have d1 : doesS S n (1, j2) = S := if_pos rfl; have C1 := HDO.out W3 HB3.out 1 j2; rw [d1] at C1; have HC1 := Lib.hid C1
   have HA1 : Hid (∀ W, WardAt W H B g p S ∧ Frame B w W → W.cell? ⟨g, 5 + n * 28, none⟩ = some (.int .i64 ph) ∧ W.frozen? ⟨g, 5 + n * 28, none⟩ = false ∧ Hid (WardAt (W.setCell ⟨g, 5 + n * 28, none⟩ (.int .i64 5)) H B g p (setPh S n 5) ∧ Frame B w (W.setCell ⟨g, 5 + n * 28, none⟩ (.int .i64 5)))) := fun W hW => by
    obtain ⟨A', c', Ap', cp', m', lv', bv', sv', R'⟩ := hW.1.rep; have q0 := R'.thr hn (j := 0) rfl; rw [← HT0.out] at q0; refine ⟨q0, R'.frozen _, ?_, hW.2.trans (Frame.set W HLB.out.1 _ _)⟩; have e0 : S.t n = ⟨ph, ask, ⟨arch, nr, x0, x1, x2, x3⟩, ar, bf, vs, se⟩ := HT0.out.symm
    have k3 := hW.1.setC hn (j := 0) (v := .int .i64 5) (T := ⟨5, ask, ⟨arch, nr, x0, x1, x2, x3⟩, ar, bf, vs, se⟩) (by omega) (fun b s => by rw [e0]; rfl) (by rw [e0]) (by rw [e0]) ⟨HT.out.asked, HT.out.now, HT.out.arg, HT.out.buf, HT.out.byt, HT.out.seals, HT.out.sealed, HT.out.vals⟩; unfold setPh; rw [e0]; exact k3
   clear HFS HDO C1 d1 e4 b0 b8 b13 z0 HCE HFZ HPT
   go_wp2_with (first | (go_at_call 45; refine cargs (by simp [Act.eval]) (HC1.out.mono ?_); rintro e w5 ⟨rfl, hx⟩; obtain ⟨q0, z0, HX5⟩ := HA1.out w5 hx.out; clear hx) | fail)
   go_returns
   exact ⟨rfl, by rw [HS1.out]; exact HX5.out.1, HX5.out.2⟩
  ·rw [if_neg h1] at e4; have HS1 := Lib.hid e4; have d1 : decide (j1 = 1) = false := decide_eq_false h1; have C1 := HDO.out W3 HB3.out j1 j2; rw [d1] at C1; have HC1 := Lib.hid C1; clear HFS HDO C1 d1 e4 b0 b8 b13 z0 HCE HFZ HPT
   go_wp2_with (first | (go_at_call 45; refine cargs (by simp [Act.eval]) (HC1.out.mono ?_); rintro e w5 ⟨rfl, hx⟩) | fail)
   go_returns
   exact ⟨rfl, by rw [HS1.out]; exact hx.out.1, hx.out.2⟩
end Go.Proofs.YtmgngapkgcofnabGreatDoor
namespace Go.Proofs.YtmgngapkgcofnabGreatDoor
open Go.RowKit
theorem block_of_add (a : Addr) (n : Nat) : (a.add n).block = a.block := by unfold Addr.add; split <;> rfl
def Reads (w : World) (B size : Nat) (A : Option Addr) (n : Nat) (xs : List Value) : Prop :=
 xs.length = n * size ∧ (0 < n → ∃ ad, A = some ad ∧ ad.block < B ∧ ∀ j u, xs[j]? = some u → w.cell? (ad.add j) = some u)
section
variable {w w' : World} {B B' size n : Nat} {A : Option Addr} {xs : List Value}
theorem Reads.at_ {k : Nat} (h : Reads w B 1 A n xs) (hk : k < n) : ∃ ad u, A = some ad ∧ ad.block < B ∧ xs[k]? = some u ∧ w.cell? (ad.add k) = some u := by
 obtain ⟨ad, e, hb, hc⟩ := h.2 (by omega); have hl : k < xs.length := by have := h.1; omega
 exact ⟨ad, xs[k], e, hb, List.getElem?_eq_getElem hl, hc k _ (List.getElem?_eq_getElem hl)⟩
theorem Reads.keep (h : Reads w B size A n xs) (hk : ∀ p : Addr, p.block < B → w'.cell? p = w.cell? p) : Reads w' B size A n xs :=
 ⟨h.1, fun hn => by
  obtain ⟨ad, e, hb, hc⟩ := h.2 hn; exact ⟨ad, e, hb, fun j u hu => (hk _ (by rw [block_of_add]; exact hb)).trans (hc j u hu)⟩⟩
theorem Reads.below (h : Reads w B size A n xs) (hb : Below B w w') : Reads w' B size A n xs := h.keep fun _ hp => hb.cell hp
theorem Reads.drew (h : Reads w B size A n xs) : Reads w.drew B size A n xs := h
theorem Reads.drewN (h : Reads w B size A n xs) (k : Nat) : Reads (w.drewN k) B size A n xs := h
theorem Reads.alloc (h : Reads w B size A n xs) (hB : B ≤ w.heap.size) (o : Obj) : Reads (w.alloc o) B size A n xs := h.keep fun p hp => World.cell?_alloc_lt w o p (by omega)
theorem Reads.setCell (h : Reads w B size A n xs) {p : Addr} (hB : B ≤ p.block) (u : Value) : Reads (w.setCell p u) B size A n xs :=
 h.keep fun q hq => World.cell?_setCell_other w p q u (fun e => by subst e; omega)
theorem Reads.grown (h : Reads w B size A n xs) {row : Option Nat} (hg : w.grownBy w' row) (hB : B ≤ w.heap.size) (hr : ∀ g, row = some g → B ≤ g) : Reads w' B size A n xs :=
 h.keep fun p hp => World.cell?_of_block (hg.block p.block (by omega) (fun e => by have := hr _ e.symm; omega))
theorem Reads.of_own {base : Nat} {e : TypeId} {c : Nat} (h : w.ownsRow base e size (.slice A n c) n xs) : Reads w w.heap.size size A n xs := by
 refine ⟨h.1, fun hn => ?_⟩; obtain ⟨g, cap, hv, _, hlt⟩ := h.form hn; have hA : A = some ⟨g, 0, none⟩ := by injection hv
 subst hA; exact ⟨_, rfl, hlt, h.cells (g := g) rfl⟩
end
section
variable {P : Program} (w : World)
theorem run_append_of_nil (base : Nat) (t ty e : TypeId) (i : TypeInfo) (size : Nat) (ht : P.underlying t = some (.slice e)) (hi : P.info? e = some i)
  (v : Value) (n : Nat) (xs : List Value) (hown : w.ownsRow base e size v n xs) (c : Nat) : (Builtin.append_ #[t, t] ty #[v, .slice none 0 c]).run P w = .ok v w := by
 rcases hown.2 with ⟨rfl, rfl⟩ | ⟨g, cap, cur, rfl, _, _, hnc, _⟩
 ·simp [Builtin.append_, run_underlying ht, sizeOf, typeInfo, hi, Builtin.lenOf, Builtin.firstCells]
 ·simp [Builtin.append_, run_underlying ht, sizeOf, typeInfo, hi, Builtin.lenOf, Builtin.firstCells, hnc, storeCells]
theorem run_append_any (base : Nat) (t ty e : TypeId) (i : TypeInfo) (z : Value) (size bytes : Nat) (ht : P.underlying t = some (.slice e)) (hi : P.info? e = some i) (hz : i.zero = some z)
  (hsize : i.size = size) (hby : i.bytes = bytes) (hzs : z.cells.size = size) (hsz : 0 < size)
  (v : Value) (n : Nat) (xs : List Value) (hown : w.ownsRow base e size v n xs)
  (B : Nat) (A : Option Addr) (m c : Nat) (news : List Value) (hr : Reads w B size A m news) (h1 : ∀ u ∈ news, u.oneCell' = true)
  (h63 : n + m ≤ maxLen) (hbytes : (n + m) * bytes ≤ 140737488355328) (hbase : base ≤ w.heap.size) :
  ∃ v' w', (Builtin.append_ #[t, t] ty #[v, .slice A m c]).run P w = .ok v' w' ∧ w'.ownsRow base e size v' (n + m) (xs ++ news) ∧ w.grownBy w' v.ownBlock ∧
   (v'.ownBlock = v.ownBlock ∨ v'.ownBlock = some w.heap.size) := by
 rcases A with _ | ad
 ·have hm : m = 0 := by
   rcases Nat.eq_zero_or_pos m with h0 | h0
   ·exact h0
   ·obtain ⟨ad, h, _⟩ := hr.2 h0; cases h
  subst hm; have hn : news = [] := List.eq_nil_of_length_eq_zero (by simpa using hr.1); subst hn; exact ⟨v, w, run_append_of_nil w base t ty e i size ht hi v n xs hown c, by simpa using hown, World.grownBy.refl w _, .inl rfl⟩
 ·have hcells : ∀ j u, news[j]? = some u → w.cell? (ad.add j) = some u := by
   intro j u hu; rcases Nat.eq_zero_or_pos m with h0 | h0
   ·subst h0; have hn : news = [] := List.eq_nil_of_length_eq_zero (by simpa using hr.1); subst hn; simp at hu
   ·obtain ⟨ad', h, _, hc⟩ := hr.2 h0; injection h with h; subst h; exact hc j u hu
  obtain ⟨v', w', hrun, h2, h3, _, h5⟩ := run_append_own_at (P := P) w base t ty e i z size bytes ht hi hz hsize hby hzs hsz v n xs hown ad m c news hr.1 hcells h1 h63 hbytes hbase; exact ⟨v', w', hrun, h2, h3, h5⟩
theorem wp_append_any {o : Oper} {a : Act} {K : Act → World → Prop} {Q : Exit → Act → World → Prop} (s x : Operand) (t : TypeId)
  (ho : o.op = .call { callee := .builtin .append, args := #[s, x], argTypes := #[t, t] })
  (base : Nat) (e : TypeId) (i : TypeInfo) (z : Value) (size bytes : Nat) (ht : P.underlying t = some (.slice e)) (hi : P.info? e = some i) (hz : i.zero = some z)
  (hsize : i.size = size) (hby : i.bytes = bytes) (hzs : z.cells.size = size) (hsz : 0 < size)
  (v : Value) (n : Nat) (xs : List Value) (hs : a.eval s = v) (hown : w.ownsRow base e size v n xs)
  (B : Nat) (A : Option Addr) (m c : Nat) (news : List Value) (hx : a.eval x = .slice A m c) (hr : Reads w B size A m news) (h1 : ∀ u ∈ news, u.oneCell' = true)
  (h63 : n + m ≤ maxLen) (hbytes : (n + m) * bytes ≤ 140737488355328) (hbase : base ≤ w.heap.size)
  (h : ∀ v' w', w'.ownsRow base e size v' (n + m) (xs ++ news) → w.grownBy w' v.ownBlock → (v'.ownBlock = v.ownBlock ∨ v'.ownBlock = some w.heap.size) → K (a.put o.dst v') w') : o.wp P a w K Q := by
 obtain ⟨v', w', hrun, h2, h3, h4⟩ := run_append_any (P := P) w base t o.type e i z size bytes ht hi hz hsize hby hzs hsz v n xs hown B A m c news hr h1 h63 hbytes hbase; unfold Oper.wp execOp; simp only [ho, resolve, invoke, builtin, Sem.run_bind, Sem.run_pure, Result.andThen_ok, List.map_toArray, List.map_cons, List.map_nil, hs, hx, hrun]; exact h v' w' h2 h3 h4
theorem wpList_append_any {ops : Array Oper} {rest : List Oper} {o : Oper} {a : Act} {Q : Exit → Act → World → Prop} (hgd : o.guard = none) (s x : Operand) (t : TypeId)
  (ho : o.op = .call { callee := .builtin .append, args := #[s, x], argTypes := #[t, t] })
  (base : Nat) (e : TypeId) (i : TypeInfo) (z : Value) (size bytes : Nat) (ht : P.underlying t = some (.slice e)) (hi : P.info? e = some i) (hz : i.zero = some z)
  (hsize : i.size = size) (hby : i.bytes = bytes) (hzs : z.cells.size = size) (hsz : 0 < size)
  (v : Value) (n : Nat) (xs : List Value) (hs : a.eval s = v) (hown : w.ownsRow base e size v n xs)
  (B : Nat) (A : Option Addr) (m c : Nat) (news : List Value) (hx : a.eval x = .slice A m c) (hr : Reads w B size A m news) (h1 : ∀ u ∈ news, u.oneCell' = true)
  (h63 : n + m ≤ maxLen) (hbytes : (n + m) * bytes ≤ 140737488355328) (hbase : base ≤ w.heap.size)
  (h : ∀ v' w', w'.ownsRow base e size v' (n + m) (xs ++ news) → w.grownBy w' v.ownBlock → (v'.ownBlock = v.ownBlock ∨ v'.ownBlock = some w.heap.size) → wpList P ops Q rest (a.put o.dst v') w') : wpList P ops Q (o :: rest) a w :=
 wpList_plain hgd fun _ hK => wp_append_any w s x t ho base e i z size bytes ht hi hz hsize hby hzs hsz v n xs hs hown B A m c news hx hr h1 h63 hbytes hbase fun v' w' h2 h3 h4 => hK _ _ (h v' w' h2 h3 h4)
end
end Go.Proofs.YtmgngapkgcofnabGreatDoor
namespace Go.Proofs.YtmgngapkgcofnabGreatDoor
open Go.RowKit Go.PlainAid
theorem logCells_one (l : List EntD) : ∀ u ∈ logCells l, u.oneCell' = true := by
 intro u hu; unfold logCells at hu; obtain ⟨e, _, he⟩ := List.mem_flatMap.1 hu; exact entCells_one e u he
def LogSl (w : World) (H : Nat) (v : Value) (l : List EntD) : Prop := w.ownsRow H 80 21 v l.length (logCells l)
theorem WardRep.logV {w : World} {H : Nat} {B : Nat → Prop} {g : Nat} {p : PolD} {S : WardS} {A : Option Addr} {c : Nat} {Ap : Option Addr} {cp : Nat} {m : Nat} {lv : Value} {bv sv : Nat → Value} (R : WardRep w H B g p S A c Ap cp m lv bv sv) : w.cell? ⟨g, 89, none⟩ = some lv :=
 R.blk.cell (i := 89) (by omega)
theorem WardRep.memV {w : World} {H : Nat} {B : Nat → Prop} {g : Nat} {p : PolD} {S : WardS} {A : Option Addr} {c : Nat} {Ap : Option Addr} {cp : Nat} {m : Nat} {lv : Value} {bv sv : Nat → Value} (R : WardRep w H B g p S A c Ap cp m lv bv sv) : w.cell? ⟨g, 4, none⟩ = some (.pointer (some ⟨m, 0, none⟩)) :=
 R.blk.cell (i := 4) (by omega)
set_option linter.unusedSimpArgs false in
set_option maxRecDepth 100000 in
set_option maxHeartbeats 2000000 in
theorem wardLog_any (H : Nat) (B : Nat → Prop) (g : Nat) (p : PolD) (S : WardS) (w : World) (h : WardAt w H B g p S) :
  Calls Tryz.prog 28 #[.pointer (some ⟨g, 0, none⟩)] w fun e w' => ∃ A c, e = .returned (.slice A S.log.length c) ∧ LogSl w' w.heap.size (.slice A S.log.length c) S.log ∧ Below w.heap.size w w' := by
 obtain ⟨hB, hl, hok, A, c, Ap, cp, m, lv, bv, sv, R⟩ := h; have hfew := hok.few; obtain ⟨Al, cl, rfl⟩ := R.log.form; have c0 := R.logV; have H1 := Lib.hid (logCells_one S.log); have HR := Lib.hid (Reads.of_own R.log.1); obtain ⟨z, hinf, hz2⟩ := entInfo; obtain ⟨i0, hi, hz0, hz1, hz3⟩ := info_parts hinf; clear R hl hok hB hinf; unfold LogSl; generalize logCells S.log = L at *
 generalize S.log.length = N at *
 go_enter Tryz.func28, Tryz.ntmps28
 go_wp2_with (at_builtin; refine wpList_append_any _ rfl (.const (.slice none 0 0)) (.tmp 6) _ rfl w.heap.size 80 i0 z 21 192 Tryz.underlying72 hi hz0 hz1 hz3 hz2 (by omega) (.slice none 0 0) 0 [] rfl ⟨by simp, .inl ⟨rfl, rfl⟩⟩ w.heap.size Al N cl L rfl HR.out H1.out (by unfold maxLen; omega) (by omega) (Nat.le_refl _) ?_; intro v1 w2 hown1 hg1 _; simp only [Nat.zero_add, List.nil_append] at hown1; have hbw2 : Below w.heap.size w w2 := (Below.refl _ _).grown hg1 (Nat.le_refl _) (by simp [Value.ownBlock]); clear hg1)
 go_ret; obtain ⟨A1, c1, rfl⟩ := own_form2 hown1; exact ⟨A1, c1, rfl, hown1, hbw2⟩
set_option linter.unusedSimpArgs false in
set_option maxRecDepth 100000 in
set_option maxHeartbeats 2000000 in
theorem wardMem_any (H : Nat) (B : Nat → Prop) (g : Nat) (p : PolD) (S : WardS) (w : World) (h : WardAt w H B g p S) :
  Calls Tryz.prog 30 #[.pointer (some ⟨g, 0, none⟩)] w fun e w' => e = .returned (.pointer (some ⟨w.heap.size, 0, none⟩)) ∧ MemAt w' (fun k => w.heap.size ≤ k) w.heap.size S.m ∧ Below w.heap.size w w' := by
 obtain ⟨hB, hl, hok, A, c, Ap, cp, m, lv, bv, sv, R⟩ := h; have c0 := R.memV; have HC := Lib.hid (memCopy_any m B S.m w R.mem); clear R hl hok hB; go_enter Tryz.func30, Tryz.ntmps30
 go_wp2_with (go_at_call 41; refine cargs (by simp [Act.eval]) (HC.out.mono ?_); rintro e w1 ⟨rfl, hm, hb⟩)
 go_ret; exact ⟨rfl, hm, hb⟩
end Go.Proofs.YtmgngapkgcofnabGreatDoor
