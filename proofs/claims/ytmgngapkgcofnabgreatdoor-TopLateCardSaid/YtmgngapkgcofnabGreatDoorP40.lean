/- snap: the walk. -/
import Derived.Test.YtmgngapkgcofnabGreatDoorP39
namespace Go.Proofs.YtmgngapkgcofnabGreatDoor
open Go.RowKit Go.PlainAid
theorem snapS_none {S : WardS} {n : Nat} (h : byteS S.m (snapA (S.t n)) = none) : snapS S n = endsS S n 2 14 zeroVals := by unfold snapS; rw [h]
theorem snapS_some {S : WardS} {n : Nat} {b : Int} (h : byteS S.m (snapA (S.t n)) = some b) : snapS S n =
    if kindN (S.t n).now.nr (S.t n).arg = 2 then
      (if b = 0 then S.setT n (furtherT { S.t n with vals := (S.t n).vals.set (S.t n).arg ⟨strOfNums (S.t n).buf, ((S.t n).vals.at_ (S.t n).arg).ip, ((S.t n).vals.at_ (S.t n).arg).port⟩ })
       else if (S.t n).buf.length = 40 then endsS S n 2 36 zeroVals
       else S.setT n { S.t n with buf := (S.t n).buf ++ [b] })
    else if (S.t n).buf.length + 1 < 16 then S.setT n { S.t n with buf := (S.t n).buf ++ [b] }
    else match readA (strOfNums ((S.t n).buf ++ [b])) with
      | none => endsS (S.setT n { S.t n with buf := (S.t n).buf ++ [b] }) n 2 22 zeroVals
      | some (ip, port) => S.setT n (furtherT { S.t n with vals := (S.t n).vals.set (S.t n).arg ⟨((S.t n).vals.at_ (S.t n).arg).path, ip, port⟩ }) := by unfold snapS; rw [h]; rfl
set_option linter.unusedSimpArgs false in
set_option maxRecDepth 100000 in
set_option maxHeartbeats 8000000 in
theorem wardSnap_any (H : Nat) (B : Nat → Prop) (g : Nat) (p : PolD) (S : WardS) (n : Nat) (w : World) (h : WardAt w H B g p S) (hn : n < 3) (hBs : ∀ k, w.heap.size ≤ k → B k) (hfew : S.log.length < 1000000) (har : (S.t n).arg < 4) (hbf : (S.t n).buf.length ≤ 40) :
  Calls Tryz.prog 44 #[.pointer (some ⟨g, 0, none⟩), .int .i64 (n : Int)] w fun e w' => e = .returned (.tuple #[]) ∧ WardAt w' H B g p (snapS S n) ∧ Frame B w w' := by
 have HH := Lib.hid h; obtain ⟨hB, hl, hok, A, c, Ap, cp, m, lv, bv, sv, R⟩ := h; have y3 : (0 : Int) ≤ (n : Int) := by omega
 have y4 : (n : Int) < 3 := by omega
 have har1 : ((S.t n).arg : Int) < 4 := by omega
 have har0 : (0 : Int) ≤ ((S.t n).arg : Int) := by omega
 have hgl := R.lt; obtain ⟨_, _, _, _, c4, _⟩ := R.head; have a8 := R.thr hn (j := 8) rfl; have a13 := R.thr hn (j := 13) rfl; have a14 := R.thr hn (j := 14) rfl; have a9 := R.reg hn har; obtain ⟨Ab, cb, hbv⟩ := (R.buf n hn).form; rw [hbv] at a14; have hcl := (hok.thr n).now; have HOKT := Lib.hid (hok.thr n); have HMOK := Lib.hid R.mem.ok
 have HSELF : Hid (S.setT n (S.t n) = S) := by
  show _ = _; unfold WardS.setT; rw [ifn S.t n]
 have HEN : Hid (∀ (W : World) (S' : WardS) (kind errno : Int), WardAt W H B g p S' → Frame B w W → S'.log.length < 1000000 → Calls Tryz.prog 96 #[.pointer (some ⟨g, 0, none⟩), .int .i64 (n : Int), .int .i64 kind, .int .i64 errno, .agg #[.string ⟨#[]⟩, .int .u32 0, .int .i64 0, .string ⟨#[]⟩, .int .u32 0, .int .i64 0, .string ⟨#[]⟩, .int .u32 0, .int .i64 0, .string ⟨#[]⟩, .int .u32 0, .int .i64 0]] W fun e w' => e = .returned (.tuple #[]) ∧ Hid (WardAt w' H B g p (endsS S' n kind errno zeroVals) ∧ Frame B w w')) := fun W S' kind errno hW hF hS =>
  (wardEnds_any H B g p S' n kind errno zeroVals W hW hn (fun i hi => hBs i (Nat.le_trans hF.size hi)) hS).mono fun e w' ⟨h1, h2, h3⟩ => ⟨h1, h2, hF.trans h3⟩
 obtain ⟨X, hX⟩ : ∃ X, X = snapA (S.t n) := ⟨_, rfl⟩
 have hX1 : X < 18446744073709551616 := by rw [hX]; unfold snapA; omega
 have HBY : Hid (∀ W, Below w.heap.size w W → Calls Tryz.prog 95 #[.pointer (some ⟨m, 0, none⟩), .int .u64 (X : Int)] W fun e w' => e = .returned (byteV S.m X) ∧ W = w') := fun W hb =>
  memByte_any m B S.m X W (R.mem.grown (growBl (r := none) hb) (fun b e => by cases e)) hX1
 have HKI : Hid (∀ (W : World), Below w.heap.size w W → Calls Tryz.prog 98 #[.pointer (some ⟨g, 5 + n * 28, none⟩), .int .i64 ((S.t n).arg : Int)] W fun e w' => e = .returned (.int .i64 (kindN (S.t n).now.nr (S.t n).arg)) ∧ Below W.heap.size W w') := fun W hb =>
  thrKind_any g (5 + n * 28) (S.t n).now.nr (S.t n).arg W ((hb.cell (p := ⟨g, _, none⟩) hgl).trans a8) hcl.2.1.1
 have HCE : Hid (∀ W : World, Below w.heap.size w W → ∀ i u, w.cell? ⟨g, i, none⟩ = some u → W.cell? ⟨g, i, none⟩ = some u) := fun W hb i u hu => (hb.cell (p := ⟨g, i, none⟩) hgl).trans hu; obtain ⟨xa, hxa⟩ : ∃ xa : Nat, (S.t n).now.arg (S.t n).arg = (xa : Int) := ⟨((S.t n).now.arg (S.t n).arg).toNat, by have := (arg_ok hcl (S.t n).arg).1; omega⟩
 rw [hxa] at a9; have hw := wrap_sum xa (S.t n).buf.length; have hXe : (xa + (S.t n).buf.length) % 18446744073709551616 = X := by rw [hX]; unfold snapA; rw [hxa]; simp
 rw [hXe] at hw; have hw1 : IntKind.u64.wrap ((S.t n).buf.length : Int) = ((S.t n).buf.length : Int) := by rw [IntKind.wrap_u64]; omega
 have hw2 : IntKind.u64.wrap ((xa : Int) + IntKind.u64.wrap ((S.t n).buf.length : Int)) = (X : Int) := by rw [hw1, hw]
 clear hw hw1; have HLB := Lib.hid (And.intro hB (And.intro hl (And.intro hBs hfew)))
 have hS : ∀ W, Below w.heap.size w W → W.cell? ⟨g, 4, none⟩ = some (.pointer (some ⟨m, 0, none⟩)) ∧ W.cell? ⟨g, 5 + n * 28 + 13, none⟩ = some (.int .i64 (S.t n).arg) ∧ W.cell? ⟨g, 5 + n * 28 + 9 + (S.t n).arg, none⟩ = some (.int .u64 (xa : Int)) ∧ W.cell? ⟨g, 5 + n * 28 + 14, none⟩ = some (.slice Ab (S.t n).buf.length cb) := fun W hb =>
  ⟨HCE.out W hb _ _ c4, HCE.out W hb _ _ a13, HCE.out W hb _ _ a9, HCE.out W hb _ _ a14⟩
 have HS := Lib.hid hS; have HA14 := Lib.hid a14; have hL : (S.t n).buf.length ≤ 40 := hbf
 cases hby : byteS S.m X with
 | none =>
  have HSS : Hid (snapS S n = endsS S n 2 14 zeroVals) := snapS_none (by rw [← hX]; exact hby); have HBV : Hid (byteV S.m X = .tuple #[.int .u8 0, .iface 105 (.int .i64 5)]) := by show _ = _; unfold byteV; rw [hby]
  have HER : Hid (∀ W, Calls Tryz.prog 97 #[.iface 105 (.int .i64 5)] W fun e w' => e = .returned (.int .i64 14) ∧ w' = W) := fun W => by
   have := errno_any 5 W (by omega); exact this
  have HC := Lib.hid (fun W hW hF => HEN.out W S 2 14 hW hF HLB.out.2.2.2); have HWR := Lib.hid (Below.refl w.heap.size w); clear hby hX hX1 hXe hxa R hok hB hl hBs hfew hcl hS HEN HKI HCE HOKT HMOK HSELF a8 a13 a14 a9 c4 hbv; generalize (S.t n).arg = ar at *
  generalize (S.t n).buf.length = L at *
  go_enter Tryz.func44, Tryz.ntmps44; go_upto_region 1 with fail
  go_region_held3 (fun W : World => W.cell? ⟨g, 4, none⟩ = some (.pointer (some ⟨m, 0, none⟩)) ∧ W.cell? ⟨g, 5 + n * 28 + 13, none⟩ = some (.int .i64 ar) ∧ W.cell? ⟨g, 5 + n * 28 + 9 + ar, none⟩ = some (.int .u64 (xa : Int)) ∧ W.cell? ⟨g, 5 + n * 28 + 14, none⟩ = some (.slice Ab L cb))
   (first | exact HS.out _ HWR.out | exact HS.out _ HWR.out.drew | fail)
   (first | (go_at_call 95; refine cargs (by simp [Act.eval, hw2]) ((HBY.out _ HWR.out.drew).mono ?_); rintro e w1 ⟨rfl, rfl⟩; rw [HBV.out]) | fail)
  clear HS HBY HBV HWR hw2
  go_wp2_with (first
   | (go_at_call 97; refine cargs (by simp [Act.eval]) ((HER.out _).mono ?_); rintro e w5 ⟨rfl, rfl⟩)
   | (go_at_call 96; refine cargs (by simp [Act.eval]) ((HC.out _ (HH.out.below (Below.refl _ _).drew) (Frame.of_below (Below.refl _ _).drew)).mono ?_); rintro e w6 ⟨rfl, hx⟩)
   | fail)
  go_returns
  exact ⟨rfl, by rw [HSS.out]; exact hx.out.1, hx.out.2⟩
 | some b =>
  have HB01 := Lib.hid (byteS_byte R.mem.ok hby); have HSS := Lib.hid (snapS_some (S := S) (n := n) (by rw [← hX]; exact hby)); have HBV : Hid (byteV S.m X = .tuple #[.int .u8 b, .nilIface]) := by show _ = _; unfold byteV; rw [hby]
  have HWR := Lib.hid (Below.refl w.heap.size w)
  have HPT : Hid (∀ (W : World), W.cell? ⟨g, 5 + n * 28 + 8, none⟩ = some (.int .u32 (S.t n).now.nr) → Calls Tryz.prog 94 #[.pointer (some ⟨g, 5 + n * 28, none⟩), .int .i64 (((S.t n).arg : Int) + 1)] W fun e w' => e = .returned (.int .i64 (ptrN (S.t n).now.nr ((S.t n).arg + 1) : Nat)) ∧ Below W.heap.size W w') := fun W hc => by
   have := thrPtr_any g (5 + n * 28) (S.t n).now.nr ((S.t n).arg + 1) W (by rw [Nat.add_assoc]; rw [Nat.add_assoc] at hc; exact hc) hcl.2.1.1 (by omega); rw [Int.natCast_add] at this; exact this
  have HROW := Lib.hid (R.buf n hn); have HBVN := Lib.hid hbv; clear hby hX hX1 hXe hxa R hok hB hl hBs hfew hcl hS HCE HMOK a8 a13 a9 c4 hbv; generalize hT0 : S.t n = T0 at *
  have HT0 := Lib.hid hT0; clear hT0; obtain ⟨ar, hare⟩ : ∃ ar, ar = T0.arg := ⟨_, rfl⟩
  obtain ⟨L, hLe⟩ : ∃ L, L = T0.buf.length := ⟨_, rfl⟩
  obtain ⟨nr, hnre⟩ : ∃ nr, nr = T0.now.nr := ⟨_, rfl⟩
  rw [← hare, ← hLe] at HS; rw [← hLe] at hw2 a14 HA14 hL hbf HROW HBVN; rw [← hare] at har har0 har1; rw [← hare, ← hnre] at HKI HPT HSS; rw [← hLe] at HSS; have HNM := Lib.hid (And.intro hare (And.intro hLe hnre)); clear hare hLe hnre; obtain ⟨kd, hkd⟩ : ∃ kd, kd = kindN nr ar := ⟨_, rfl⟩
  rw [← hkd] at HKI HSS; clear hkd; go_enter Tryz.func44, Tryz.ntmps44; go_upto_region 1 with fail
  go_region_held3 (fun W : World => W.cell? ⟨g, 4, none⟩ = some (.pointer (some ⟨m, 0, none⟩)) ∧ W.cell? ⟨g, 5 + n * 28 + 13, none⟩ = some (.int .i64 ar) ∧ W.cell? ⟨g, 5 + n * 28 + 9 + ar, none⟩ = some (.int .u64 (xa : Int)) ∧ W.cell? ⟨g, 5 + n * 28 + 14, none⟩ = some (.slice Ab L cb))
   (first | exact HS.out _ HWR.out | exact HS.out _ HWR.out.drew | fail)
   (first | (go_at_call 95; refine cargs (by simp [Act.eval, hw2]) ((HBY.out _ HWR.out.drew).mono ?_); rintro e w1 ⟨rfl, rfl⟩; rw [HBV.out]) | fail)
  obtain ⟨_, d13, _, d14⟩ := HS.out w.drew HWR.out.drew
  go_upto_region 5 with (first | (go_at_call 98; refine cargs (by simp [Act.eval]) ((HKI.out _ HWR.out.drew).mono ?_); rintro e w1 ⟨rfl, hb1⟩; have HB1 : Hid (Below w.heap.size w w1) := HWR.out.drew.trans hb1; clear hb1) | fail)
  clear HBY HBV hw2 HKI d13 d14; have HW1 : Hid (WardAt w1 H B g p (S.setT n T0) ∧ Frame B w w1) := ⟨by rw [HSELF.out]; exact HH.out.below HB1.out, Frame.of_below HB1.out⟩
  obtain ⟨_, d13, _, d14⟩ := HS.out w1 HB1.out; clear HS
  by_cases k2 : kd = 2
  ·subst k2; have e1 := HSS.out; rw [if_pos rfl] at e1
   by_cases b0 : b = 0
   ·subst b0; rw [if_pos rfl] at e1; have HS1 := Lib.hid e1; clear e1 HSS
    have hrow : w1.ownsRow 0 5 1 (.slice Ab L cb) L (u8s T0.buf) := by
     have := HROW.out.1; rw [HBVN.out] at this; exact (RowB.grown (B := B) ⟨this, fun b hb => by have := HROW.out.2; rw [HBVN.out] at this; exact this b hb⟩ (growBl (r := none) HB1.out) (fun _ _ e => by cases e)).1
    have hcv : (convert 96 9 (.slice Ab L cb)).run Tryz.prog w1.drew = .ok (.string (strOfNums T0.buf)) w1.drew := conv_own (w := w1.drew) hrow; have hsz : (strOfNums T0.buf).size ≤ 100000 := by rw [strOfNums_size]; have := HNM.out.2.1; omega
    obtain ⟨⟨v15, h15⟩, hset⟩ := HW1.out.1.setPath hn HOKT.out ar har (strOfNums T0.buf) hsz; have z15 := (HW1.out.1.reads hn).2.2.2.2.1; obtain ⟨T1, hT1⟩ : ∃ T1, T1 = ({ T0 with vals := T0.vals.set ar ⟨strOfNums T0.buf, (T0.vals.at_ ar).ip, (T0.vals.at_ ar).port⟩ } : ThrS) := ⟨_, rfl⟩
    have HOK1 : Hid (T1.ok) := by
     rw [hT1]; exact ⟨HOKT.out.asked, HOKT.out.now, HOKT.out.arg, HOKT.out.buf, HOKT.out.byt, HOKT.out.seals, HOKT.out.sealed, valsSet_ok HOKT.out.vals ar ⟨hsz, (vals_ok1 HOKT.out.vals ar).2⟩⟩
    have HT1 : Hid (T1.arg = ar ∧ T1.now.nr = nr) := by rw [hT1]; exact ⟨HNM.out.1.symm, HNM.out.2.2.symm⟩
    rw [← hT1] at hset HS1; have HW2 : Hid (∀ W : World, Below (w1.setCell ⟨g, 5 + n * 28 + 15 + ar * 3, none⟩ (.string (strOfNums T0.buf))).heap.size (w1.setCell ⟨g, 5 + n * 28 + 15 + ar * 3, none⟩ (.string (strOfNums T0.buf))) W → WardAt W H B g p (S.setT n T1) ∧ Frame B w W) := fun W hb => ⟨hset.below hb, (HW1.out.2.trans (Frame.set w1 HLB.out.1 _ _)).trans (Frame.of_below hb)⟩
    clear hset hrow hsz hT1; generalize strOfNums T0.buf = sx at *
    go_upto_region 10 with fail
    go_cut [4] (fun tv wx => tv = .pointer (some ⟨g, 5 + n * 28, none⟩) ∧ Hid (WardAt wx H B g p (S.setT n T1) ∧ Frame B w wx))
    case first =>
     have z15' := z15 (5 + n * 28 + 15 + ar * 3)
     go_region_law (fail)
     all_goals
      go_wp2_with fail
      go_meet
      exact ⟨rfl, HW2.out _ (by first | exact Below.refl _ _ | exact (Below.refl _ _).drew)⟩
    case rest =>
     obtain ⟨rfl, HT⟩ := hcut; obtain ⟨q0, q8, q13, ⟨v14, q14⟩, qf, ql⟩ := HT.out.1.reads hn; rw [HT1.out.1] at q13; rw [HT1.out.2] at q8; have f14 := qf (5 + n * 28 + 14); have HN := Lib.hid (HT.out.1.setNil hn HOK1.out); have HNF := Lib.hid (HT.out.2.trans (Frame.set wc HLB.out.1 (5 + n * 28 + 14) (.slice none 0 0))); clear qf; go_upto_region 18 with fail
     generalize wc.setCell ⟨g, 5 + n * 28 + 14, none⟩ (.slice none 0 0) = W4 at *
     obtain ⟨_, r8, r13, _, rf, rl⟩ := HN.out.reads hn; have r13' : W4.cell? ⟨g, 5 + n * 28 + 13, none⟩ = some (.int .i64 (ar : Int)) := by rw [← HT1.out.1]; exact r13
     have r8' : W4.cell? ⟨g, 5 + n * 28 + 8, none⟩ = some (.int .u32 nr) := by rw [← HT1.out.2]; exact r8
     have HP4 := Lib.hid (HPT.out W4 r8'); obtain ⟨q, hq⟩ : ∃ q, q = ptrN nr (ar + 1) := ⟨_, rfl⟩
     rw [← hq] at HP4; have hq4 : q ≤ 4 := by rw [hq]; exact (ptrN_le nr (ar + 1) (by omega)).2.1
     have HFT : Hid (furtherT T1 = if q = 4 then { T1 with buf := [], arg := q, phase := 3 } else { T1 with buf := [], arg := q }) := by
      show _ = _; unfold furtherT; rw [HT1.out.1, HT1.out.2, ← hq]
      by_cases h4 : q = 4
      ·rw [if_pos h4, if_pos h4]
      ·rw [if_neg h4, if_neg h4]
     have HOK2 : Hid (({ T1 with buf := [] } : ThrS).ok ∧ ({ T1 with buf := [], arg := q } : ThrS).ok) :=
      ⟨⟨HOK1.out.asked, HOK1.out.now, HOK1.out.arg, by simp, (fun b hb => by cases hb), HOK1.out.seals, HOK1.out.sealed, HOK1.out.vals⟩, ⟨HOK1.out.asked, HOK1.out.now, hq4, by simp, (fun b hb => by cases hb), HOK1.out.seals, HOK1.out.sealed, HOK1.out.vals⟩⟩
     have HR4 : Hid (∀ W, Below W4.heap.size W4 W → W.cell? ⟨g, 5 + n * 28 + 13, none⟩ = some (.int .i64 (ar : Int)) ∧ W.frozen? ⟨g, 5 + n * 28 + 13, none⟩ = false ∧ WardAt (W.setCell ⟨g, 5 + n * 28 + 13, none⟩ (.int .i64 (q : Int))) H B g p (S.setT n { T1 with buf := [], arg := q }) ∧ Frame B w (W.setCell ⟨g, 5 + n * 28 + 13, none⟩ (.int .i64 (q : Int)))) := fun W hb =>
      ⟨(hb.cell (p := ⟨g, _, none⟩) rl).trans r13', (World.frozen?_of_block (a := ⟨g, _, none⟩) (hb.block g rl)).trans (rf _), (HN.out.below hb).setArg hn HOK2.out.1 q hq4, (HNF.out.trans (Frame.of_below hb)).trans (Frame.set W HLB.out.1 _ _)⟩
     clear q0 q8 q13 q14 f14 ql r8 r13 hq HT HPT rf
     go_upto_region 19 with (first | (go_at_call 94; refine cargs (by simp [Act.eval]) (HP4.out.mono ?_); rintro e w5 ⟨rfl, hb5⟩; obtain ⟨s13, sf13, hx⟩ := HR4.out w5 hb5; have HX5 := Lib.hid hx; clear hx hb5) | fail)
     generalize w5.setCell ⟨g, 5 + n * 28 + 13, none⟩ (.int .i64 (q : Int)) = W6 at *
     obtain ⟨t0, _, t13, _, tf, _⟩ := HX5.out.1.reads hn; have tf0 := tf (5 + n * 28); clear tf s13 sf13 r13' r8'
     by_cases h4 : q = 4
     ·subst h4; have e5 := HFT.out; rw [if_pos rfl] at e5
      have HS2 : Hid (snapS S n = S.setT n { T1 with buf := [], arg := 4, phase := 3 }) := by
       have := HS1.out; rw [e5] at this; exact this
      have HXF : Hid (WardAt (W6.setCell ⟨g, 5 + n * 28, none⟩ (.int .i64 3)) H B g p (S.setT n { T1 with buf := [], arg := 4, phase := 3 }) ∧ Frame B w (W6.setCell ⟨g, 5 + n * 28, none⟩ (.int .i64 3))) := ⟨HX5.out.1.setPhase hn HOK2.out.2 3, HX5.out.2.trans (Frame.set W6 HLB.out.1 _ _)⟩
      clear e5 HFT
      go_wp2_with fail
      go_returns
      exact ⟨rfl, by rw [HS2.out]; exact HXF.out.1, HXF.out.2⟩
     ·have e5 := HFT.out; rw [if_neg h4] at e5
      have HS2 : Hid (snapS S n = S.setT n { T1 with buf := [], arg := q }) := by
       have := HS1.out; rw [e5] at this; exact this
      have hq5 : ¬ (q : Int) = 4 := by omega
      have hq6 : decide ((q : Int) = 4) = false := decide_eq_false hq5; clear e5 HFT
      go_wp2_with fail
      go_returns
      exact ⟨rfl, by rw [HS2.out]; exact HX5.out.1, HX5.out.2⟩
   ·rw [if_neg b0] at e1; have b1 : ¬ b = 0 := b0; have b2 : decide (b = 0) = false := decide_eq_false b0
    by_cases h40 : L = 40
    ·subst h40; rw [if_pos rfl] at e1; have HS1 := Lib.hid e1; have HC := Lib.hid (HEN.out w1 S 2 36 (by have := HW1.out.1; rw [HSELF.out] at this; exact this) HW1.out.2 HLB.out.2.2.2); clear HSS HEN HPT e1 HSELF HW1 HH
     go_wp2_with (first
      | (go_at_call 96; refine cargs (by simp [Act.eval]) (HC.out.mono ?_); rintro e w6 ⟨rfl, hx⟩)
      | fail)
     go_returns
     exact ⟨rfl, by rw [HS1.out]; exact hx.out.1, hx.out.2⟩
    ·rw [if_neg h40] at e1; have HS1 := Lib.hid e1; have h40' : ¬ (L : Int) = 40 := by omega
     have h40d : decide ((L : Int) = 40) = false := decide_eq_false h40'; obtain ⟨i0, hi, hz0, hz1, hz2⟩ := info_parts u8Info; obtain ⟨hrb, hput0⟩ := HW1.out.1.bufPut (b := b) (T := { T0 with buf := T0.buf ++ [b] }) hn (fun i hi => HLB.out.2.2.1 i (Nat.le_trans HB1.out.size hi)) d14; rw [setT_self] at hrb
     have HRW : Hid (w1.ownsRow 0 5 1 (.slice Ab L cb) L (u8s T0.buf)) := by
      have := hrb.1; rw [← HNM.out.2.1] at this; exact this
     have HPUT : Hid (∀ (o : Obj) (w7 : World) (g1 cap : Nat), w7.ownsRow 0 5 1 (.slice (some ⟨g1, 0, none⟩) (L + 1) cap) (L + 1) (u8s T0.buf ++ [.int .u8 b]) → (w1.alloc o).grownBy w7 (Value.slice Ab L cb).ownBlock → ((Value.slice Ab L cb).ownBlock = some g1 ∨ g1 = (w1.alloc o).heap.size) →
       (w7.cell? ⟨g, 5 + n * 28 + 14, none⟩ = some (.slice Ab L cb) ∧ w7.frozen? ⟨g, 5 + n * 28 + 14, none⟩ = false) ∧ (WardAt (w7.setCell ⟨g, 5 + n * 28 + 14, none⟩ (.slice (some ⟨g1, 0, none⟩) (L + 1) cap)) H B g p (S.setT n { T0 with buf := T0.buf ++ [b] }) ∧ Frame B w (w7.setCell ⟨g, 5 + n * 28 + 14, none⟩ (.slice (some ⟨g1, 0, none⟩) (L + 1) cap)) ∧
        (convert 96 9 (.slice (some ⟨g1, 0, none⟩) (L + 1) cap)).run Tryz.prog (w7.setCell ⟨g, 5 + n * 28 + 14, none⟩ (.slice (some ⟨g1, 0, none⟩) (L + 1) cap)) = .ok (.string (strOfNums (T0.buf ++ [b]))) (w7.setCell ⟨g, 5 + n * 28 + 14, none⟩ (.slice (some ⟨g1, 0, none⟩) (L + 1) cap)) ∧
        (w7.setCell ⟨g, 5 + n * 28 + 14, none⟩ (.slice (some ⟨g1, 0, none⟩) (L + 1) cap)).cell? ⟨g, 5 + n * 28 + 14, none⟩ = some (.slice (some ⟨g1, 0, none⟩) (L + 1) cap))) := fun o w7 g1 cap hown hgrow hat => by
      have hL2 := HNM.out.2.1; subst hL2; have hsz : (w1.alloc o).heap.size = w1.heap.size + 1 := by simp
      rw [setT_self] at hput0
      obtain ⟨k1, k2, k3⟩ := hput0 hown (grown_via ((Below.refl _ _).alloc (Nat.le_refl _) o) hgrow) (hat.imp id (fun e => by rw [e, hsz]; omega)) (fun b0 s v => rfl) rfl rfl
       ⟨HOKT.out.asked, HOKT.out.now, HOKT.out.arg, by simp; omega, (fun b' hb' => by
         rcases List.mem_append.1 hb' with h | h
         ·exact HOKT.out.byt b' h
         ·rw [List.mem_singleton.1 h]; exact HB01.out), HOKT.out.seals, HOKT.out.sealed, HOKT.out.vals⟩
      rw [setT_setT] at k2; have c14 := World.cell?_setCell_same (v := Value.slice (some ⟨g1, 0, none⟩) (T0.buf.length + 1) cap) w7 ⟨g, 5 + n * 28 + 14, none⟩ k1.1; refine ⟨k1, k2, HW1.out.2.trans k3, ?_, c14⟩; obtain ⟨A8, c8, Ap8, cp8, m8, lv8, bv8, sv8, R8⟩ := k2.rep; have q14 := R8.thr hn (j := 14) rfl; rw [c14] at q14; simp only [Option.some.injEq] at q14; have hr := (R8.buf n hn).1
      rw [← q14, setT_self] at hr; exact conv_own hr
     clear hrb hput0; clear HSS HEN HPT e1 HW1 HH HSELF
     go_wp2_with (first
       | (at_builtin; refine wpList_append_lies _ rfl _ _ _ rfl 0 5 i0 _ 1 1 Tryz.underlying96 hi hz0 hz1 hz2 rfl (by omega) _ L (u8s T0.buf) rfl (HRW.out.alloc _) ⟨w1.heap.size, 0, none⟩ 1 1 [.int .u8 b] rfl rfl (cell1 _ _ _ _ (heap_alloc_new _ _)) (by simp [Value.oneCell']) (by omega) (by unfold maxLen; omega) (by omega) (by simp) _ rfl ?_; intro g1 cap1 w7 hown hgrow hat _; obtain ⟨⟨p14, z14⟩, hput⟩ := HPUT.out _ w7 g1 cap1 hown hgrow hat; have HPT7 := Lib.hid hput; clear hown hgrow hat hput)
       | fail)
     go_returns
     exact ⟨rfl, by rw [HS1.out]; exact HPT7.out.1, HPT7.out.2.1⟩
  ·have e1 := HSS.out; rw [if_neg k2] at e1; have k3 : decide (kd = 2) = false := decide_eq_false k2; obtain ⟨i0, hi, hz0, hz1, hz2⟩ := info_parts u8Info; obtain ⟨hrb, hput0⟩ := HW1.out.1.bufPut (b := b) (T := { T0 with buf := T0.buf ++ [b] }) hn (fun i hi => HLB.out.2.2.1 i (Nat.le_trans HB1.out.size hi)) d14; rw [setT_self] at hrb
   have HRW : Hid (w1.ownsRow 0 5 1 (.slice Ab L cb) L (u8s T0.buf)) := by
    have := hrb.1; rw [← HNM.out.2.1] at this; exact this
   have HPUT : Hid (∀ (o : Obj) (w7 : World) (g1 cap : Nat), w7.ownsRow 0 5 1 (.slice (some ⟨g1, 0, none⟩) (L + 1) cap) (L + 1) (u8s T0.buf ++ [.int .u8 b]) → (w1.alloc o).grownBy w7 (Value.slice Ab L cb).ownBlock → ((Value.slice Ab L cb).ownBlock = some g1 ∨ g1 = (w1.alloc o).heap.size) →
     (w7.cell? ⟨g, 5 + n * 28 + 14, none⟩ = some (.slice Ab L cb) ∧ w7.frozen? ⟨g, 5 + n * 28 + 14, none⟩ = false) ∧ (WardAt (w7.setCell ⟨g, 5 + n * 28 + 14, none⟩ (.slice (some ⟨g1, 0, none⟩) (L + 1) cap)) H B g p (S.setT n { T0 with buf := T0.buf ++ [b] }) ∧ Frame B w (w7.setCell ⟨g, 5 + n * 28 + 14, none⟩ (.slice (some ⟨g1, 0, none⟩) (L + 1) cap)) ∧
      (convert 96 9 (.slice (some ⟨g1, 0, none⟩) (L + 1) cap)).run Tryz.prog (w7.setCell ⟨g, 5 + n * 28 + 14, none⟩ (.slice (some ⟨g1, 0, none⟩) (L + 1) cap)) = .ok (.string (strOfNums (T0.buf ++ [b]))) (w7.setCell ⟨g, 5 + n * 28 + 14, none⟩ (.slice (some ⟨g1, 0, none⟩) (L + 1) cap)) ∧
      (w7.setCell ⟨g, 5 + n * 28 + 14, none⟩ (.slice (some ⟨g1, 0, none⟩) (L + 1) cap)).cell? ⟨g, 5 + n * 28 + 14, none⟩ = some (.slice (some ⟨g1, 0, none⟩) (L + 1) cap))) := fun o w7 g1 cap hown hgrow hat => by
    have hL2 := HNM.out.2.1; subst hL2; have hsz : (w1.alloc o).heap.size = w1.heap.size + 1 := by simp
    rw [setT_self] at hput0
    obtain ⟨k1, k2, k3⟩ := hput0 hown (grown_via ((Below.refl _ _).alloc (Nat.le_refl _) o) hgrow) (hat.imp id (fun e => by rw [e, hsz]; omega)) (fun b0 s v => rfl) rfl rfl
     ⟨HOKT.out.asked, HOKT.out.now, HOKT.out.arg, by simp; omega, (fun b' hb' => by
       rcases List.mem_append.1 hb' with h | h
       ·exact HOKT.out.byt b' h
       ·rw [List.mem_singleton.1 h]; exact HB01.out), HOKT.out.seals, HOKT.out.sealed, HOKT.out.vals⟩
    rw [setT_setT] at k2; have c14 := World.cell?_setCell_same (v := Value.slice (some ⟨g1, 0, none⟩) (T0.buf.length + 1) cap) w7 ⟨g, 5 + n * 28 + 14, none⟩ k1.1; refine ⟨k1, k2, HW1.out.2.trans k3, ?_, c14⟩; obtain ⟨A8, c8, Ap8, cp8, m8, lv8, bv8, sv8, R8⟩ := k2.rep; have q14 := R8.thr hn (j := 14) rfl; rw [c14] at q14; simp only [Option.some.injEq] at q14; have hr := (R8.buf n hn).1
    rw [← q14, setT_self] at hr; exact conv_own hr
   clear hrb hput0
   by_cases h16 : L + 1 < 16
   ·rw [if_pos h16] at e1; have HS1 := Lib.hid e1; have h16' : (L : Int) + 1 < 16 := by omega
    clear HSS HEN HPT e1 HW1 HH HSELF
    go_wp2_with (first
      | (at_builtin; refine wpList_append_lies _ rfl _ _ _ rfl 0 5 i0 _ 1 1 Tryz.underlying96 hi hz0 hz1 hz2 rfl (by omega) _ L (u8s T0.buf) rfl (HRW.out.alloc _) ⟨w1.heap.size, 0, none⟩ 1 1 [.int .u8 b] rfl rfl (cell1 _ _ _ _ (heap_alloc_new _ _)) (by simp [Value.oneCell']) (by omega) (by unfold maxLen; omega) (by omega) (by simp) _ rfl ?_; intro g1 cap1 w7 hown hgrow hat _; obtain ⟨⟨p14, z14⟩, hput⟩ := HPUT.out _ w7 g1 cap1 hown hgrow hat; have HPT7 := Lib.hid hput; clear hown hgrow hat hput)
      | fail)
    go_returns
    exact ⟨rfl, by rw [HS1.out]; exact HPT7.out.1, HPT7.out.2.1⟩
   ·rw [if_neg h16] at e1; have h16' : ¬ (L : Int) + 1 < 16 := by omega
    obtain ⟨T2, hT2⟩ : ∃ T2, T2 = ({ T0 with buf := T0.buf ++ [b] } : ThrS) := ⟨_, rfl⟩
    rw [← hT2] at HPUT e1; have HRD : Hid (∀ W, Calls Tryz.prog 99 #[.string (strOfNums (T0.buf ++ [b]))] W fun e w' => e = readE (readA (strOfNums (T0.buf ++ [b]))) ∧ Below W.heap.size W w') := fun W => read_any _ W
    have HT2 : Hid (T2.ok ∧ T2.arg = ar ∧ T2.now.nr = nr ∧ T2.vals = T0.vals ∧ ∀ v, furtherT { T0 with vals := v } = furtherT { T2 with vals := v }) := by
     rw [hT2]
     exact ⟨⟨HOKT.out.asked, HOKT.out.now, HOKT.out.arg, by simp; have := HNM.out.2.1; omega, (fun b' hb' => by
      rcases List.mem_append.1 hb' with h | h
      ·exact HOKT.out.byt b' h
      ·rw [List.mem_singleton.1 h]; exact HB01.out), HOKT.out.seals, HOKT.out.sealed, HOKT.out.vals⟩, HNM.out.1.symm, HNM.out.2.2.symm, rfl, fun v => rfl⟩
    cases hrd : readA (strOfNums (T0.buf ++ [b])) with
    | none =>
     rw [hrd] at e1 HRD; have HS1 := Lib.hid e1; have HRE : Hid (readE none = .returned (.tuple #[.int .u32 0, .int .i64 0, .iface 105 (.int .i64 3)])) := rfl; have HER : Hid (∀ W, Calls Tryz.prog 97 #[.iface 105 (.int .i64 3)] W fun e w' => e = .returned (.int .i64 22) ∧ w' = W) := fun W => errno_any 3 W (by omega); clear HSS HPT HW1 HH HSELF hrd e1 hT2; generalize strOfNums (T0.buf ++ [b]) = sx at *
     go_upto_region 12 with (first
      | (at_builtin; refine wpList_append_lies _ rfl _ _ _ rfl 0 5 i0 _ 1 1 Tryz.underlying96 hi hz0 hz1 hz2 rfl (by omega) _ L (u8s T0.buf) rfl (HRW.out.alloc _) ⟨w1.heap.size, 0, none⟩ 1 1 [.int .u8 b] rfl rfl (cell1 _ _ _ _ (heap_alloc_new _ _)) (by simp [Value.oneCell']) (by omega) (by unfold maxLen; omega) (by omega) (by simp) _ rfl ?_; intro g1 cap1 w7 hown hgrow hat _; obtain ⟨⟨p14, z14⟩, hput⟩ := HPUT.out _ w7 g1 cap1 hown hgrow hat; have HPT7 := Lib.hid hput; clear hown hgrow hat hput)
      | fail)
     generalize w7.setCell ⟨g, 5 + n * 28 + 14, none⟩ (.slice (some ⟨g1, 0, none⟩) (L + 1) cap1) = W8 at *
     have hcv := HPT7.out.2.2.1; have hc14 := HPT7.out.2.2.2
     go_wp2_with (first
      | (go_at_call 99; refine cargs (by simp [Act.eval]) ((HRD.out _).mono ?_); rintro e w9 ⟨rfl, hb9⟩; rw [HRE.out]; have HB9 := Lib.hid hb9; clear hb9)
      | (go_at_call 97; refine cargs (by simp [Act.eval]) ((HER.out _).mono ?_); rintro e w5 ⟨rfl, rfl⟩)
      | (go_at_call 96; refine cargs (by simp [Act.eval]) ((HEN.out _ (S.setT n T2) 2 22 (HPT7.out.1.below HB9.out) (HPT7.out.2.1.trans (Frame.of_below HB9.out)) HLB.out.2.2.2).mono ?_); rintro e w6 ⟨rfl, hx⟩)
      | fail)
     go_returns
     exact ⟨rfl, by rw [HS1.out]; exact hx.out.1, hx.out.2⟩
    | some ipp =>
     obtain ⟨ip, port⟩ := ipp; rw [hrd] at e1 HRD; simp only at e1; have HRE : Hid (readE (some (ip, port)) = .returned (.tuple #[.int .u32 (ip : Nat), .int .i64 (port : Nat), .nilIface])) := rfl
     have hip : ip < 4294967296 := by
      unfold readA at hrd; split at hrd
      ·simp only [Option.some.injEq, Prod.mk.injEq] at hrd; rw [← hrd.1]; exact ipOf_lt _
      ·cases hrd
     obtain ⟨T1, hT1⟩ : ∃ T1, T1 = ({ T2 with vals := T2.vals.set ar ⟨(T2.vals.at_ ar).path, (ip : Int), (port : Int)⟩ } : ThrS) := ⟨_, rfl⟩
     have HS1 : Hid (snapS S n = S.setT n (furtherT T1)) := by
      show _ = _; rw [e1, hT1, HT2.out.2.2.2.1, ← HT2.out.2.2.2.2]
     have HOK1 : Hid (T1.ok) := by
      have h2 := HT2.out.1; rw [hT1]; exact ⟨h2.asked, h2.now, h2.arg, h2.buf, h2.byt, h2.seals, h2.sealed, valsSet_ok h2.vals ar ⟨(vals_ok1 h2.vals ar).1, (show 0 ≤ (ip : Int) ∧ (ip : Int) < 4294967296 by omega)⟩⟩
     have HT1 : Hid (T1.arg = ar ∧ T1.now.nr = nr) := by rw [hT1]; exact ⟨HT2.out.2.1, HT2.out.2.2.1⟩
     have HSET : Hid (∀ W : World, WardAt W H B g p (S.setT n T2) → (∃ v, W.cell? ⟨g, 5 + n * 28 + 15 + ar * 3 + 1, none⟩ = some v) ∧ (∃ v, W.cell? ⟨g, 5 + n * 28 + 15 + ar * 3 + 2, none⟩ = some v) ∧
       WardAt ((W.setCell ⟨g, 5 + n * 28 + 15 + ar * 3 + 1, none⟩ (.int .u32 (ip : Int))).setCell ⟨g, 5 + n * 28 + 15 + ar * 3 + 2, none⟩ (.int .i64 (port : Int))) H B g p (S.setT n T1)) := fun W hW => by
      rw [hT1]; exact hW.setAddr hn HT2.out.1 ar har (ip : Int) (port : Int) (by omega)
     clear HSS HW1 HH HSELF hrd e1 hT2 hT1 hip HEN; generalize strOfNums (T0.buf ++ [b]) = sx at *
     go_upto_region 12 with (first
      | (at_builtin; refine wpList_append_lies _ rfl _ _ _ rfl 0 5 i0 _ 1 1 Tryz.underlying96 hi hz0 hz1 hz2 rfl (by omega) _ L (u8s T0.buf) rfl (HRW.out.alloc _) ⟨w1.heap.size, 0, none⟩ 1 1 [.int .u8 b] rfl rfl (cell1 _ _ _ _ (heap_alloc_new _ _)) (by simp [Value.oneCell']) (by omega) (by unfold maxLen; omega) (by omega) (by simp) _ rfl ?_; intro g1 cap1 w7 hown hgrow hat _; obtain ⟨⟨p14, z14⟩, hput⟩ := HPUT.out _ w7 g1 cap1 hown hgrow hat; have HPT7 := Lib.hid hput; clear hown hgrow hat hput)
      | fail)
     generalize w7.setCell ⟨g, 5 + n * 28 + 14, none⟩ (.slice (some ⟨g1, 0, none⟩) (L + 1) cap1) = W8 at *
     have hcv := HPT7.out.2.2.1; have hc14 := HPT7.out.2.2.2
     go_upto_region 16 with (first
      | (go_at_call 99; refine cargs (by simp [Act.eval]) ((HRD.out _).mono ?_); rintro e w9 ⟨rfl, hb9⟩; rw [HRE.out]; have HB9 := Lib.hid hb9; clear hb9)
      | fail)
     have HW9 : Hid (WardAt w9 H B g p (S.setT n T2) ∧ Frame B w w9) := ⟨HPT7.out.1.below HB9.out, HPT7.out.2.1.trans (Frame.of_below HB9.out)⟩
     obtain ⟨⟨v16, h16a⟩, ⟨v17, h17a⟩, hset⟩ := HSET.out w9 HW9.out.1; obtain ⟨_, _, g13, _, gf, ggl⟩ := HW9.out.1.reads hn; rw [HT2.out.2.1] at g13; have gf1 := gf (5 + n * 28 + 15 + ar * 3 + 1); have gf2 := gf (5 + n * 28 + 15 + ar * 3 + 2)
     have HW2 : Hid (∀ W : World, Below ((w9.setCell ⟨g, 5 + n * 28 + 15 + ar * 3 + 1, none⟩ (.int .u32 (ip : Int))).setCell ⟨g, 5 + n * 28 + 15 + ar * 3 + 2, none⟩ (.int .i64 (port : Int))).heap.size ((w9.setCell ⟨g, 5 + n * 28 + 15 + ar * 3 + 1, none⟩ (.int .u32 (ip : Int))).setCell ⟨g, 5 + n * 28 + 15 + ar * 3 + 2, none⟩ (.int .i64 (port : Int))) W → WardAt W H B g p (S.setT n T1) ∧ Frame B w W) := fun W hb =>
      ⟨hset.below hb, ((HW9.out.2.trans (Frame.set w9 HLB.out.1 _ _)).trans (Frame.set _ HLB.out.1 _ _)).trans (Frame.of_below hb)⟩
     have hcm := World.setCell_comm_off w9 g (5 + n * 28 + 15 + ar * 3 + 1) (5 + n * 28 + 15 + ar * 3 + 2) (.int .u32 (ip : Int)) (.int .i64 (port : Int)) (by omega); have HCM := Lib.hid hcm; clear hset gf hcm
     go_cut [4] (fun tv wx => tv = .pointer (some ⟨g, 5 + n * 28, none⟩) ∧ Hid (WardAt wx H B g p (S.setT n T1) ∧ Frame B w wx))
     case first =>
      go_region_law (fail)
      all_goals
       go_wp2_with fail
       go_meet
       first
        | exact ⟨rfl, HW2.out _ (by first | exact Below.refl _ _ | exact (Below.refl _ _).drew)⟩
        | exact ⟨rfl, HW2.out _ (by rw [HCM.out]; first | exact Below.refl _ _ | exact (Below.refl _ _).drew)⟩
     case rest =>
      obtain ⟨rfl, HT⟩ := hcut; obtain ⟨q0, q8, q13, ⟨v14, q14⟩, qf, ql⟩ := HT.out.1.reads hn; rw [HT1.out.1] at q13; rw [HT1.out.2] at q8; have f14 := qf (5 + n * 28 + 14); have HN := Lib.hid (HT.out.1.setNil hn HOK1.out); have HNF := Lib.hid (HT.out.2.trans (Frame.set wc HLB.out.1 (5 + n * 28 + 14) (.slice none 0 0))); clear qf; go_upto_region 18 with fail
      generalize wc.setCell ⟨g, 5 + n * 28 + 14, none⟩ (.slice none 0 0) = W4 at *
      obtain ⟨_, r8, r13, _, rf, rl⟩ := HN.out.reads hn; have r13' : W4.cell? ⟨g, 5 + n * 28 + 13, none⟩ = some (.int .i64 (ar : Int)) := by rw [← HT1.out.1]; exact r13
      have r8' : W4.cell? ⟨g, 5 + n * 28 + 8, none⟩ = some (.int .u32 nr) := by rw [← HT1.out.2]; exact r8
      have HP4 := Lib.hid (HPT.out W4 r8'); obtain ⟨q, hq⟩ : ∃ q, q = ptrN nr (ar + 1) := ⟨_, rfl⟩
      rw [← hq] at HP4; have hq4 : q ≤ 4 := by rw [hq]; exact (ptrN_le nr (ar + 1) (by omega)).2.1
      have HFT : Hid (furtherT T1 = if q = 4 then { T1 with buf := [], arg := q, phase := 3 } else { T1 with buf := [], arg := q }) := by
       show _ = _; unfold furtherT; rw [HT1.out.1, HT1.out.2, ← hq]
       by_cases h4 : q = 4
       ·rw [if_pos h4, if_pos h4]
       ·rw [if_neg h4, if_neg h4]
      have HOK2 : Hid (({ T1 with buf := [] } : ThrS).ok ∧ ({ T1 with buf := [], arg := q } : ThrS).ok) :=
       ⟨⟨HOK1.out.asked, HOK1.out.now, HOK1.out.arg, by simp, (fun b hb => by cases hb), HOK1.out.seals, HOK1.out.sealed, HOK1.out.vals⟩, ⟨HOK1.out.asked, HOK1.out.now, hq4, by simp, (fun b hb => by cases hb), HOK1.out.seals, HOK1.out.sealed, HOK1.out.vals⟩⟩
      have HR4 : Hid (∀ W, Below W4.heap.size W4 W → W.cell? ⟨g, 5 + n * 28 + 13, none⟩ = some (.int .i64 (ar : Int)) ∧ W.frozen? ⟨g, 5 + n * 28 + 13, none⟩ = false ∧ WardAt (W.setCell ⟨g, 5 + n * 28 + 13, none⟩ (.int .i64 (q : Int))) H B g p (S.setT n { T1 with buf := [], arg := q }) ∧ Frame B w (W.setCell ⟨g, 5 + n * 28 + 13, none⟩ (.int .i64 (q : Int)))) := fun W hb =>
       ⟨(hb.cell (p := ⟨g, _, none⟩) rl).trans r13', (World.frozen?_of_block (a := ⟨g, _, none⟩) (hb.block g rl)).trans (rf _), (HN.out.below hb).setArg hn HOK2.out.1 q hq4, (HNF.out.trans (Frame.of_below hb)).trans (Frame.set W HLB.out.1 _ _)⟩
      clear q0 q8 q13 q14 f14 ql r8 r13 hq HT HPT rf
      go_upto_region 19 with (first | (go_at_call 94; refine cargs (by simp [Act.eval]) (HP4.out.mono ?_); rintro e w5 ⟨rfl, hb5⟩; obtain ⟨s13, sf13, hx⟩ := HR4.out w5 hb5; have HX5 := Lib.hid hx; clear hx hb5) | fail)
      generalize w5.setCell ⟨g, 5 + n * 28 + 13, none⟩ (.int .i64 (q : Int)) = W6 at *
      obtain ⟨t0, _, t13, _, tf, _⟩ := HX5.out.1.reads hn; have tf0 := tf (5 + n * 28); clear tf s13 sf13 r13' r8'
      by_cases h4 : q = 4
      ·subst h4; have e5 := HFT.out; rw [if_pos rfl] at e5
       have HS2 : Hid (snapS S n = S.setT n { T1 with buf := [], arg := 4, phase := 3 }) := by
        have := HS1.out; rw [e5] at this; exact this
       have HXF : Hid (WardAt (W6.setCell ⟨g, 5 + n * 28, none⟩ (.int .i64 3)) H B g p (S.setT n { T1 with buf := [], arg := 4, phase := 3 }) ∧ Frame B w (W6.setCell ⟨g, 5 + n * 28, none⟩ (.int .i64 3))) := ⟨HX5.out.1.setPhase hn HOK2.out.2 3, HX5.out.2.trans (Frame.set W6 HLB.out.1 _ _)⟩
       clear e5 HFT
       go_wp2_with fail
       go_returns
       exact ⟨rfl, by rw [HS2.out]; exact HXF.out.1, HXF.out.2⟩
      ·have e5 := HFT.out; rw [if_neg h4] at e5
       have HS2 : Hid (snapS S n = S.setT n { T1 with buf := [], arg := q }) := by
        have := HS1.out; rw [e5] at this; exact this
       have hq5 : ¬ (q : Int) = 4 := by omega
       have hq6 : decide ((q : Int) = 4) = false := decide_eq_false hq5; clear e5 HFT
       go_wp2_with fail
       go_returns
       exact ⟨rfl, by rw [HS2.out]; exact HX5.out.1, HX5.out.2⟩
end Go.Proofs.YtmgngapkgcofnabGreatDoor
