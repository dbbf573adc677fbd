/- exec: the walk. -/
import Derived.Test.YtmgngapkgcofnabGreatDoorP37
import Derived.Test.YtmgngapkgcofnabGreatDoorP31
namespace Go.Proofs.YtmgngapkgcofnabGreatDoor
open Go.RowKit Go.PlainAid
theorem vals_put {W : World} {q a : Nat} {t : TypeId} {vs : ValsD} (h : W.heap[q]? = some (.cells (valsCells vs).toArray t (0, 0))) (ha : a < 4) (x : ValD) :
  ((∃ c0, W.cell? ⟨q, a * 3, none⟩ = some c0) ∧ (∃ c1, W.cell? ⟨q, a * 3 + 1, none⟩ = some c1) ∧ (∃ c2, W.cell? ⟨q, a * 3 + 2, none⟩ = some c2)) ∧ (∀ i, W.frozen? ⟨q, i, none⟩ = false) ∧
  (((W.setCell ⟨q, a * 3, none⟩ (.string x.path)).setCell ⟨q, a * 3 + 1, none⟩ (.int .u32 x.ip)).setCell ⟨q, a * 3 + 2, none⟩ (.int .i64 x.port)).heap[q]? = some (.cells (valsCells (vs.set a x)).toArray t (0, 0)) := by
 have e1 := heap_setCell_same W q (a * 3) _ _ (.string x.path) h; have e2 := heap_setCell_same _ q (a * 3 + 1) _ _ (.int .u32 x.ip) e1; have e3 := heap_setCell_same _ q (a * 3 + 2) _ _ (.int .i64 x.port) e2; refine ⟨⟨?_, ?_, ?_⟩, fun i => frozen_of_row _ _ _ _ _ h, ?_⟩
 ·have h4 : a = 0 ∨ a = 1 ∨ a = 2 ∨ a = 3 := by omega
  rcases h4 with rfl | rfl | rfl | rfl <;> exact ⟨_, (cell_of_row _ _ _ _ _ _ h).trans rfl⟩
 ·have h4 : a = 0 ∨ a = 1 ∨ a = 2 ∨ a = 3 := by omega
  rcases h4 with rfl | rfl | rfl | rfl <;> exact ⟨_, (cell_of_row _ _ _ _ _ _ h).trans rfl⟩
 ·have h4 : a = 0 ∨ a = 1 ∨ a = 2 ∨ a = 3 := by omega
  rcases h4 with rfl | rfl | rfl | rfl <;> exact ⟨_, (cell_of_row _ _ _ _ _ _ h).trans rfl⟩
 ·have h4 : a = 0 ∨ a = 1 ∨ a = 2 ∨ a = 3 := by omega
  rcases h4 with rfl | rfl | rfl | rfl <;> exact e3
section
variable {w w' : World} {H : Nat} {B : Nat → Prop} {g : Nat} {p : PolD} {S : WardS} {A : Option Addr} {c : Nat} {Ap : Option Addr} {cp : Nat} {m : Nat} {lv : Value} {bv sv : Nat → Value}
theorem WardRep.reg (R : WardRep w H B g p S A c Ap cp m lv bv sv) {n : Nat} (hn : n < 3) {a : Nat} (ha : a < 4) : w.cell? ⟨g, 5 + n * 28 + 9 + a, none⟩ = some (.int .u64 ((S.t n).now.arg a)) := by
 have h4 : a = 0 ∨ a = 1 ∨ a = 2 ∨ a = 3 := by omega
 rcases h4 with rfl | rfl | rfl | rfl
 ·exact R.thr hn (j := 9) rfl
 ·exact R.thr hn (j := 10) rfl
 ·exact R.thr hn (j := 11) rfl
 ·exact R.thr hn (j := 12) rfl
theorem arg_ok {c : CallD} (h : c.ok) (a : Nat) : u64ok (c.arg a) := by
 unfold CallD.arg; split
 ·exact h.2.2.1
 ·split
  ·exact h.2.2.2.1
  ·split
   ·exact h.2.2.2.2.1
   ·exact h.2.2.2.2.2
end
theorem box_put {W : World} {b : Nat} {t : TypeId} {a0 a1 a2 : Value} (h : W.heap[b]? = some (.cells #[a0, a1, a2] t (0, 0))) (c0 c1 c2 : Value) {B : Nat} {W0 : World} (hb : Below B W0 W) (hB : B ≤ b) :
  (((W.setCell ⟨b, 0, none⟩ c0).setCell ⟨b, 1, none⟩ c1).setCell ⟨b, 2, none⟩ c2).heap[b]? = some (.cells #[c0, c1, c2] t (0, 0)) ∧ Below B W0 (((W.setCell ⟨b, 0, none⟩ c0).setCell ⟨b, 1, none⟩ c1).setCell ⟨b, 2, none⟩ c2) := by
 have e1 := heap_setCell_same W b 0 _ _ c0 h; have e2 := heap_setCell_same _ b 1 _ _ c1 e1; have e3 := heap_setCell_same _ b 2 _ _ c2 e2; exact ⟨e3, ((hb.setCell (p := ⟨b, 0, none⟩) hB _).setCell (p := ⟨b, 1, none⟩) hB _).setCell (p := ⟨b, 2, none⟩) hB _⟩
theorem alloc_drew_size (W : World) (o : Obj) : (W.alloc o).drew.heap.size = W.heap.size + 1 := by
 have : (W.alloc o).drew.heap = W.heap.push o := rfl; rw [this, Array.size_push]
theorem prow3w {w : World} {b : Nat} {t : TypeId} {a0 a1 a2 : Value} (h : w.heap[b]? = some (.cells #[a0, a1, a2] t (0, 0))) :
  w.cell? ⟨b, 0, none⟩ = some a0 ∧ w.cell? ⟨b, 1, none⟩ = some a1 ∧ w.cell? ⟨b, 2, none⟩ = some a2 ∧ w.frozen? ⟨b, 0, none⟩ = false ∧ w.frozen? ⟨b, 1, none⟩ = false ∧ w.frozen? ⟨b, 2, none⟩ = false :=
 ⟨(cell_of_row _ _ _ _ _ _ h).trans rfl, (cell_of_row _ _ _ _ _ _ h).trans rfl, (cell_of_row _ _ _ _ _ _ h).trans rfl, frozen_of_row _ _ _ _ _ h, frozen_of_row _ _ _ _ _ h, frozen_of_row _ _ _ _ _ h⟩
theorem leadsK_at {m : MemS} {c : CallD} {v : ValsD} {a k : Nat} (ha : a < 4) (hk : 5 ≤ a + k) : leadsK m c v a k = if (valueF m (kindN c.nr a) (c.arg a).toNat).1 ≠ 0 then ((valueF m (kindN c.nr a) (c.arg a).toNat).1, v) else leadsK m c (v.set a (valueF m (kindN c.nr a) (c.arg a).toNat).2) (ptrN c.nr (a + 1)) (k - 1) := by
 obtain ⟨k, rfl⟩ : ∃ j, k = j + 1 := ⟨k - 1, by omega⟩
 rw [leadsK, if_neg (by omega), Nat.add_sub_cancel]
theorem leadsK_done {m : MemS} {c : CallD} {v : ValsD} (k : Nat) : leadsK m c v 4 k = (0, v) := by
 cases k with
 | zero => rfl
 | succ k => rw [leadsK, if_pos (by omega)]
set_option linter.unusedSimpArgs false in
set_option maxRecDepth 100000 in
set_option maxHeartbeats 8000000 in
theorem wardExec_any (H : Nat) (B : Nat → Prop) (g : Nat) (p : PolD) (S : WardS) (n : Nat) (w : World) (h : WardAt w H B g p S) (hn : n < 3) (hBs : ∀ k, w.heap.size ≤ k → B k) (hfew : S.log.length < 1000000) :
    Calls Tryz.prog 47 #[.pointer (some ⟨g, 0, none⟩), .int .i64 (n : Int)] w fun e w' => e = .returned (.tuple #[]) ∧ WardAt w' H B g p (execS S n) ∧ Frame B w w' := by
  have HH := Lib.hid h
  obtain ⟨hB, hl, hok, A, c, Ap, cp, m, lv, bv, sv, R⟩ := h
  have y3 : (0 : Int) ≤ (n : Int) := by omega
  have y4 : (n : Int) < 3 := by omega
  have hgl := R.lt
  obtain ⟨_, _, _, _, c4, _⟩ := R.head
  have a8 := R.thr hn (j := 8) rfl
  have hcl := (hok.thr n).now
  have HCL := Lib.hid hcl
  have HRG : Hid (∀ W : World, Below w.heap.size w W → ∀ a, a < 4 → W.cell? ⟨g, 5 + n * 28 + 9 + a, none⟩ = some (.int .u64 ((S.t n).now.arg a)) ∧ W.cell? ⟨g, 4, none⟩ = some (.pointer (some ⟨m, 0, none⟩))) := fun W hb a ha => ⟨(hb.cell (p := ⟨g, _, none⟩) hgl).trans (R.reg hn ha), (hb.cell (p := ⟨g, _, none⟩) hgl).trans c4⟩
  have HKI : Hid (∀ (W : World) (a : Nat), Below w.heap.size w W → Calls Tryz.prog 98 #[.pointer (some ⟨g, 5 + n * 28, none⟩), .int .i64 (a : Int)] W fun e w' => e = .returned (.int .i64 (kindN (S.t n).now.nr a)) ∧ Below W.heap.size W w') := fun W a hb =>
    thrKind_any g (5 + n * 28) (S.t n).now.nr a W ((hb.cell (p := ⟨g, _, none⟩) hgl).trans a8) hcl.2.1.1
  have HPT : Hid (∀ (W : World) (a : Nat), Below w.heap.size w W → a ≤ 4 → Calls Tryz.prog 94 #[.pointer (some ⟨g, 5 + n * 28, none⟩), .int .i64 (a : Int)] W fun e w' => e = .returned (.int .i64 (ptrN (S.t n).now.nr a : Nat)) ∧ Below W.heap.size W w') := fun W a hb ha =>
    thrPtr_any g (5 + n * 28) (S.t n).now.nr a W ((hb.cell (p := ⟨g, _, none⟩) hgl).trans a8) hcl.2.1.1 ha
  have HVA : Hid (∀ (W : World) (kind : Int) (a : Nat), Below w.heap.size w W → Calls Tryz.prog 102 #[.pointer (some ⟨m, 0, none⟩), .int .i64 kind, .int .u64 a] W fun e w' => e = .returned (.tuple #[.agg #[.string (valueF S.m kind a).2.path, .int .u32 (valueF S.m kind a).2.ip, .int .i64 (valueF S.m kind a).2.port], errV (valueF S.m kind a).1]) ∧ Below W.heap.size W w') := fun W kind a hb =>
    wardValue_any m B S.m kind a W (R.mem.grown (growBl (r := none) hb) (fun b e => by cases e))
  have HEN : Hid (∀ (W : World) (kind errno : Int) (v : ValsD), Below w.heap.size w W → Calls Tryz.prog 96 #[.pointer (some ⟨g, 0, none⟩), .int .i64 (n : Int), .int .i64 kind, .int .i64 errno, .agg (valsCells v).toArray] W fun e w' => e = .returned (.tuple #[]) ∧ Hid (WardAt w' H B g p (endsS S n kind errno v) ∧ Frame B w w')) := fun W kind errno v hb =>
    (wardEnds_any H B g p S n kind errno v W (HH.out.below hb) hn (fun i hi => hBs i (Nat.le_trans hb.size hi)) hfew).mono fun e w' ⟨h1, h2, h3⟩ => ⟨h1, h2, (Frame.of_below hb).trans h3⟩
  have HZ0 : Hid (∀ (W : World) (kind errno : Int), Below w.heap.size w W → Calls Tryz.prog 96 #[.pointer (some ⟨g, 0, none⟩), .int .i64 (n : Int), .int .i64 kind, .int .i64 errno, .agg #[.string ⟨#[]⟩, .int .u32 0, .int .i64 0, .string ⟨#[]⟩, .int .u32 0, .int .i64 0, .string ⟨#[]⟩, .int .u32 0, .int .i64 0, .string ⟨#[]⟩, .int .u32 0, .int .i64 0]] W fun e w' => e = .returned (.tuple #[]) ∧ Hid (WardAt w' H B g p (endsS S n kind errno zeroVals) ∧ Frame B w w')) := fun W kind errno hb => HEN.out W kind errno zeroVals hb
  have HES : Hid (execS S n = if 9 ≤ (S.t n).now.nr then endsS S n 2 38 zeroVals else if (leadsK S.m (S.t n).now zeroVals (ptrN (S.t n).now.nr 0) 5).1 ≠ 0 then endsS S n 2 (errnoF (leadsK S.m (S.t n).now zeroVals (ptrN (S.t n).now.nr 0) 5).1) zeroVals else endsS S n 1 0 (leadsK S.m (S.t n).now zeroVals (ptrN (S.t n).now.nr 0) 5).2) := rfl
  obtain ⟨T0, hT0⟩ : ∃ T0, T0 = (S.t n).now := ⟨_, rfl⟩
  rw [← hT0] at HRG HKI HPT HES HCL hcl
  have e8 : (S.t n).now.nr = T0.nr := by rw [hT0]
  rw [e8] at a8
  clear R hok hB hl hBs hfew hT0 e8 c4
  obtain ⟨nr, hnr⟩ : ∃ nr, nr = T0.nr := ⟨_, rfl⟩
  rw [← hnr] at a8 HKI HPT HES
  have HNR := Lib.hid hnr
  clear hnr
  by_cases h9 : 9 ≤ nr
  · have HE9 : Hid (execS S n = endsS S n 2 38 zeroVals) := by have := HES.out; rw [if_pos h9] at this; exact this
    have HC := Lib.hid (HZ0.out w 2 38 (Below.refl _ _))
    clear HES HZ0 HRG HKI HPT HVA HCL hcl
    go_enter Tryz.func47, Tryz.ntmps47
    go_wp2_with (first | (go_at_call 96; refine cargs (by simp [Act.eval]) (HC.out.mono ?_); rintro e w5 ⟨rfl, hx⟩) | fail)
    go_returns
    exact ⟨rfl, by rw [HE9.out]; exact hx.out.1, hx.out.2⟩
  · have e9 := HES.out
    rw [if_neg h9] at e9
    have HE9 := Lib.hid e9
    have hb1 : Below w.heap.size w (w.alloc (.cells (valsCells zeroVals).toArray 78)) := (Below.refl _ _).alloc (Nat.le_refl _) _
    have HB1 := Lib.hid hb1
    have HQ1 : Hid ((w.alloc (.cells (valsCells zeroVals).toArray 78)).heap[w.heap.size]? = some (.cells (valsCells zeroVals).toArray 78 (0, 0)) ∧ (w.alloc (.cells (valsCells zeroVals).toArray 78)).heap.size = w.heap.size + 1) := ⟨heap_alloc_new _ _, by simp⟩
    simp only [valsCells, zeroVals, zeroVal] at HB1 HQ1
    clear e9 HES hb1 hcl
    go_enter Tryz.func47, Tryz.ntmps47
    have e0 : (⟨⟨⟨#[]⟩, 0, 0⟩, ⟨⟨#[]⟩, 0, 0⟩, ⟨⟨#[]⟩, 0, 0⟩, ⟨⟨#[]⟩, 0, 0⟩⟩ : ValsD) = zeroVals := rfl
    go_upto_region 4 with fail
    generalize w.alloc (.cells #[.string ⟨#[]⟩, .int .u32 0, .int .i64 0, .string ⟨#[]⟩, .int .u32 0, .int .i64 0, .string ⟨#[]⟩, .int .u32 0, .int .i64 0, .string ⟨#[]⟩, .int .u32 0, .int .i64 0] 78) = W1 at *
    have HP0 := Lib.hid (HPT.out W1 0 HB1.out (by omega))
    go_wp2_with (first | (go_at_call 94; refine cargs (by simp [Act.eval]) (HP0.out.mono ?_); rintro e w2 ⟨rfl, hb2⟩; have HD2 := Lib.hid hb2; clear hb2) | fail)
    have HB2 : Hid (Below w.heap.size w w2) := HB1.out.trans (HD2.out.mono HB1.out.size)
    have HQ2 : Hid (w2.heap[w.heap.size]? = some (.cells (valsCells zeroVals).toArray 78 (0, 0)) ∧ w.heap.size < w2.heap.size) := ⟨(HD2.out.block _ (by have := HQ1.out.2; omega)).trans HQ1.out.1, by have := HQ1.out.2; have := HD2.out.size; omega⟩
    have HPL := Lib.hid (ptrN_le nr 0 (by omega))
    clear HP0 HD2 HQ1 HB1
    go_loopw [6] (fun iv wr => ∃ (a : Nat) (vs : ValsD) (k : Nat), a ≤ 4 ∧ iv = .int .i64 a ∧ Hid (5 ≤ a + k ∧ leadsK S.m T0 zeroVals (ptrN nr 0) 5 = leadsK S.m T0 vs a k) ∧ Hid (Below w.heap.size w wr) ∧ Hid (wr.heap[w.heap.size]? = some (.cells (valsCells vs).toArray 78 (0, 0)) ∧ w.heap.size < wr.heap.size)) (fun iv _ => 4 - (intOf iv).toNat)
    case atStart => exact ⟨ptrN nr 0, zeroVals, 5, HPL.out.2.1, rfl, ⟨by omega, rfl⟩, HB2.out, HQ2.out⟩
    case round =>
      obtain ⟨a, vs, k, ha, rfl, hk, HB, HQ⟩ := hrel
      clear HB2 HQ2 HPL
      by_cases h4 : a < 4
      · have z1 : (a : Int) < 4 := by omega
        have z0 : (0 : Int) ≤ (a : Int) := by omega
        obtain ⟨r9, r4⟩ := HRG.out wr HB.out a h4
        obtain ⟨xa, hxa⟩ : ∃ xa : Nat, T0.arg a = (xa : Int) := ⟨(T0.arg a).toNat, by have := (arg_ok HCL.out a).1; omega⟩
        have HLK := Lib.hid (leadsK_at (m := S.m) (c := T0) (v := vs) (k := k) h4 hk.out.1)
        rw [hxa] at r9
        rw [hxa, Int.toNat_natCast] at HLK
        rw [← HNR.out] at HLK
        obtain ⟨⟨f, x⟩, hfx⟩ : ∃ fx, fx = valueF S.m (kindN nr a) xa := ⟨_, rfl⟩
        have C1 := HVA.out
        have HV1 : Hid (∀ W, Below w.heap.size w W → Calls Tryz.prog 102 #[.pointer (some ⟨m, 0, none⟩), .int .i64 (kindN nr a), .int .u64 (xa : Int)] W fun e w' => e = .returned (.tuple #[.agg #[.string x.path, .int .u32 x.ip, .int .i64 x.port], errV f]) ∧ Below W.heap.size W w') := fun W hb => by
          have := HVA.out W (kindN nr a) xa hb
          rw [← hfx] at this; exact this
        have HK1 : Hid (∀ W, Below w.heap.size w W → Calls Tryz.prog 98 #[.pointer (some ⟨g, 5 + n * 28, none⟩), .int .i64 (a : Int)] W fun e w' => e = .returned (.int .i64 (kindN nr a)) ∧ Below W.heap.size W w') := fun W hb => HKI.out W a hb
        rw [← hfx] at HLK
        simp only at HLK
        generalize kindN nr a = ka at *
        have HS : Hid (∀ W, Below w.heap.size w W → W.cell? ⟨g, 4, none⟩ = some (.pointer (some ⟨m, 0, none⟩)) ∧ W.cell? ⟨g, 5 + n * 28 + 9 + a, none⟩ = some (.int .u64 (xa : Int))) := fun W hb => by
          obtain ⟨q1, q2⟩ := HRG.out W hb a h4
          rw [hxa] at q1
          exact ⟨q2, q1⟩
        clear C1 hfx hxa r9 r4
        go_upto_region 7 with fail
        go_cut [7, 8] (fun tv ev wx => ∃ bx : Nat, tv = .pointer (some ⟨bx, 0, none⟩) ∧ ev = errV f ∧ Hid (wx.heap[bx]? = some (.cells #[.string x.path, .int .u32 x.ip, .int .i64 x.port] 76 (0, 0)) ∧ wr.heap.size ≤ bx) ∧ Hid (Below wr.heap.size wr wx))
        case first =>
          go_region_held3 (fun W' : World => W'.cell? ⟨g, 4, none⟩ = some (.pointer (some ⟨m, 0, none⟩)) ∧ W'.cell? ⟨g, 5 + n * 28 + 9 + a, none⟩ = some (.int .u64 (xa : Int)))
            (first | exact HS.out _ HB.out | exact HS.out _ HB.out.drew | exact HS.out _ (HB.out.alloc HB.out.size _).drew | exact HS.out _ HB3.out | exact HS.out _ (HB3.out.alloc HB3.out.size _) | exact HS.out _ HB4.out | exact HS.out _ (HB4.out.alloc HB4.out.size _) | exact HS.out _ (((HB4.out.setCell (p := ⟨w3.heap.size, 0, none⟩) HBQ.out _).setCell (p := ⟨w3.heap.size, 1, none⟩) HBQ.out _).setCell (p := ⟨w3.heap.size, 2, none⟩) HBQ.out _) | exact HS.out _ (((HB4.out.setCell (p := ⟨wr.heap.size, 0, none⟩) HB.out.size _).setCell (p := ⟨wr.heap.size, 1, none⟩) HB.out.size _).setCell (p := ⟨wr.heap.size, 2, none⟩) HB.out.size _) | fail)
            (first
              | (go_at_call 98; refine cargs (by simp [Act.eval]) ((HK1.out _ HB.out.drew).mono ?_); rintro e w3 ⟨rfl, hb3⟩; have HB3 : Hid (Below w.heap.size w w3) := HB.out.drew.trans (hb3.mono HB.out.size); have HD3 : Hid (Below wr.heap.size wr w3) := (Below.refl _ _).drew.trans hb3; clear hb3)
              | (go_at_call 98; refine cargs (by simp [Act.eval]) ((HK1.out _ (HB.out.alloc HB.out.size _).drew).mono ?_); rintro e w3 ⟨rfl, hb3⟩; have HBX3 : Hid (w3.heap[wr.heap.size]? = some (.cells #[.string ⟨#[]⟩, .int .u32 0, .int .i64 0] 76) ∧ wr.heap.size < w3.heap.size) := ⟨(hb3.block wr.heap.size (by rw [alloc_drew_size]; omega)).trans (heap_alloc_new wr _), by have := hb3.size; rw [alloc_drew_size] at this; omega⟩; have HB3 : Hid (Below w.heap.size w w3) := (HB.out.alloc HB.out.size _).drew.trans (hb3.mono (by have := HB.out.size; rw [alloc_drew_size]; omega)); have HD3 : Hid (Below wr.heap.size wr w3) := ((Below.refl _ _).alloc (Nat.le_refl _) _).drew.trans (hb3.mono (by rw [alloc_drew_size]; omega)); clear hb3)
              | (go_at_call 102; refine cargs (by simp [Act.eval]) ((HV1.out _ HB3.out).mono ?_); rintro e w4 ⟨rfl, hb4⟩; have HB4 : Hid (Below w.heap.size w w4) := HB3.out.trans (hb4.mono HB3.out.size); have HD4 : Hid (Below wr.heap.size wr w4) := HD3.out.trans (hb4.mono HD3.out.size); (try (have HBX4 : Hid (w4.heap[wr.heap.size]? = some (.cells #[.string ⟨#[]⟩, .int .u32 0, .int .i64 0] 76)) := (hb4.block wr.heap.size HBX3.out.2).trans HBX3.out.1; obtain ⟨s0, s1, s2, f0, f1, f2⟩ := prow3w HBX4.out)); clear hb4)
              | (go_at_call 102; refine cargs (by simp [Act.eval]) ((HV1.out _ (HB3.out.alloc HB3.out.size _)).mono ?_); rintro e w4 ⟨rfl, hb4⟩; have HB4 : Hid (Below w.heap.size w w4) := (HB3.out.alloc HB3.out.size _).trans (hb4.mono (by have := HB3.out.size; simp; omega)); have HD4 : Hid (Below wr.heap.size wr w4) := (HD3.out.alloc HD3.out.size _).trans (hb4.mono (by have := HD3.out.size; simp; omega)); have HBX4 : Hid (w4.heap[w3.heap.size]? = some (.cells #[.string ⟨#[]⟩, .int .u32 0, .int .i64 0] 76)) := (hb4.block w3.heap.size (by simp)).trans (heap_alloc_new w3 _); obtain ⟨s0, s1, s2, f0, f1, f2⟩ := prow3w HBX4.out; have HBQ : Hid (w.heap.size ≤ w3.heap.size) := HB3.out.size; obtain ⟨bq, hbq⟩ : ∃ bq, bq = w3.heap.size := ⟨_, rfl⟩; clear hb4)
              | fail)
          all_goals
            go_wp2_with fail
            go_meet
            first
              | exact ⟨w4.heap.size, rfl, rfl, ⟨heap_alloc_new w4 _, HD4.out.size⟩, HD4.out.alloc HD4.out.size _⟩
              | (obtain ⟨k1, k2⟩ := box_put HBX4.out (.string x.path) (.int .u32 x.ip) (.int .i64 x.port) HD4.out HD3.out.size
                 exact ⟨w3.heap.size, rfl, rfl, ⟨k1, HD3.out.size⟩, k2⟩)
              | (obtain ⟨k1, k2⟩ := box_put HBX4.out (.string x.path) (.int .u32 x.ip) (.int .i64 x.port) HD4.out (Nat.le_refl _)
                 exact ⟨wr.heap.size, rfl, rfl, ⟨k1, Nat.le_refl _⟩, k2⟩)
        case rest =>
          obtain ⟨bx, rfl, rfl, hbx, HBC⟩ := hcut
          have HBW : Hid (Below w.heap.size w wc) := HB.out.trans (HBC.out.mono HB.out.size)
          clear HV1 HK1 HS HVA HKI HRG
          by_cases hf : f = 0
          · subst hf
            have e1 := HLK.out
            rw [if_neg (by simp)] at e1
            have HNX := Lib.hid (hk.out.2.trans e1)
            rw [errV_zero]
            obtain ⟨u0, u1, u2, _⟩ := prow3w hbx.out.1
            have hq : wc.heap[w.heap.size]? = some (.cells (valsCells vs).toArray 78 (0, 0)) := (HBC.out.block _ HQ.out.2).trans HQ.out.1
            obtain ⟨⟨⟨c0, v0⟩, ⟨c1, v1⟩, ⟨c2, v2⟩⟩, fz, hput⟩ := vals_put hq h4 x
            have fz0 := fz (a * 3)
            have fz1 := fz (a * 3 + 1)
            have fz2 := fz (a * 3 + 2)
            have HBP : Hid (Below w.heap.size w (((wc.setCell ⟨w.heap.size, a * 3, none⟩ (.string x.path)).setCell ⟨w.heap.size, a * 3 + 1, none⟩ (.int .u32 x.ip)).setCell ⟨w.heap.size, a * 3 + 2, none⟩ (.int .i64 x.port))) :=
              ((HBW.out.setCell (p := ⟨w.heap.size, _, none⟩) (by simp) _).setCell (p := ⟨w.heap.size, _, none⟩) (by simp) _).setCell (p := ⟨w.heap.size, _, none⟩) (by simp) _
            have HPU : Hid ((((wc.setCell ⟨w.heap.size, a * 3, none⟩ (.string x.path)).setCell ⟨w.heap.size, a * 3 + 1, none⟩ (.int .u32 x.ip)).setCell ⟨w.heap.size, a * 3 + 2, none⟩ (.int .i64 x.port)).heap[w.heap.size]? = some (.cells (valsCells (vs.set a x)).toArray 78 (0, 0))) := hput
            have hne : bx ≠ w.heap.size := by have := hbx.out.2; have := HQ.out.2; omega
            clear fz hput hq e1 HLK HB HBW
            go_upto_region 6 with fail
            generalize (((wc.setCell ⟨w.heap.size, a * 3, none⟩ (.string x.path)).setCell ⟨w.heap.size, a * 3 + 1, none⟩ (.int .u32 x.ip)).setCell ⟨w.heap.size, a * 3 + 2, none⟩ (.int .i64 x.port)) = W5 at *
            have HP1 : Hid (Calls Tryz.prog 94 #[.pointer (some ⟨g, 5 + n * 28, none⟩), .int .i64 ((a : Int) + 1)] W5 fun e w' => e = .returned (.int .i64 (ptrN nr (a + 1) : Nat)) ∧ Below W5.heap.size W5 w') := by
              have := HPT.out W5 (a + 1) HBP.out (by omega)
              rw [Int.natCast_add] at this; exact this
            have HPL := Lib.hid (ptrN_le nr (a + 1) (by omega))
            clear u0 u1 u2 c0 c1 c2 v0 v1 v2 fz0 fz1 fz2 HBC hbx HZ0 HEN
            go_wp2_with (first | (go_at_call 94; refine cargs (by simp [Act.eval]) (HP1.out.mono ?_); rintro e w6 ⟨rfl, hb6⟩; have HD6 := Lib.hid hb6; clear hb6) | fail)
            have hlt5 : w.heap.size < W5.heap.size := lt_of_block HPU.out
            go_roundw
            case rel => exact ⟨ptrN nr (a + 1), vs.set a x, k - 1, HPL.out.2.1, rfl, ⟨by have := HPL.out.1; have := hk.out.1; omega, HNX.out⟩, HBP.out.trans (HD6.out.mono HBP.out.size), (HD6.out.block _ hlt5).trans HPU.out, Nat.lt_of_lt_of_le hlt5 HD6.out.size⟩
            case measure => have := HPL.out.1; have := HPL.out.2.1; simp [intOf]; omega
          · have e1 := HLK.out
            rw [if_pos hf] at e1
            have HNX := Lib.hid (hk.out.2.trans e1)
            have HES2 : Hid (execS S n = endsS S n 2 (errnoF f) zeroVals) := by
              have := HE9.out
              rw [HNX.out, if_pos hf] at this
              exact this
            rw [errV_pos hf]
            have HER : Hid (Calls Tryz.prog 97 #[.iface 105 (.int .i64 f)] wc fun e w' => e = .returned (.int .i64 (errnoF f)) ∧ w' = wc) := by
              have := errno_any f wc hf
              rw [errV_pos hf] at this; exact this
            have HC := Lib.hid (HZ0.out wc 2 (errnoF f) HBW.out)
            clear e1 HLK HE9 HZ0 HPT HBC HB hbx HQ hk hf
            generalize errnoF f = fe at *
            go_wp2_with (first
              | (go_at_call 97; refine cargs (by simp [Act.eval]) (HER.out.mono ?_); rintro e w5 ⟨rfl, rfl⟩)
              | (go_at_call 96; refine cargs (by simp [Act.eval]) (HC.out.mono ?_); rintro e w6 ⟨rfl, hx⟩)
              | fail)
            go_returns
            exact ⟨rfl, by rw [HES2.out]; exact hx.out.1, hx.out.2⟩
      · obtain rfl : a = 4 := by omega
        have hfin := hk.out.2
        rw [leadsK_done] at hfin
        have HES2 : Hid (execS S n = endsS S n 1 0 vs) := by
          have := HE9.out
          rw [hfin] at this
          exact this
        have HC := Lib.hid (HEN.out wr 1 0 vs HB.out)
        obtain ⟨⟨p0, i0, q0⟩, ⟨p1, i1, q1⟩, ⟨p2, i2, q2⟩, ⟨p3, i3, q3⟩⟩ := vs
        obtain ⟨u0, u1, u2, u3, u4, u5, u6, u7, u8, u9, u10, u11⟩ := crow12 HQ.out.1
        simp only [valsCells] at HC
        clear HE9 HZ0 HPT HEN HVA HKI HRG hk hfin HB HQ
        go_wp2_with (first
          | (go_at_call 96; refine cargs (by simp [Act.eval]) (HC.out.mono ?_); rintro e w6 ⟨rfl, hx⟩)
          | fail)
        go_returns
        exact ⟨rfl, by rw [HES2.out]; exact hx.out.1, hx.out.2⟩
end Go.Proofs.YtmgngapkgcofnabGreatDoor
