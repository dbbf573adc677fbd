/- ends: the walk. -/
import Derived.Test.YtmgngapkgcofnabGreatDoorP33
import Derived.Deep.RegionHeld3
import Derived.Deep.RegionHeldLaw
namespace Go.Proofs.YtmgngapkgcofnabGreatDoor
open Go.RowKit Go.PlainAid
section
variable {w w1 w' : World} {H : Nat} {B : Nat → Prop} {g : Nat} {p : PolD} {S : WardS} {A : Option Addr} {c : Nat} {Ap : Option Addr} {cp : Nat} {m : Nat} {lv : Value} {bv sv : Nat → Value}
theorem WardRep.memSet (R : WardRep w H B g p S A c Ap cp m lv bv sv) (hB : B g) (hl : ∀ k, B k → H ≤ k) {M : MemS} (hb : But m w w') (hm : MemAt w' B m M) : WardRep w' H B g p (S.setM M) A c Ap cp m lv bv sv ∧ Frame B w w' := by
 have hg := grown_but hb; have hmB := R.mem.base; obtain ⟨_, _, C, sp, h3, _, _⟩ := R.mem; have h3' : w.heap[m]? = some (.cells (rowOf 532 C) 161 (0, 0)) := h3; have hH : H ≤ w.heap.size := by have := R.lt; have := hl g hB; omega
 have hbl : Below H w w' := Below.of_grown hg (fun b e => by simp only [Option.some.injEq] at e; subst e; exact hl m hmB) hH
 exact ⟨⟨(hb.block g R.lt (fun e => R.ne e.symm)).trans R.blk, R.pol.low hbl, R.prg.below hbl, hm, R.ne, fun n hn => (R.buf n hn).grown hg ((R.buf n hn).apart h3' (by decide)), fun n hn => (R.sea n hn).grown hg ((R.sea n hn).apart h3' (by decide)), R.log.grown hg (R.log.apart h3' (by decide)), R.apb, R.aps⟩, Frame.of_but hb hmB⟩
theorem WardRep.at (R : WardRep w H B g p S A c Ap cp m lv bv sv) (hB : B g) (hl : ∀ k, B k → H ≤ k) (hok : S.ok) : WardAt w H B g p S := ⟨hB, hl, hok, A, c, Ap, cp, m, lv, bv, sv, R⟩
theorem WardRep.below (R : WardRep w H B g p S A c Ap cp m lv bv sv) (hB : B g) (hl : ∀ k, B k → H ≤ k) (hb : Below w.heap.size w w') : WardRep w' H B g p S A c Ap cp m lv bv sv := by
 have hH : H ≤ w.heap.size := by have := R.lt; have := hl g hB; omega
 have hg := growBl (r := none) hb; exact ⟨(hb.block g R.lt).trans R.blk, R.pol.low (hb.mono hH), R.prg.below (hb.mono hH), R.mem.grown hg (fun b e => by cases e), R.ne, fun n hn => (R.buf n hn).grown hg (fun _ _ e => by cases e), fun n hn => (R.sea n hn).grown hg (fun _ _ e => by cases e), R.log.grown hg (fun _ _ e => by cases e), R.apb, R.aps⟩
theorem WardRep.sealOf (R : WardRep w H B g p S A c Ap cp m lv bv sv) {n : Nat} (hn : n < 3) : ∃ As cs, sv n = .slice As (S.t n).seals.length cs ∧ ∀ (i a : Nat), (S.t n).seals[i]? = some a → ∃ b, As = some ⟨b, 0, none⟩ ∧ w.cell? ⟨b, i, none⟩ = some (.int .u64 (a : Int)) := by
 have hR := R.sea n hn; rcases hR.1.2 with ⟨h1, h2⟩ | ⟨q, cap, cur, h1, _, h3, _, _, _, h4⟩
 ·exact ⟨none, 0, by rw [h1, h2], fun i a hi => by
   have : (S.t n).seals = [] := List.eq_nil_of_length_eq_zero h2; rw [this] at hi; simp at hi⟩
 ·refine ⟨some ⟨q, 0, none⟩, cap, h1, fun i a hi => ⟨q, rfl, ?_⟩⟩; rw [cell_of_row _ _ _ _ _ _ h3]; have hlt : i < (S.t n).seals.length := (List.getElem?_eq_some_iff.1 hi).1; have h5 : (u64s (S.t n).seals)[i]? = some (.int .u64 (a : Int)) := by unfold u64s; rw [List.getElem?_map, hi]; rfl
  rw [← h4, List.getElem?_take_of_lt (by omega), Array.getElem?_toList] at h5; exact h5
end
theorem kept_alloc {W0 w1 : World} {o : Obj} {r : Option Nat} {k : Nat} (hg : (W0.drew.alloc o).grownBy w1 r) (hk : k < W0.heap.size) (hr : r ≠ some k) : w1.heap[k]? = W0.heap[k]? :=
 (hg.block k (by simp; omega) (fun e => hr e.symm)).trans (((Below.refl W0.heap.size W0).alloc (Nat.le_refl _) o).block k hk)
theorem ends_logged {w w1 : World} {H : Nat} {B : Nat → Prop} {g : Nat} {p : PolD} {S : WardS} {A : Option Addr} {c : Nat} {Ap : Option Addr} {cp : Nat} {m : Nat} {lv : Value} {bv sv : Nat → Value} {e : EntD} {LC : List Value} {LN g1 cap : Nat} {hlA : Option Addr} {hlc : Nat}
  (R : WardRep w H B g p S A c Ap cp m lv bv sv) (hL : B g ∧ (∀ k, B k → H ≤ k) ∧ ∀ k, w.heap.size ≤ k → B k) (hC : LC = logCells S.log ∧ LN = S.log.length) (hlv : lv = .slice hlA LN hlc)
  (hown : w1.ownsRow 0 80 21 (.slice (some ⟨g1, 0, none⟩) (LN + 1) cap) (LN + 1) (LC ++ entCells e)) (hg : w.grownBy w1 (Value.slice hlA LN hlc).ownBlock) (hat : (Value.slice hlA LN hlc).ownBlock = some g1 ∨ w.heap.size ≤ g1) :
  Hid (∃ lv2, WardRep (w1.setCell ⟨g, 89, none⟩ (.slice (some ⟨g1, 0, none⟩) (LN + 1) cap)) H B g p (S.put e) A c Ap cp m lv2 bv sv ∧ Frame B w (w1.setCell ⟨g, 89, none⟩ (.slice (some ⟨g1, 0, none⟩) (LN + 1) cap))) := by
 obtain ⟨rfl, rfl⟩ := hC; subst hlv; exact ⟨_, R.logPut hL.2.1 hL.1 hL.2.2 hown hg hat⟩
def zeroThr : Array Value := #[.int .i64 0, .int .u32 0, .int .u32 0, .int .u64 0, .int .u64 0, .int .u64 0, .int .u64 0, .int .u32 0, .int .u32 0, .int .u64 0, .int .u64 0, .int .u64 0, .int .u64 0, .int .i64 0, .slice none 0 0, .string ⟨#[]⟩, .int .u32 0, .int .i64 0, .string ⟨#[]⟩, .int .u32 0, .int .i64 0, .string ⟨#[]⟩, .int .u32 0, .int .i64 0, .string ⟨#[]⟩, .int .u32 0, .int .i64 0, .slice none 0 0]
theorem zeroThr_is : thrCells ThrS.zero (.slice none 0 0) (.slice none 0 0) = zeroThr.toList := rfl
theorem zeroThr_one : zeroThr.all (·.oneCell') = true := by simp [zeroThr, Value.oneCell']
theorem thread_info : (Tryz.prog.info? 99).map (·.size) = some zeroThr.size := by kernel_rfl
theorem setT_self (S : WardS) (n : Nat) (T : ThrS) : (S.setT n T).t n = T := if_pos rfl
theorem freesS_drop (M : MemS) (l : List Nat) (i a : Nat) (h : l[i]? = some a) : freesS M (l.drop i) = freesS (freeS M a) (l.drop (i + 1)) := by
 obtain ⟨hi, rfl⟩ := List.getElem?_eq_some_iff.1 h; rw [List.drop_eq_getElem_cons hi, freesS]
theorem zeroT_ok : ThrS.zero.ok := ⟨zeroCall_ok, zeroCall_ok, by simp [ThrS.zero], by simp [ThrS.zero], (fun b hb => by cases hb), by simp [ThrS.zero], (fun b hb => by cases hb), zeroVals_ok⟩
theorem deadT_ok : ThrS.dead.ok := ⟨zeroCall_ok, zeroCall_ok, by simp [ThrS.dead], by simp [ThrS.dead], (fun b hb => by cases hb), by simp [ThrS.dead], (fun b hb => by cases hb), zeroVals_ok⟩
theorem endsS_eq0 (S : WardS) (n : Nat) (kind errno : Int) (v : ValsD) (h : kind ≠ 3) : endsS S n kind errno v = ((S.put ⟨kind, n, (S.t n).asked, v, errno⟩).setM (freesS S.m (S.t n).seals)).setT n ThrS.zero := by
 unfold endsS WardS.setT WardS.setM WardS.put; rw [if_neg h]
theorem endsS_eq3 (S : WardS) (n : Nat) (errno : Int) (v : ValsD) : endsS S n 3 errno v = (((S.put ⟨3, n, (S.t n).asked, v, errno⟩).setM (freesS S.m (S.t n).seals)).setT n ThrS.zero).setT n ThrS.dead := by
 unfold endsS WardS.setT WardS.setM WardS.put; rw [if_pos rfl]; simp only [WardS.mk.injEq, and_true]
 funext k
 by_cases h : k = n
 ·rw [if_pos h, if_pos h]
 ·rw [if_neg h, if_neg h, if_neg h]
set_option linter.unusedSimpArgs false in
set_option maxRecDepth 100000 in
set_option maxHeartbeats 8000000 in
theorem wardEnds_any (H : Nat) (B : Nat → Prop) (g : Nat) (p : PolD) (S : WardS) (n : Nat) (kind errno : Int) (v : ValsD) (w : World) (h : WardAt w H B g p S) (hn : n < 3) (hBs : ∀ k, w.heap.size ≤ k → B k) (hfew : S.log.length < 1000000) :
  Calls Tryz.prog 96 #[.pointer (some ⟨g, 0, none⟩), .int .i64 (n : Int), .int .i64 kind, .int .i64 errno, v.v] w fun e w' => e = .returned (.tuple #[]) ∧ WardAt w' H B g p (endsS S n kind errno v) ∧ Frame B w w' := by
 obtain ⟨hB, hl, hok, A, c, Ap, cp, m, lv, bv, sv, R⟩ := h; obtain ⟨v0, v1, v2, v3⟩ := v; obtain ⟨p0, i0, q0⟩ := v0; obtain ⟨p1, i1, q1⟩ := v1; obtain ⟨p2, i2, q2⟩ := v2; obtain ⟨p3, i3, q3⟩ := v3; unfold ValsD.v ValsD.cells; simp only; have y1 : ¬ (n : Int) < 0 := by omega
 have y2 : ¬ (3 : Int) ≤ (n : Int) := by omega
 have y3 : (0 : Int) ≤ (n : Int) := by omega
 have y4 : (n : Int) < 3 := by omega
 obtain ⟨_, _, _, _, _, c89⟩ := R.head; obtain ⟨hlA, hlc, hlv⟩ := R.log.form; have hgl := R.lt; have f89 := R.frozen 89; have a1 := R.thr hn (j := 1) rfl; have a2 := R.thr hn (j := 2) rfl; have a3 := R.thr hn (j := 3) rfl; have a4 := R.thr hn (j := 4) rfl; have a5 := R.thr hn (j := 5) rfl; have a6 := R.thr hn (j := 6) rfl; have HR := Lib.hid R; have HOK := Lib.hid hok
 have HLB := Lib.hid (And.intro hB (And.intro hl hBs)); obtain ⟨ask, hask⟩ : ∃ ask, (S.t n).asked = ask := ⟨_, rfl⟩
 obtain ⟨arch, nr, x0, x1, x2, x3⟩ := ask; rw [hask] at a1 a2 a3 a4 a5 a6; simp only at a1 a2 a3 a4 a5 a6; have HASK := Lib.hid hask; have hown := R.log.1; rw [hlv] at c89 hown; have HOWN := Lib.hid hown; have HLV := Lib.hid hlv; have HFEW := Lib.hid hfew; clear R hok hB hl hBs hask hown hlv hfew
 have hv := heap_alloc_new w (.cells #[.string p0, .int .u32 i0, .int .i64 q0, .string p1, .int .u32 i1, .int .i64 q1, .string p2, .int .u32 i2, .int .i64 q2, .string p3, .int .u32 i3, .int .i64 q3] 78)
 have hb1 : Below w.heap.size w (w.alloc (.cells #[.string p0, .int .u32 i0, .int .i64 q0, .string p1, .int .u32 i1, .int .i64 q1, .string p2, .int .u32 i2, .int .i64 q2, .string p3, .int .u32 i3, .int .i64 q3] 78)) := (Below.refl _ _).alloc (Nat.le_refl _) _
 have hsz : (w.alloc (.cells #[.string p0, .int .u32 i0, .int .i64 q0, .string p1, .int .u32 i1, .int .i64 q1, .string p2, .int .u32 i2, .int .i64 q2, .string p3, .int .u32 i3, .int .i64 q3] 78)).heap.size = w.heap.size + 1 := by simp
 go_enter Tryz.func96, Tryz.ntmps96; go_upto_region 2 with fail; generalize w.alloc (.cells #[.string p0, .int .u32 i0, .int .i64 q0, .string p1, .int .u32 i1, .int .i64 q1, .string p2, .int .u32 i2, .int .i64 q2, .string p3, .int .u32 i3, .int .i64 q3] 78) = W0 at *
 have HSZ := Lib.hid hsz; have HGL := Lib.hid hgl
 have HOW : Hid (∀ (W : World), Below w.heap.size w W → W.ownsRow 0 80 21 (.slice hlA S.log.length hlc) S.log.length (logCells S.log)) := fun W hb => by
  rw [← HLV.out]; exact (HR.out.log.grown (growBl (r := none) hb) (fun _ _ e => by cases e)).1
 have HNE : Hid ((Value.slice hlA S.log.length hlc).ownBlock ≠ some g ∧ (Value.slice hlA S.log.length hlc).ownBlock ≠ some w.heap.size) := by
  rw [← HLV.out]; refine ⟨fun e => ?_, fun e => by have := HR.out.log.lt _ e; omega⟩; obtain ⟨cur, hc⟩ := HR.out.log.type e; have hg : w.heap[g]? = some (.cells _ 102 (0, 0)) := HR.out.blk; rw [hg] at hc; simp only [Option.some.injEq, Obj.cells.injEq] at hc; exact absurd hc.2.1 (by decide)
 have HB1 := Lib.hid hb1; have hk : ∀ i u, w.cell? ⟨g, i, none⟩ = some u → W0.cell? ⟨g, i, none⟩ = some u := fun i u hu => (World.cell?_of_block (a := ⟨g, i, none⟩) (hb1.block g hgl)).trans hu; have d89 := hk _ _ c89; have d1 := hk _ _ a1; have d2 := hk _ _ a2; have d3 := hk _ _ a3; have d4 := hk _ _ a4; have d5 := hk _ _ a5; have d6 := hk _ _ a6
 obtain ⟨t0, t1, t2, t3, t4, t5, t6, t7, t8, t9, t10, t11⟩ := crow12 hv; have HFZ : Hid (∀ W : World, W.heap[g]? = W0.heap[g]? → W.frozen? ⟨g, 89, none⟩ = false ∧ W.cell? ⟨g, 89, none⟩ = some (.slice hlA S.log.length hlc)) := fun W h => ⟨(World.frozen?_of_block (a := ⟨g, 89, none⟩) (h.trans (hb1.block g hgl))).trans f89, (World.cell?_of_block (a := ⟨g, 89, none⟩) h).trans (hk _ _ c89)⟩
 clear hv hb1 f89 c89 a1 a2 a3 a4 a5 a6 hk; obtain ⟨LC, hLC⟩ : ∃ LC, LC = logCells S.log := ⟨_, rfl⟩
 obtain ⟨LN, hLN⟩ : ∃ LN, LN = S.log.length := ⟨_, rfl⟩
 rw [← hLC, ← hLN] at HOW; rw [← hLN] at HFZ HFEW HLV HNE d89; have HLC := Lib.hid (And.intro hLC hLN); have hgW : g < W0.heap.size := by omega
 have hqW : w.heap.size < W0.heap.size := by omega
 clear hLC hLN HOWN hgl hsz
 go_cut [10] (fun tv wx => tv = .pointer (some ⟨g, 5 + n * 28, none⟩) ∧ Hid (∃ lv2, WardRep wx H B g p (S.put ⟨kind, n, ⟨arch, nr, x0, x1, x2, x3⟩, ⟨⟨p0, i0, q0⟩, ⟨p1, i1, q1⟩, ⟨p2, i2, q2⟩, ⟨p3, i3, q3⟩⟩, errno⟩) A c Ap cp m lv2 bv sv ∧ Frame B w wx))
 case first =>
  go_region_law ((refine step_append_ent (by rfl) (.tmp 22) (.tmp 32) (by rfl) W0.heap.size LN (.slice hlA LN hlc) LC ⟨kind, n, ⟨arch, nr, x0, x1, x2, x3⟩, ⟨⟨p0, i0, q0⟩, ⟨p1, i1, q1⟩, ⟨p2, i2, q2⟩, ⟨p3, i3, q3⟩⟩, errno⟩ (by simp [Act.eval]) (by simp [Act.eval]) (HOW.out _ (by exact (HB1.out.drew).alloc (by have := HSZ.out; show w.heap.size ≤ W0.heap.size; omega) _)) (heap_alloc_new _ _) (by have := HFEW.out; omega) ?_; intro g1 cap1 w1 hown1 hgrow1 hat1 hlt1; have HN1 := Lib.hid (And.intro hown1 (And.intro hgrow1 (And.intro hat1 hlt1))); obtain ⟨z89, r89⟩ := HFZ.out w1 (kept_alloc hgrow1 (by have := HSZ.out; have := HGL.out; omega) HNE.out.1); clear hown1 hgrow1 hat1 hlt1))
  all_goals
   go_wp2_with fail
   go_meet
   refine ⟨rfl, ?_⟩; obtain ⟨hown, hgrow, hat, _⟩ := HN1.out; exact ends_logged HR.out HLB.out HLC.out HLV.out hown (grown_via (by first | exact (HB1.out.alloc (by have := HSZ.out; omega) _).drew | exact HB1.out.drew.alloc (by have := HSZ.out; show w.heap.size ≤ W0.heap.size; omega) _) hgrow) (hat.imp id (fun e => by rw [e]; have := HSZ.out; simp; omega))
 case rest =>
  obtain ⟨rfl, hX⟩ := hcut; obtain ⟨lv2, hR2, hF2⟩ := hX; obtain ⟨As, cs, hsv, hse⟩ := hR2.sealOf hn; have a27 := hR2.thr hn (j := 27) rfl; rw [hsv] at a27; have e0 : ((S.put ⟨kind, n, ⟨arch, nr, x0, x1, x2, x3⟩, ⟨⟨p0, i0, q0⟩, ⟨p1, i1, q1⟩, ⟨p2, i2, q2⟩, ⟨p3, i3, q3⟩⟩, errno⟩).t n).seals = (S.t n).seals := rfl; rw [e0] at a27 hsv; obtain ⟨L, hL⟩ : ∃ L, L = (S.t n).seals := ⟨_, rfl⟩
  rw [← hL] at a27 hsv; have HL := Lib.hid hL; have HSV := Lib.hid hsv; have HR2 := Lib.hid hR2; have HF2 := Lib.hid hF2
  have HEQ : Hid (endsS S n kind errno ⟨⟨p0, i0, q0⟩, ⟨p1, i1, q1⟩, ⟨p2, i2, q2⟩, ⟨p3, i3, q3⟩⟩ = if kind = 3 then ((((S.put ⟨kind, n, ⟨arch, nr, x0, x1, x2, x3⟩, ⟨⟨p0, i0, q0⟩, ⟨p1, i1, q1⟩, ⟨p2, i2, q2⟩, ⟨p3, i3, q3⟩⟩, errno⟩).setM (freesS (S.put ⟨kind, n, ⟨arch, nr, x0, x1, x2, x3⟩, ⟨⟨p0, i0, q0⟩, ⟨p1, i1, q1⟩, ⟨p2, i2, q2⟩, ⟨p3, i3, q3⟩⟩, errno⟩).m L)).setT n ThrS.zero).setT n ThrS.dead) else (((S.put ⟨kind, n, ⟨arch, nr, x0, x1, x2, x3⟩, ⟨⟨p0, i0, q0⟩, ⟨p1, i1, q1⟩, ⟨p2, i2, q2⟩, ⟨p3, i3, q3⟩⟩, errno⟩).setM (freesS (S.put ⟨kind, n, ⟨arch, nr, x0, x1, x2, x3⟩, ⟨⟨p0, i0, q0⟩, ⟨p1, i1, q1⟩, ⟨p2, i2, q2⟩, ⟨p3, i3, q3⟩⟩, errno⟩).m L)).setT n ThrS.zero)) := by
   show _ = _; have em : (S.put ⟨kind, n, ⟨arch, nr, x0, x1, x2, x3⟩, ⟨⟨p0, i0, q0⟩, ⟨p1, i1, q1⟩, ⟨p2, i2, q2⟩, ⟨p3, i3, q3⟩⟩, errno⟩).m = S.m := rfl; rw [em]; rw [hL]
   by_cases h3 : kind = 3
   ·rw [if_pos h3]; subst h3; rw [endsS_eq3, HASK.out]
   ·rw [if_neg h3, endsS_eq0 _ _ _ _ _ h3, HASK.out]
  have HOK2 : Hid ((S.put ⟨kind, n, ⟨arch, nr, x0, x1, x2, x3⟩, ⟨⟨p0, i0, q0⟩, ⟨p1, i1, q1⟩, ⟨p2, i2, q2⟩, ⟨p3, i3, q3⟩⟩, errno⟩).ok) := ⟨HOK.out.thr, by show (S.log ++ [_]).length ≤ _; have := HFEW.out; have := HLC.out.2; simp; omega⟩
  have HS1 : Hid (((S.put ⟨kind, n, ⟨arch, nr, x0, x1, x2, x3⟩, ⟨⟨p0, i0, q0⟩, ⟨p1, i1, q1⟩, ⟨p2, i2, q2⟩, ⟨p3, i3, q3⟩⟩, errno⟩).t n).seals = L) := hL.symm; generalize S.put ⟨kind, n, ⟨arch, nr, x0, x1, x2, x3⟩, ⟨⟨p0, i0, q0⟩, ⟨p1, i1, q1⟩, ⟨p2, i2, q2⟩, ⟨p3, i3, q3⟩⟩, errno⟩ = S1 at *
  clear HLC HR HOW HNE HFZ HLV hR2 hF2 hsv hL hse e0 d89 d1 d2 d3 d4 d5 d6 t0 t1 t2 t3 t4 t5 t6 t7 t8 t9 t10 t11 HFEW HGL HSZ hgW hqW HB1
  have HLO : Hid (L.length ≤ 100 ∧ ∀ a ∈ L, a < 18446744073709551616) := by
   have := HOK.out.thr n; rw [HL.out]; exact ⟨this.seals, this.sealed⟩
  clear HOK HASK HL
  go_wp2_with fail
  go_loopw [41] (fun iv wr => ∃ i : Nat, i ≤ L.length ∧ iv = .int .i64 i ∧ Hid (∃ M, WardRep wr H B g p (S1.setM M) A c Ap cp m lv2 bv sv ∧ (S1.t n).seals = L ∧ freesS M (L.drop i) = freesS S1.m L) ∧ Hid (Frame B w wr)) (fun iv _ => L.length - (intOf iv).toNat)
  case atStart => exact ⟨0, by omega, rfl, ⟨S1.m, HR2.out, HS1.out, rfl⟩, HF2.out⟩
  case round =>
   obtain ⟨i, hi, rfl, hM, HF⟩ := hrel; obtain ⟨M, hRm, hsl, hfr⟩ := hM
   by_cases hlt : i < L.length
   ·have z1 : (i : Int) < (L.length : Int) := by omega
    have l100 : L.length ≤ 100 := HLO.out.1; have z0 : (0 : Int) ≤ (i : Int) := by omega
    obtain ⟨a, ha⟩ : ∃ a, L[i]? = some a := ⟨_, List.getElem?_eq_getElem hlt⟩
    obtain ⟨As', cs', h1, h2⟩ := hRm.sealOf hn; have e1 : ((S1.setM M).t n).seals = L := hsl; rw [e1] at h1 h2; rw [HSV.out] at h1; simp only [Value.slice.injEq, true_and] at h1; obtain ⟨rfl, rfl⟩ := h1; obtain ⟨b, rfl, hcell⟩ := h2 i a ha; obtain ⟨_, _, _, _, c4, _⟩ := hRm.head; have hlo := HLO.out.2 a (List.mem_of_getElem? ha)
    have HC : Hid (Calls Tryz.prog 147 #[.pointer (some ⟨m, 0, none⟩), .int .u64 (a : Int)] wr fun e w' => e = .returned (errV (freeE M a)) ∧ Hid (WardRep w' H B g p (S1.setM (freeS M a)) A c Ap cp m lv2 bv sv ∧ Frame B wr w')) :=
     (memFree_any m B M a wr hRm.mem hlo).mono fun e w' ⟨k1, k2, k3⟩ => ⟨k1, hRm.memSet HLB.out.1 HLB.out.2.1 k3 k2⟩
    have HFR : Hid (freesS (freeS M a) (L.drop (i + 1)) = freesS S1.m L) := (freesS_drop M L i a ha).symm.trans hfr; have HSL := Lib.hid hsl; clear hRm hfr h2 e1 ha hlo hsl
    go_wp2_with (go_at_call 147; refine cargs (by simp [Act.eval]) (HC.out.mono ?_); rintro e w5 ⟨rfl, hr5⟩; have HR5 := Lib.hid hr5; clear hr5)
    go_roundw
    case rel => exact ⟨i + 1, by omega, by go_num, ⟨_, HR5.out.out.1, HSL.out, HFR.out⟩, HF.out.trans HR5.out.out.2⟩
    case measure => simp [intOf]; omega
   ·obtain rfl : i = L.length := by omega
    rw [List.drop_length, freesS] at hfr; subst hfr; have hW := hRm.at HLB.out.1 HLB.out.2.1 ⟨HOK2.out.thr, HOK2.out.few⟩; have hth := hRm.there hn; have H0 := hW.setAll hn (T := ThrS.zero) rfl rfl zeroT_ok; have HF0 := HF.out.trans (Frame.sets wr HLB.out.1 (5 + n * 28) (thrCells ThrS.zero (.slice none 0 0) (.slice none 0 0))); obtain ⟨A', c', Ap', cp', m', lv', bv', sv', R0⟩ := H0.rep
    have q0 := R0.thr hn (j := 0) rfl; have z0 := R0.frozen (5 + n * 28); have H3 := H0.setC hn (j := 0) (v := .int .i64 6) (T := ThrS.dead) (by omega) (fun b s => by rw [setT_self]; rfl) (by rw [setT_self]; rfl) (by rw [setT_self]; rfl) deadT_ok
    have HF3 := HF0.trans (Frame.set (wr.setCells g (5 + n * 28) (thrCells ThrS.zero (.slice none 0 0) (.slice none 0 0))) HLB.out.1 (5 + n * 28 + 0) (.int .i64 6)); simp only [Nat.add_zero] at q0 H3 HF3; have hp : ((WardS.setT (S1.setM (freesS S1.m L)) n ThrS.zero).t n).phase = 0 := by rw [setT_self]; rfl
    rw [hp] at q0; have HX0 := Lib.hid (And.intro H0 HF0); have HX3 := Lib.hid (And.intro H3 HF3); clear hRm hW H0 HF0 H3 HF3 R0 hp; rw [zeroThr_is] at q0 z0 HX0 HX3; have HTH : Hid (wr.there g (5 + n * 28) zeroThr.size) := hth; clear hth
    go_upto_region 9 with (first
     | (refine wpList_buildTo rfl _ _ rfl (some 53) rfl zeroThr (by kernel_rfl) ?_)
     | (refine wpList_store_mid rfl 99 (.tmp 54) (.tmp 53) rfl g (5 + n * 28) zeroThr (by simp [Act.eval]) (by simp [Act.eval]) HTH.out thread_info zeroThr_one ?_))
    generalize wr.setCells g (5 + n * 28) zeroThr.toList = W9 at *
    by_cases h3 : kind = 3
    ·subst h3
     go_wp2_with fail
     go_returns
     refine ⟨rfl, ?_⟩; rw [HEQ.out]; exact HX3.out
    ·have HE2 := HEQ.out; rw [if_neg h3] at HE2; have HE3 := Lib.hid HE2; clear HE2 HEQ
     go_wp2_with fail
     go_returns
     refine ⟨rfl, ?_⟩; rw [HE3.out]; exact HX0.out
end Go.Proofs.YtmgngapkgcofnabGreatDoor
