/- Values of pointers; policy.seen: the walk. -/
import Derived.Test.YtmgngapkgcofnabGreatDoorP20
import Derived.Test.YtmgngapkgcofnabGreatDoorP23
import Derived.Test.YtmgngapkgcofnabGreatDoorP16
import Derived.BigQuiet
namespace Go.Proofs.YtmgngapkgcofnabGreatDoor
open Go.RowKit
structure ValD where
 path : ByteArray
 ip : Int
 port : Int
structure ValsD where
 v0 : ValD
 v1 : ValD
 v2 : ValD
 v3 : ValD
def ValsD.at_ (v : ValsD) (i : Nat) : ValD := if i = 0 then v.v0 else if i = 1 then v.v1 else if i = 2 then v.v2 else v.v3
def ValsD.cells (v : ValsD) : Array Value := #[.string v.v0.path, .int .u32 v.v0.ip, .int .i64 v.v0.port, .string v.v1.path, .int .u32 v.v1.ip, .int .i64 v.v1.port, .string v.v2.path, .int .u32 v.v2.ip, .int .i64 v.v2.port, .string v.v3.path, .int .u32 v.v3.ip, .int .i64 v.v3.port]
def ValsD.v (v : ValsD) : Value := .agg v.cells
def ValD.ok (x : ValD) : Prop := x.path.size ≤ 100000 ∧ (0 ≤ x.ip ∧ x.ip < 4294967296)
def ValsD.ok (v : ValsD) : Prop := v.v0.ok ∧ v.v1.ok ∧ v.v2.ok ∧ v.v3.ok
theorem ValsD.ok_at {v : ValsD} (h : v.ok) (i : Nat) : (v.at_ i).ok := by
 obtain ⟨h0, h1, h2, h3⟩ := h; unfold ValsD.at_; split
 ·exact h0
 ·split
  ·exact h1
  ·split
   ·exact h2
   ·exact h3
theorem vals_row (w : World) (v : ValsD) (t : TypeId) (W : World) (h : Below (w.alloc (.cells v.cells t)).heap.size (w.alloc (.cells v.cells t)) W) (A : Nat) (hA : A < 4) :
  W.cell? ⟨w.heap.size, A * 3, none⟩ = some (.string (v.at_ A).path) ∧ W.cell? ⟨w.heap.size, A * 3 + 1, none⟩ = some (.int .u32 (v.at_ A).ip) ∧ W.cell? ⟨w.heap.size, A * 3 + 2, none⟩ = some (.int .i64 (v.at_ A).port) := by
 have hs : w.heap.size < (w.alloc (.cells v.cells t)).heap.size := by simp
 have hA4 : A = 0 ∨ A = 1 ∨ A = 2 ∨ A = 3 := by omega
 refine ⟨?_, ?_, ?_⟩ <;> (rw [h.cell (p := ⟨w.heap.size, _, none⟩) hs, cell_of_row _ _ _ _ _ _ (heap_alloc_new _ _)]; rcases hA4 with rfl | rfl | rfl | rfl <;> rfl)
def seenC (v : ValsD) (c : CondD) : Bool := if c.op = 8 then matchB c.glob (v.at_ c.arg.toNat).path else if c.op = 9 then netHas c.net (v.at_ c.arg.toNat).ip.toNat (v.at_ c.arg.toNat).port else true
def seenB (v : ValsD) (cs : List CondD) : Bool := cs.all (seenC v)
theorem seen_no {f : CondD → Bool} {cs : List CondD} {k : Nat} {x : CondD} (hk : cs[k]? = some x) (h : f x = false) : cs.all f = false := by
 rw [Bool.eq_false_iff]; intro hall; have := List.all_eq_true.1 hall x (List.mem_of_getElem? hk); rw [h] at this; cases this
theorem seen_next {f : CondD → Bool} {cs : List CondD} {k : Nat} {x : CondD} (hk : cs[k]? = some x) (ha : (cs.take k).all f = true) (h : f x = true) : (cs.take (k + 1)).all f = true := by
 rw [List.take_add_one, hk, List.all_append, ha]; simp only [Option.toList_some, List.all_cons, List.all_nil, h, Bool.and_true]
set_option linter.unusedSimpArgs false in
set_option maxRecDepth 100000 in
set_option maxHeartbeats 4000000 in
theorem seen_any (nr : Int) (sv : Value) (conds : List CondD) (rk re : Int) (v : ValsD) (w : World) (hcs : CondsSl w w.heap.size sv conds)
  (hops : ∀ x ∈ conds, (0 ≤ x.arg ∧ x.arg ≤ 3) ∧ 1 ≤ x.op ∧ x.op ≤ 9) (hg : ∀ x ∈ conds, x.glob.size ≤ 4096) (hl : conds.length ≤ 100000) (hv : v.ok) :
  Calls Tryz.prog 74 #[.agg #[.int .i64 nr, sv, .int .i64 rk, .int .i64 re], v.v] w fun e w' => e = .returned (.bool (seenB v conds)) ∧ Below w.heap.size w w' := by
 have HFE : Hid (conds.all (seenC v) = seenB v conds) := rfl; have HNO := Lib.hid (fun k x (h1 : conds[k]? = some x) (h2 : seenC v x = false) => HFE.out.symm.trans (seen_no h1 h2)); have HPN : Hid (∀ k x, conds[k]? = some x → (conds.take k).all (seenC v) = true → seenC v x = true → (conds.take (k + 1)).all (seenC v) = true) := fun k x => seen_next
 have HP : Hid (∀ x, seenC v x = if x.op = 8 then matchB x.glob (v.at_ x.arg.toNat).path else if x.op = 9 then netHas x.net (v.at_ x.arg.toNat).ip.toNat (v.at_ x.arg.toNat).port else true) := fun x => rfl; have HVO : Hid (∀ i, (v.at_ i).ok) := fun i => ValsD.ok_at hv i; obtain ⟨A', c', rfl⟩ : ∃ A' c', sv = .slice A' conds.length c' := by obtain ⟨_, A', c', h, _⟩ := hcs; exact ⟨A', c', h⟩
 obtain ⟨P, hP⟩ : ∃ P : CondD → Bool, P = seenC v := ⟨_, rfl⟩
 rw [← hP] at HFE HNO HPN HP; clear hP; generalize seenB v conds = F at *
 have HCS := Lib.hid hcs; have HOPS := Lib.hid hops; have HG := Lib.hid hg; clear hcs hops hg hv; have HVR := Lib.hid (vals_row (w.alloc (.cells #[.int .i64 nr, .slice A' conds.length c', .int .i64 rk, .int .i64 re] 41)) v 78); have HC4 := Lib.hid (cell4 w (.int .i64 nr) (.slice A' conds.length c') (.int .i64 rk) (.int .i64 re) 41)
 have hw1 : (w.alloc (.cells #[.int .i64 nr, .slice A' conds.length c', .int .i64 rk, .int .i64 re] 41)).heap.size = w.heap.size + 1 := by simp
 obtain ⟨VA, hVA⟩ : ∃ VA : Nat → ValD, VA = v.at_ := ⟨_, rfl⟩
 rw [← hVA] at HVR HP HVO; clear hVA; obtain ⟨⟨p0, i0, q0⟩, ⟨p1, i1, q1⟩, ⟨p2, i2, q2⟩, ⟨p3, i3, q3⟩⟩ := v; unfold ValsD.v ValsD.cells; unfold ValsD.cells at HVR; simp only at HVR ⊢; rw [hw1] at HVR
 have HAB2 : Hid (Below w.heap.size w ((w.alloc (.cells #[.int .i64 nr, .slice A' conds.length c', .int .i64 rk, .int .i64 re] 41)).alloc (.cells #[.string p0, .int .u32 i0, .int .i64 q0, .string p1, .int .u32 i1, .int .i64 q1, .string p2, .int .u32 i2, .int .i64 q2, .string p3, .int .u32 i3, .int .i64 q3] 78))) := ((Below.refl _ _).alloc (Nat.le_refl _) _).alloc (by simp) _
 have HA1 : Hid (Below (w.alloc (.cells #[.int .i64 nr, .slice A' conds.length c', .int .i64 rk, .int .i64 re] 41)).heap.size (w.alloc (.cells #[.int .i64 nr, .slice A' conds.length c', .int .i64 rk, .int .i64 re] 41)) ((w.alloc (.cells #[.int .i64 nr, .slice A' conds.length c', .int .i64 rk, .int .i64 re] 41)).alloc (.cells #[.string p0, .int .u32 i0, .int .i64 q0, .string p1, .int .u32 i1, .int .i64 q1, .string p2, .int .u32 i2, .int .i64 q2, .string p3, .int .u32 i3, .int .i64 q3] 78))) := (Below.refl _ _).alloc (Nat.le_refl _) _
 go_enter Tryz.func74, Tryz.ntmps74; go_upto_region 1 with fail; generalize (w.alloc (.cells #[.int .i64 nr, .slice A' conds.length c', .int .i64 rk, .int .i64 re] 41)).alloc (.cells #[.string p0, .int .u32 i0, .int .i64 q0, .string p1, .int .u32 i1, .int .i64 q1, .string p2, .int .u32 i2, .int .i64 q2, .string p3, .int .u32 i3, .int .i64 q3] 78) = W2 at *
 obtain ⟨z0, z1, z2, z3⟩ := HC4.out W2 HA1.out
 go_wp2_with fail
 go_loopw [10] (fun iv wr => ∃ k : Nat, k ≤ conds.length ∧ iv = .int .i64 k ∧ Hid ((conds.take k).all P = true) ∧ Hid (Below W2.heap.size W2 wr)) (fun iv _ => conds.length - (intOf iv).toNat)
 case atStart => exact ⟨0, Nat.zero_le _, rfl, rfl, Below.refl _ _⟩
 case round =>
  obtain ⟨k, hk, rfl, hAll, hB⟩ := hrel; have HBW : Hid (Below w.heap.size w wr) := HAB2.out.trans (hB.out.mono HAB2.out.size)
  by_cases hkl : k < conds.length
  ·have y2 : (k : Int) < (conds.length : Int) := by omega
   have y3 : (0 : Int) ≤ (k : Int) := by omega
   have hlk : conds[k]? = some conds[k] := by simp
   obtain ⟨hcok, A2, c2, hA2, hrw⟩ := HCS.out.below HBW.out (Nat.le_refl _); obtain ⟨rfl, rfl⟩ : A' = A2 ∧ c' = c2 := by simpa using hA2
   obtain ⟨b2, o2, rfl, hb2, hrow2⟩ := hrw.resolve_left (by intro e; rw [e] at hkl; simp at hkl); have hr9 := hrow2 k _ hlk; have hnok := (hcok conds[k] (by simp)).2.2.2.2.2; obtain ⟨⟨ha0, ha3⟩, ho1, ho9⟩ := HOPS.out conds[k] (by simp); have hgs := HG.out conds[k] (by simp); have HPY : Hid (P conds[k] = true → (conds.take (k + 1)).all P = true) := fun h => HPN.out k _ hlk hAll.out h
   have HPX : Hid (P conds[k] = false → F = false) := HNO.out k _ hlk; have HPV := Lib.hid (HP.out conds[k]); clear hcok hA2 hrw hrow2 hlk; generalize conds[k] = CC at *
   obtain ⟨arg, op, v, m, glob, net⟩ := CC; simp only at hnok ha0 ha3 ho1 ho9 hgs HPV; obtain ⟨A, rfl⟩ : ∃ A : Nat, arg = A := ⟨arg.toNat, by omega⟩
   have hA4 : (A : Int) < 4 := by omega
   have hA0 : (0 : Int) ≤ (A : Int) := by omega
   simp only [Int.toNat_natCast] at HPV; obtain ⟨hvo1, hvo2, hvo3⟩ := HVO.out A; have HVA := Lib.hid (fun W h => HVR.out W h A (by omega)); generalize VA A = V at *
   obtain ⟨vp, vi, vq⟩ := V; simp only at hvo1 hvo2 hvo3 HVA HPV; obtain ⟨vi, rfl⟩ : ∃ j : Nat, vi = j := ⟨vi.toNat, by omega⟩
   simp only [Int.toNat_natCast] at HPV; have HMC : Hid (∀ W : World, Calls Tryz.prog 130 #[.string glob, .string vp] W fun e w' => e = .returned (.bool (matchB glob vp)) ∧ Below W.heap.size W w') := fun W => globMatch_any glob vp W hgs hvo1
   have HHC : Hid (∀ W : World, Calls Tryz.prog 131 #[net.v, .int .u32 (vi : Int), .int .i64 vq] W fun e w' => e = .returned (.bool (netHas net vi vq)) ∧ Below W.heap.size W w') := fun W => has_any net vi vq W hnok (by omega); obtain ⟨ip, bits, lo, hi⟩ := net; have e0 : wr.cell? ⟨b2, o2 + k * 9, none⟩ = some (.int .i64 (A : Int)) := hr9 0 _ rfl; have e1 := hr9 1 _ rfl; have e2 := hr9 2 _ rfl
   have e3 := hr9 3 _ rfl; have e4 := hr9 4 _ rfl; have e5 := hr9 5 _ rfl; have e6 := hr9 6 _ rfl; have e7 := hr9 7 _ rfl; have e8 := hr9 8 _ rfl; simp only at e1 e2 e3 e4 e5 e6 e7 e8; have HC9 := Lib.hid (cell9 wr (.int .i64 (A : Int)) (.int .i64 op) (.int .u64 v) (.int .u64 m) (.string glob) (.int .u32 ip) (.int .i64 bits) (.int .i64 lo) (.int .i64 hi) 47)
   have HAB9 := Lib.hid (above wr (.cells #[.int .i64 (A : Int), .int .i64 op, .int .u64 v, .int .u64 m, .string glob, .int .u32 ip, .int .i64 bits, .int .i64 lo, .int .i64 hi] 47)); unfold NetD.v at HHC; simp only at HHC; clear hr9 hnok hgs hvo1 HP HVO HNO HPN HCS HOPS HG HVR; go_upto_region 4 with fail
   generalize wr.alloc (.cells #[.int .i64 (A : Int), .int .i64 op, .int .u64 v, .int .u64 m, .string glob, .int .u32 ip, .int .i64 bits, .int .i64 lo, .int .i64 hi] 47) = W3 at *
   clear e0 e1 e2 e3 e4 e5 e6 e7 e8; have HB3 := Lib.hid (HAB9.out W3 (Below.refl _ _)); have HB23 : Hid (Below W2.heap.size W2 W3) := hB.out.trans (HB3.out.mono hB.out.size); have HK : Hid (∀ W, Below W3.heap.size W3 W → Below W2.heap.size W2 W) := fun W h => HB23.out.trans (h.mono HB23.out.size)
   have HKW : Hid (∀ W, Below W3.heap.size W3 W → Below w.heap.size w W) := fun W h => HAB2.out.trans ((HK.out W h).mono HAB2.out.size); obtain ⟨j0, j1, j2, j3, j4, j5, j6, j7, j8⟩ := HC9.out W3 (Below.refl _ _); obtain ⟨u0, u1, u2⟩ := HVA.out W3 HB23.out; have r0 := cell_regrown j0; have r1 := cell_regrown j1; have r4 := cell_regrown j4; have r5 := cell_regrown j5; have r6 := cell_regrown j6
   have r7 := cell_regrown j7; have r8 := cell_regrown j8; have x0 := cell_regrown u0; have x1 := cell_regrown u1; have x2 := cell_regrown u2; clear HAB9 j0 j1 j2 j3 j4 j5 j6 j7 j8 u0 u1 u2 HC9
   by_cases h8 : op = 8
   ·subst h8; have HMC2 := fun d os => Calls.regrown_of (HMC.out (Go.Sort.grow (redrawn W3 d) os)); have HPV2 : Hid (P ⟨A, 8, v, m, glob, ⟨ip, bits, lo, hi⟩⟩ = matchB glob vp) := HPV.out
    cases hM : matchB glob vp with
    | true =>
     rw [hM] at HMC2; have HPT := Lib.hid (HPY.out (HPV2.out.trans hM)); clear hM HPV HPV2 HMC HHC; refine wp_region_quiet_below (by kernel_rfl) (by kernel_rfl) ?_
     repeat (go_big_quiet_step (first | exact HMC2 _ _))
     refine wpQuiet_nil ?_; intro _ hw'; obtain ⟨⟨dq, osq⟩, hw''⟩ := hw'; subst hw''
     go_wp2_with fail; go_roundw
     case rel => exact ⟨k + 1, by omega, by go_num, HPT, HK.out _ (below_regrown W3 dq osq)⟩
     case measure => simp [intOf]; omega
    | false =>
     rw [hM] at HMC2; have HFF : Hid (F = false) := HPX.out (HPV2.out.trans hM); clear hM HPV HPV2 HMC HHC; refine wp_region_quiet_below (by kernel_rfl) (by kernel_rfl) ?_
     repeat (go_big_quiet_step (first | exact HMC2 _ _))
     refine wpQuiet_nil ?_; intro _ hw'; obtain ⟨⟨dq, osq⟩, hw''⟩ := hw'; subst hw''
     go_wp2_with fail
     go_returns
     exact ⟨by rw [HFF.out]; rfl, HKW.out _ (below_regrown W3 dq osq)⟩
   ·have t8 : ((op : Int) == 8) = false := beq_eq_false_iff_ne.2 h8
    by_cases h9 : op = 9
    ·subst h9; have HHC2 := fun d os => Calls.regrown_of (HHC.out (Go.Sort.grow (redrawn W3 d) os)); have HPV2 : Hid (P ⟨A, 9, v, m, glob, ⟨ip, bits, lo, hi⟩⟩ = netHas ⟨ip, bits, lo, hi⟩ vi vq) := HPV.out
     cases hM : netHas ⟨ip, bits, lo, hi⟩ vi vq with
     | true =>
      rw [hM] at HHC2; have HPT := Lib.hid (HPY.out (HPV2.out.trans hM)); clear hM HPV HPV2 HMC HHC h8; refine wp_region_quiet_below (by kernel_rfl) (by kernel_rfl) ?_
      repeat (go_big_quiet_step (first | exact HHC2 _ _))
      refine wpQuiet_nil ?_; intro _ hw'; obtain ⟨⟨dq, osq⟩, hw''⟩ := hw'; subst hw''
      go_wp2_with fail; go_roundw
      case rel => exact ⟨k + 1, by omega, by go_num, HPT, HK.out _ (below_regrown W3 dq osq)⟩
      case measure => simp [intOf]; omega
     | false =>
      rw [hM] at HHC2; have HFF : Hid (F = false) := HPX.out (HPV2.out.trans hM); clear hM HPV HPV2 HMC HHC h8; refine wp_region_quiet_below (by kernel_rfl) (by kernel_rfl) ?_
      repeat (go_big_quiet_step (first | exact HHC2 _ _))
      refine wpQuiet_nil ?_; intro _ hw'; obtain ⟨⟨dq, osq⟩, hw''⟩ := hw'; subst hw''
      go_wp2_with fail
      go_returns
      exact ⟨by rw [HFF.out]; rfl, HKW.out _ (below_regrown W3 dq osq)⟩
    ·have t9 : ((op : Int) == 9) = false := beq_eq_false_iff_ne.2 h9; have HPT := Lib.hid (HPY.out (HPV.out.trans (by rw [if_neg h8, if_neg h9]))); clear HPV HMC HHC h8 h9; refine wp_region_quiet_below (by kernel_rfl) (by kernel_rfl) ?_
     repeat (go_big_quiet_step (fail))
     refine wpQuiet_nil ?_; intro _ hw'; obtain ⟨⟨dq, osq⟩, hw''⟩ := hw'; subst hw''
     go_wp2_with fail; go_roundw
     case rel => exact ⟨k + 1, by omega, by go_num, HPT, HK.out _ (below_regrown W3 dq osq)⟩
     case measure => simp [intOf]; omega
  ·obtain rfl : k = conds.length := by omega
   rw [List.take_length] at hAll; have HFT : Hid (F = true) := HFE.out.symm.trans hAll.out
   go_wp2_with fail
   go_returns
   exact ⟨by rw [HFT.out]; rfl, HBW.out⟩
end Go.Proofs.YtmgngapkgcofnabGreatDoor
