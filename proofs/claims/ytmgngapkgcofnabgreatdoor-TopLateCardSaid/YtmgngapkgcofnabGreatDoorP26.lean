/- policy.Decide: the walk. Printed by gendecide.py. -/
import Derived.Test.YtmgngapkgcofnabGreatDoorP21
import Derived.Test.YtmgngapkgcofnabGreatDoorP24
import Derived.Test.YtmgngapkgcofnabGreatDoorP25
namespace Go.Proofs.YtmgngapkgcofnabGreatDoor
open Go.RowKit
theorem heaps4 (w : World) (o1 o2 o3 o4 : Obj) (W : World) (h : Below ((((w.alloc o1).alloc o2).alloc o3).alloc o4).heap.size ((((w.alloc o1).alloc o2).alloc o3).alloc o4) W) :
  Below w.heap.size w W ∧ W.heap[w.heap.size]? = some o1 ∧ W.heap[w.heap.size + 1]? = some o2 ∧ W.heap[w.heap.size + 2]? = some o3 ∧ W.heap[w.heap.size + 3]? = some o4 := by
 have e1 : (w.alloc o1).heap.size = w.heap.size + 1 := by simp
 have e2 : ((w.alloc o1).alloc o2).heap.size = w.heap.size + 2 := by simp
 have e3 : (((w.alloc o1).alloc o2).alloc o3).heap.size = w.heap.size + 3 := by simp
 have e4 : ((((w.alloc o1).alloc o2).alloc o3).alloc o4).heap.size = w.heap.size + 4 := by simp
 rw [e4] at h; have b1 : ∀ (W : World) (o : Obj), Below W.heap.size W (W.alloc o) := fun W o => (Below.refl _ _).alloc (Nat.le_refl _) o; have n1 := heap_alloc_new w o1; have n2 := heap_alloc_new (w.alloc o1) o2; have n3 := heap_alloc_new ((w.alloc o1).alloc o2) o3; have n4 := heap_alloc_new (((w.alloc o1).alloc o2).alloc o3) o4; rw [e1] at n2; rw [e2] at n3; rw [e3] at n4
 refine ⟨((((b1 w o1).alloc (by omega) o2).alloc (by omega) o3).alloc (by omega) o4).trans (h.mono (by omega)), ?_, ?_, ?_, ?_⟩
 ·exact (h.block _ (by omega)).trans (((b1 _ o4).block _ (by omega)).trans (((b1 _ o3).block _ (by omega)).trans (((b1 _ o2).block _ (by omega)).trans n1)))
 ·exact (h.block _ (by omega)).trans (((b1 _ o4).block _ (by omega)).trans (((b1 _ o3).block _ (by omega)).trans n2))
 ·exact (h.block _ (by omega)).trans (((b1 _ o4).block _ (by omega)).trans n3)
 ·exact (h.block _ (by omega)).trans n4
theorem crow3 {w : World} {b : Nat} {t : TypeId} {a0 a1 a2 : Value} (h : w.heap[b]? = some (.cells #[a0, a1, a2] t (0, 0))) : w.cell? ⟨b, 0, none⟩ = some a0 ∧ w.cell? ⟨b, 1, none⟩ = some a1 ∧ w.cell? ⟨b, 2, none⟩ = some a2 :=
 ⟨(cell_of_row _ _ _ _ _ _ h).trans rfl, (cell_of_row _ _ _ _ _ _ h).trans rfl, (cell_of_row _ _ _ _ _ _ h).trans rfl⟩
theorem crow6 {w : World} {b : Nat} {t : TypeId} {a0 a1 a2 a3 a4 a5 : Value} (h : w.heap[b]? = some (.cells #[a0, a1, a2, a3, a4, a5] t (0, 0))) : w.cell? ⟨b, 0, none⟩ = some a0 ∧ w.cell? ⟨b, 1, none⟩ = some a1 ∧ w.cell? ⟨b, 2, none⟩ = some a2 ∧ w.cell? ⟨b, 3, none⟩ = some a3 ∧ w.cell? ⟨b, 4, none⟩ = some a4 ∧ w.cell? ⟨b, 5, none⟩ = some a5 :=
 ⟨(cell_of_row _ _ _ _ _ _ h).trans rfl, (cell_of_row _ _ _ _ _ _ h).trans rfl, (cell_of_row _ _ _ _ _ _ h).trans rfl, (cell_of_row _ _ _ _ _ _ h).trans rfl, (cell_of_row _ _ _ _ _ _ h).trans rfl, (cell_of_row _ _ _ _ _ _ h).trans rfl⟩
theorem crow12 {w : World} {b : Nat} {t : TypeId} {a0 a1 a2 a3 a4 a5 a6 a7 a8 a9 a10 a11 : Value} (h : w.heap[b]? = some (.cells #[a0, a1, a2, a3, a4, a5, a6, a7, a8, a9, a10, a11] t (0, 0))) : w.cell? ⟨b, 0, none⟩ = some a0 ∧ w.cell? ⟨b, 1, none⟩ = some a1 ∧ w.cell? ⟨b, 2, none⟩ = some a2 ∧ w.cell? ⟨b, 3, none⟩ = some a3 ∧ w.cell? ⟨b, 4, none⟩ = some a4 ∧ w.cell? ⟨b, 5, none⟩ = some a5 ∧ w.cell? ⟨b, 6, none⟩ = some a6 ∧ w.cell? ⟨b, 7, none⟩ = some a7 ∧ w.cell? ⟨b, 8, none⟩ = some a8 ∧ w.cell? ⟨b, 9, none⟩ = some a9 ∧ w.cell? ⟨b, 10, none⟩ = some a10 ∧ w.cell? ⟨b, 11, none⟩ = some a11 :=
 ⟨(cell_of_row _ _ _ _ _ _ h).trans rfl, (cell_of_row _ _ _ _ _ _ h).trans rfl, (cell_of_row _ _ _ _ _ _ h).trans rfl, (cell_of_row _ _ _ _ _ _ h).trans rfl, (cell_of_row _ _ _ _ _ _ h).trans rfl, (cell_of_row _ _ _ _ _ _ h).trans rfl, (cell_of_row _ _ _ _ _ _ h).trans rfl, (cell_of_row _ _ _ _ _ _ h).trans rfl, (cell_of_row _ _ _ _ _ _ h).trans rfl, (cell_of_row _ _ _ _ _ _ h).trans rfl, (cell_of_row _ _ _ _ _ _ h).trans rfl, (cell_of_row _ _ _ _ _ _ h).trans rfl⟩
theorem below_store2 {B : Nat} {w w' : World} {b : Nat} (h : Below B w w') (hb : B ≤ b) (c0 c1 : Value) : Below B w ((w'.setCell ⟨b, 0, none⟩ c0).setCell ⟨b, 1, none⟩ c1) :=
 (h.setCell hb _).setCell hb _
def pickD (c : CallD) (v : ValsD) (k e : Int) : List RuleD → Int × Int
 | [] => (k, e)
 | r :: rs => if fitB c r && seenB v r.conds then (r.kind, r.errno) else pickD c v k e rs
def decideF (p : PolD) (c : CallD) (v : ValsD) : Int × Int := if c.arch = 3221225534 then pickD c v p.kind p.errno p.rules else (3, 0)
theorem pickD_at (c : CallD) (v : ValsD) (k e : Int) {rs : List RuleD} {i : Nat} {r : RuleD} (h : rs[i]? = some r) : pickD c v k e (rs.drop i) = if fitB c r && seenB v r.conds then (r.kind, r.errno) else pickD c v k e (rs.drop (i + 1)) := by
 obtain ⟨hi, rfl⟩ := List.getElem?_eq_some_iff.1 h; rw [List.drop_eq_getElem_cons hi, pickD]
def decideV (f : Int) (j : Int × Int) : Value := if f = 0 then .tuple #[.agg #[.int .i64 j.1, .int .i64 j.2], .nilIface] else .tuple #[.agg #[.int .i64 0, .int .i64 0], errV f]
set_option linter.unusedSimpArgs false in
set_option maxRecDepth 100000 in
set_option maxHeartbeats 8000000 in
theorem decide_any (v : Value) (p : PolD) (c : CallD) (vs : ValsD) (w : World) (h : PolAt w w.heap.size v p) (hg : ∀ r ∈ p.rules, ∀ c ∈ r.conds, c.glob.size ≤ 4096) (hl : p.rules.length ≤ 100000) (hcl : ∀ r ∈ p.rules, r.conds.length ≤ 100000) (hv : vs.ok) :
  Calls Tryz.prog 32 #[v, c.v, vs.v] w fun e w' => e = .returned (decideV (polF p) (decideF p c vs)) ∧ Below w.heap.size w w' := by
 obtain ⟨A, cp, rfl, hr⟩ := h; obtain ⟨A1, cp1, hA, hr⟩ := hr; obtain ⟨rfl, rfl⟩ : A = A1 ∧ cp = cp1 := by simpa using hA
 clear hA; obtain ⟨rules, pk, pe⟩ := p; simp only at hr hg hl hcl ⊢; have HR := Lib.hid hr
 have HCH : Hid (∀ W : World, Below w.heap.size w W → Calls Tryz.prog 72 #[.agg #[.slice A rules.length cp, .int .i64 pk, .int .i64 pe]] W fun e w' => e = .returned (errV (polF ⟨rules, pk, pe⟩)) ∧ Below W.heap.size W w') := fun W hb =>
  polCheck_any _ ⟨rules, pk, pe⟩ W ⟨A, cp, rfl, RulesSl.mono (RulesSl.below ⟨A, cp, rfl, HR.out⟩ hb (Nat.le_refl _)) hb.size⟩ (fun r hr c hc => by have := hg r hr c hc; omega) hl hcl
 have HZ : Hid (polF ⟨rules, pk, pe⟩ = 0 → ∀ r ∈ rules, (0 ≤ r.nr ∧ r.nr ≤ 8) ∧ r.conds.length ≤ 4 ∧ (∀ c ∈ r.conds, (0 ≤ c.arg ∧ c.arg ≤ 3) ∧ 1 ≤ c.op ∧ c.op ≤ 9) ∧ ∀ c ∈ r.conds, c.glob.size ≤ 4096) := fun h0 r hr => by
  obtain ⟨_, _, h3⟩ := polF_zero h0; obtain ⟨k1, k2, k3, k4, _⟩ := ruleF_zero (h3 r hr); exact ⟨⟨k1, k2⟩, k3, fun c hc => ⟨⟨(k4 c hc).1, (k4 c hc).2.1⟩, (k4 c hc).2.2⟩, hg r hr⟩
 have HFC : Hid (∀ (r : RuleD) (W : World) (A' : Option Addr) (c' : Nat), CondsSl W W.heap.size (.slice A' r.conds.length c') r.conds → (0 ≤ r.nr ∧ r.nr ≤ 8) → (∀ x ∈ r.conds, (0 ≤ x.arg ∧ x.arg ≤ 3) ∧ 1 ≤ x.op ∧ x.op ≤ 9) → r.conds.length ≤ 100000 → Calls Tryz.prog 73 #[.agg #[.int .i64 r.nr, .slice A' r.conds.length c', .int .i64 r.kind, .int .i64 r.errno], c.v] W fun e w' => e = .returned (.tuple #[.bool (fitB c r), .bool (fitB c r && deepN r.conds r.conds.length)]) ∧ Below W.heap.size W w') := fun r W A' c' h1 h2 h3 h4 => fits_any r.nr _ r.conds r.kind r.errno c W h1 h2 h3 h4
 have HSC : Hid (∀ (r : RuleD) (W : World) (A' : Option Addr) (c' : Nat), CondsSl W W.heap.size (.slice A' r.conds.length c') r.conds → (∀ x ∈ r.conds, (0 ≤ x.arg ∧ x.arg ≤ 3) ∧ 1 ≤ x.op ∧ x.op ≤ 9) → (∀ x ∈ r.conds, x.glob.size ≤ 4096) → r.conds.length ≤ 100000 → Calls Tryz.prog 74 #[.agg #[.int .i64 r.nr, .slice A' r.conds.length c', .int .i64 r.kind, .int .i64 r.errno], vs.v] W fun e w' => e = .returned (.bool (seenB vs r.conds)) ∧ Below W.heap.size W w') := fun r W A' c' h1 h2 h3 h4 => seen_any r.nr _ r.conds r.kind r.errno vs W h1 h2 h3 h4 hv
 have HPK : Hid (∀ (i : Nat) r, rules[i]? = some r → pickD c vs pk pe (rules.drop i) = if fitB c r && seenB vs r.conds then (r.kind, r.errno) else pickD c vs pk pe (rules.drop (i + 1))) := fun i r h => pickD_at c vs pk pe h; have HPE : Hid (pickD c vs pk pe (rules.drop rules.length) = (pk, pe)) := by show _ = _; rw [List.drop_length]; rfl
 have HJA : Hid (decideF ⟨rules, pk, pe⟩ c vs = if c.arch = 3221225534 then pickD c vs pk pe (rules.drop 0) else (3, 0)) := rfl; obtain ⟨PJ, hPJ⟩ : ∃ PJ : List RuleD → Int × Int, PJ = pickD c vs pk pe := ⟨_, rfl⟩
 rw [← hPJ] at HPK HPE HJA; obtain ⟨FB, hFB⟩ : ∃ FB : RuleD → Bool, FB = fitB c := ⟨_, rfl⟩
 rw [← hFB] at HFC HPK; obtain ⟨SB, hSB⟩ : ∃ SB : List CondD → Bool, SB = seenB vs := ⟨_, rfl⟩
 rw [← hSB] at HSC HPK; clear hPJ hFB hSB hr hg hcl hv; generalize decideF ⟨rules, pk, pe⟩ c vs = J at *
 generalize polF ⟨rules, pk, pe⟩ = F at *
 obtain ⟨arch, cnr, a0, a1, a2, a3⟩ := c; obtain ⟨⟨p0, i0, q0⟩, ⟨p1, i1, q1⟩, ⟨p2, i2, q2⟩, ⟨p3, i3, q3⟩⟩ := vs; unfold CallD.v at HFC ⊢; unfold ValsD.v ValsD.cells at HSC ⊢; simp only at HJA HFC HSC ⊢
 have HIN := Lib.hid (heaps4 w (.cells #[.slice A rules.length cp, .int .i64 pk, .int .i64 pe] 26) (.cells #[.int .u32 arch, .int .u32 cnr, .int .u64 a0, .int .u64 a1, .int .u64 a2, .int .u64 a3] 52) (.cells #[.string p0, .int .u32 i0, .int .i64 q0, .string p1, .int .u32 i1, .int .i64 q1, .string p2, .int .u32 i2, .int .i64 q2, .string p3, .int .u32 i3, .int .i64 q3] 78) (.cells #[.int .i64 0, .int .i64 0] 24))
 go_enter Tryz.func32, Tryz.ntmps32; go_upto_region 1 with fail
 generalize ((((w.alloc (.cells #[.slice A rules.length cp, .int .i64 pk, .int .i64 pe] 26)).alloc (.cells #[.int .u32 arch, .int .u32 cnr, .int .u64 a0, .int .u64 a1, .int .u64 a2, .int .u64 a3] 52)).alloc (.cells #[.string p0, .int .u32 i0, .int .i64 q0, .string p1, .int .u32 i1, .int .i64 q1, .string p2, .int .u32 i2, .int .i64 q2, .string p3, .int .u32 i3, .int .i64 q3] 78)).alloc (.cells #[.int .i64 0, .int .i64 0] 24)) = W0 at *
 obtain ⟨hbw0, hpp, _⟩ := HIN.out W0 (Below.refl _ _); obtain ⟨p0', p1', p2'⟩ := crow3 hpp; have HC0 := Lib.hid (HCH.out W0 hbw0); clear HCH hbw0 hpp
 by_cases hF : F = 0
 ·subst hF; have HJV : Hid (decideV 0 J = .tuple #[.agg #[.int .i64 J.1, .int .i64 J.2], .nilIface]) := rfl; have HC1 : Hid (Calls Tryz.prog 72 #[.agg #[.slice A rules.length cp, .int .i64 pk, .int .i64 pe]] W0 fun e w' => e = .returned .nilIface ∧ Below W0.heap.size W0 w') := HC0.out; have HRZ := Lib.hid (HZ.out rfl); clear HC0 HZ
  by_cases ha : arch = 3221225534
  ·subst ha; have HJ0 : Hid (J = PJ (rules.drop 0)) := HJA.out.trans (if_pos rfl); clear HJA
   go_upto_region 4 with (go_at_call 72; refine cargs (by simp [Act.eval]) (HC1.out.mono ?_); rintro e w1 ⟨rfl, hb1⟩; have HB1 := Lib.hid hb1; clear hb1)
   obtain ⟨_, hpp, hcc, _, _⟩ := HIN.out w1 HB1.out; obtain ⟨s0, s1, s2⟩ := crow3 hpp; obtain ⟨t0, t1, t2, t3, t4, t5⟩ := crow6 hcc; clear hpp hcc p0' p1' p2' HC1
   go_wp2_with fail
   go_loopw [26] (fun iv wr => ∃ i : Nat, i ≤ rules.length ∧ iv = .int .i64 i ∧ Hid (Below W0.heap.size W0 wr) ∧ Hid (J = PJ (rules.drop i))) (fun iv _ => rules.length - (intOf iv).toNat)
   case atStart => exact ⟨0, Nat.zero_le _, rfl, HB1, HJ0⟩
   case round =>
    clear s0 s1 s2 t0 t1 t2 t3 t4 t5 HB1 HJ0; obtain ⟨i, hi, rfl, HB, HP⟩ := hrel
    by_cases hlt : i < rules.length
    ·have x2 : (i : Int) < (rules.length : Int) := by omega
     have x3 : (0 : Int) ≤ (i : Int) := by omega
     have hli : rules[i]? = some rules[i] := by simp
     have HBW : Hid (Below w.heap.size w wr) := (HIN.out wr HB.out).1; obtain ⟨b, o, rfl, hb, hrow⟩ := HR.out.resolve_left (by intro e; rw [e] at hlt; simp at hlt); obtain ⟨A', c', hcs, hrg⟩ := hrow i _ hli; have hrg2 := rangeAt_below hrg HBW.out hb; have HCS := Lib.hid (CondsSl.mono (CondsSl.below hcs HBW.out (Nat.le_refl _)) HBW.out.size)
     have HP1 : Hid (J = if FB rules[i] && SB rules[i].conds then (rules[i].kind, rules[i].errno) else PJ (rules.drop (i + 1))) := HP.out.trans (HPK.out i _ hli); obtain ⟨z1, z2, z3, z4⟩ := HRZ.out rules[i] (by simp)
     have HFC1 := Lib.hid (fun (W : World) (A' : Option Addr) (c' : Nat) (hcsl : CondsSl W W.heap.size (.slice A' (rules[i]'hlt).conds.length c') (rules[i]'hlt).conds) => HFC.out (rules[i]'hlt) W A' c' hcsl z1 z3 (by omega))
     have HSC1 := Lib.hid (fun (W : World) (A' : Option Addr) (c' : Nat) (hcsl : CondsSl W W.heap.size (.slice A' (rules[i]'hlt).conds.length c') (rules[i]'hlt).conds) => HSC.out (rules[i]'hlt) W A' c' hcsl z3 z4 (by omega)); clear hcs hrg hrow hli z1 z2 z3 z4; generalize rules[i] = R at *
     obtain ⟨nr, conds, rk, re⟩ := R; simp only at hrg2 HCS HP1 HFC1 HSC1; have f0 : wr.cell? ⟨b, o + i * 4, none⟩ = some (.int .i64 nr) := hrg2 0 _ rfl; have f1 := hrg2 1 _ rfl; have f2 := hrg2 2 _ rfl; have f3 := hrg2 3 _ rfl; clear hrg2; have HC4 := Lib.hid (cell4 wr (.int .i64 nr) (.slice A' conds.length c') (.int .i64 rk) (.int .i64 re) 41)
     have HAB4 := Lib.hid (above wr (.cells #[.int .i64 nr, .slice A' conds.length c', .int .i64 rk, .int .i64 re] 41)); go_upto_region 9 with fail; generalize wr.alloc (.cells #[.int .i64 nr, .slice A' conds.length c', .int .i64 rk, .int .i64 re] 41) = W1 at *
     obtain ⟨g0, g1, g2, g3⟩ := HC4.out W1 (Below.refl _ _); have HB4 := Lib.hid (HAB4.out W1 (Below.refl _ _)); have HB01 : Hid (Below W0.heap.size W0 W1) := HB.out.trans (HB4.out.mono HB.out.size); obtain ⟨_, _, hcc, _, _⟩ := HIN.out W1 HB01.out; obtain ⟨t0, t1, t2, t3, t4, t5⟩ := crow6 hcc; clear hcc
     have HCSW : Hid (∀ W, Below W1.heap.size W1 W → CondsSl W W.heap.size (.slice A' conds.length c') conds) := fun W hb => CondsSl.mono (CondsSl.below (CondsSl.mono (CondsSl.below HCS.out HB4.out (Nat.le_refl _)) HB4.out.size) hb (Nat.le_refl _)) hb.size; have HFC2 := Lib.hid (HFC1.out W1 A' c' (HCSW.out W1 (Below.refl _ _))); have HSC2 := Lib.hid (fun W hb => HSC1.out W A' c' (HCSW.out W hb))
     clear f0 f1 f2 f3 HAB4 HFC1 HFC HCS HPK HR HSC HSC1 HCSW
     by_cases hfit : FB ⟨nr, conds, rk, re⟩ = true
     ·have HFC3 : Hid (∃ db, Calls Tryz.prog 73 #[.agg #[.int .i64 nr, .slice A' conds.length c', .int .i64 rk, .int .i64 re], .agg #[.int .u32 3221225534, .int .u32 cnr, .int .u64 a0, .int .u64 a1, .int .u64 a2, .int .u64 a3]] W1 fun e w' => e = .returned (.tuple #[.bool true, .bool db]) ∧ Below W1.heap.size W1 w') := ⟨_, HFC2.out.mono fun _ _ ⟨h1, h2⟩ => ⟨by rw [h1, hfit], h2⟩⟩
      obtain ⟨db, hfc4⟩ := HFC3.out; have HFC4 := Lib.hid hfc4; have HP2 : Hid (J = if SB conds then (rk, re) else PJ (rules.drop (i + 1))) := by show _ = _; rw [HP1.out, hfit, Bool.true_and]
      clear HFC2 HFC3 hfc4 HP1 hfit HP
      go_upto_region 10 with (go_at_call 73; refine cargs (by simp [Act.eval]) (HFC4.out.mono ?_); rintro e w2 ⟨rfl, hb2⟩; have HB2 := Lib.hid hb2; clear hb2)
      have HB02 : Hid (Below W0.heap.size W0 w2) := HB01.out.trans (HB2.out.mono HB01.out.size); obtain ⟨h0, h1, h2, h3⟩ := HC4.out w2 HB2.out; obtain ⟨_, _, _, hvv, _⟩ := HIN.out w2 HB02.out; obtain ⟨v0, v1, v2, v3, v4, v5, v6, v7, v8, v9, v10, v11⟩ := crow12 hvv; have HSC3 := Lib.hid (HSC2.out w2 HB2.out); clear hvv g0 g1 g2 g3 t0 t1 t2 t3 t4 t5 HFC4 HSC2
      cases hsb : SB conds with
      | true =>
       rw [hsb] at HSC3; have HJ1 : Hid (J = (rk, re)) := HP2.out.trans (by rw [hsb]; rfl); clear HP2 hsb
       go_upto_region 11 with (go_at_call 74; refine cargs (by simp [Act.eval]) (HSC3.out.mono ?_); rintro e w3 ⟨rfl, hb3⟩; have HB3 := Lib.hid hb3; clear hb3)
       have HB03 : Hid (Below W0.heap.size W0 w3) := HB02.out.trans (HB3.out.mono HB02.out.size); obtain ⟨_, _, g2', g3'⟩ := HC4.out w3 (HB2.out.trans (HB3.out.mono HB2.out.size)); clear h0 h1 h2 h3 v0 v1 v2 v3 v4 v5 v6 v7 v8 v9 v10 v11 HSC3; obtain ⟨hbf, hpf, _, _, hrf⟩ := HIN.out w3 HB03.out; obtain ⟨y0, y1⟩ := store2 hrf (.int .i64 rk) (.int .i64 re); obtain ⟨r0, r1, rz0, rz1⟩ := row2 hrf
       obtain ⟨u0, u1, u2⟩ := crow3 hpf; have HBS := Lib.hid (below_store2 hbf (show w.heap.size ≤ w.heap.size + 3 by omega) (.int .i64 rk) (.int .i64 re)); clear hbf hpf hrf
       go_wp2_with fail
       try simp only [Exit.inBlock, Exit.then]
       refine bodyPost_ret (by simp [results, Tryz.results32, go_sem, y0, y1]; try rfl) rfl ?_; exact ⟨by rw [HJV.out, HJ1.out], HBS.out⟩
      | false =>
       rw [hsb] at HSC3; have HJ1 : Hid (J = PJ (rules.drop (i + 1))) := HP2.out.trans (by rw [hsb]; rfl); clear HP2 hsb
       go_wp2_with (go_at_call 74; refine cargs (by simp [Act.eval]) (HSC3.out.mono ?_); rintro e w3 ⟨rfl, hb3⟩; have HB03 : Hid (Below W0.heap.size W0 w3) := HB02.out.trans (hb3.mono HB02.out.size); clear hb3)
       go_roundw
       case rel => exact ⟨i + 1, by omega, by go_num, HB03, HJ1⟩
       case measure => simp [intOf]; omega
     ·have hff : FB ⟨nr, conds, rk, re⟩ = false := by simpa using hfit
      have HJ1 : Hid (J = PJ (rules.drop (i + 1))) := HP1.out.trans (by rw [hff]; rfl)
      have HFC3 : Hid (Calls Tryz.prog 73 #[.agg #[.int .i64 nr, .slice A' conds.length c', .int .i64 rk, .int .i64 re], .agg #[.int .u32 3221225534, .int .u32 cnr, .int .u64 a0, .int .u64 a1, .int .u64 a2, .int .u64 a3]] W1 fun e w' => e = .returned (.tuple #[.bool false, .bool false]) ∧ Below W1.heap.size W1 w') := HFC2.out.mono fun _ _ ⟨h1, h2⟩ => ⟨by rw [h1, hff]; rfl, h2⟩
      clear HFC2 HP1 hfit HP hff HSC2
      go_upto_region 10 with (go_at_call 73; refine cargs (by simp [Act.eval]) (HFC3.out.mono ?_); rintro e w2 ⟨rfl, hb2⟩; have HB2 := Lib.hid hb2; clear hb2)
      have HB02 : Hid (Below W0.heap.size W0 w2) := HB01.out.trans (HB2.out.mono HB01.out.size)
      go_wp2_with fail; go_roundw
      case rel => exact ⟨i + 1, by omega, by go_num, HB02, HJ1⟩
      case measure => simp [intOf]; omega
    ·obtain rfl : i = rules.length := by omega
     have HJ1 : Hid (J = (pk, pe)) := HP.out.trans HPE.out; clear HP; obtain ⟨hbf, hpf, _, _, hrf⟩ := HIN.out wr HB.out; obtain ⟨y0, y1⟩ := store2 hrf (.int .i64 pk) (.int .i64 pe); obtain ⟨r0, r1, rz0, rz1⟩ := row2 hrf; obtain ⟨u0, u1, u2⟩ := crow3 hpf; have HBS := Lib.hid (below_store2 hbf (show w.heap.size ≤ w.heap.size + 3 by omega) (.int .i64 pk) (.int .i64 pe)); clear hbf hpf hrf
     go_wp2_with fail
     try simp only [Exit.inBlock, Exit.then]
     refine bodyPost_ret (by simp [results, Tryz.results32, go_sem, y0, y1]; try rfl) rfl ?_; exact ⟨by rw [HJV.out, HJ1.out], HBS.out⟩
  ·have HJ1 : Hid (J = (3, 0)) := HJA.out.trans (if_neg ha); clear HJA
   go_upto_region 4 with (go_at_call 72; refine cargs (by simp [Act.eval]) (HC1.out.mono ?_); rintro e w1 ⟨rfl, hb1⟩; have HB1 := Lib.hid hb1; clear hb1)
   obtain ⟨_, _, hcc, _, _⟩ := HIN.out w1 HB1.out; obtain ⟨t0, _, _, _, _, _⟩ := crow6 hcc; clear hcc p0' p1' p2' HC1; obtain ⟨hbf, hpf, _, _, hrf⟩ := HIN.out w1 HB1.out; obtain ⟨y0, y1⟩ := store2 hrf (.int .i64 3) (.int .i64 0); obtain ⟨r0, r1, rz0, rz1⟩ := row2 hrf; obtain ⟨u0, u1, u2⟩ := crow3 hpf
   have HBS := Lib.hid (below_store2 hbf (show w.heap.size ≤ w.heap.size + 3 by omega) (.int .i64 3) (.int .i64 0)); clear hbf hpf hrf
   go_wp2_with fail
   try simp only [Exit.inBlock, Exit.then]
   refine bodyPost_ret (by simp [results, Tryz.results32, go_sem, y0, y1]; try rfl) rfl ?_; exact ⟨by rw [HJV.out, HJ1.out], HBS.out⟩
 ·have HJV : Hid (decideV F J = .tuple #[.agg #[.int .i64 0, .int .i64 0], .iface 105 (.int .i64 F)]) := by show _ = _; unfold decideV; rw [if_neg hF, errV_pos hF]
  have HC1 : Hid (Calls Tryz.prog 72 #[.agg #[.slice A rules.length cp, .int .i64 pk, .int .i64 pe]] W0 fun e w' => e = .returned (.iface 105 (.int .i64 F)) ∧ Below W0.heap.size W0 w') := HC0.out.mono fun _ _ ⟨h1, h2⟩ => ⟨by rw [h1, errV_pos hF], h2⟩
  clear HC0 HZ hF
  go_upto_region 2 with (go_at_call 72; refine cargs (by simp [Act.eval]) (HC1.out.mono ?_); rintro e w1 ⟨rfl, hb1⟩; have HB1 := Lib.hid hb1; clear hb1)
  clear p0' p1' p2' HC1; obtain ⟨hbf, hpf, _, _, hrf⟩ := HIN.out w1 HB1.out; obtain ⟨y0, y1⟩ := store2 hrf (.int .i64 0) (.int .i64 0); obtain ⟨r0, r1, rz0, rz1⟩ := row2 hrf; obtain ⟨u0, u1, u2⟩ := crow3 hpf; have HBS := Lib.hid (below_store2 hbf (show w.heap.size ≤ w.heap.size + 3 by omega) (.int .i64 0) (.int .i64 0)); clear hbf hpf hrf
  go_wp2_with fail
  try simp only [Exit.inBlock, Exit.then]
  refine bodyPost_ret (by simp [results, Tryz.results32, go_sem, y0, y1]; try rfl) rfl ?_; exact ⟨by rw [HJV.out], HBS.out⟩
end Go.Proofs.YtmgngapkgcofnabGreatDoor
