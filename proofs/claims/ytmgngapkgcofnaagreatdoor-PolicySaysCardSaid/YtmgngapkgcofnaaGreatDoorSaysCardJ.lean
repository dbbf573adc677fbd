/- PolicySays: the walk. Printed by gensays.py. -/
import Derived.Test.YtmgngapkgcofnaaGreatDoorP35
import Derived.Test.YtmgngapkgcofnaaGreatDoorP18
import Derived.Test.YtmgngapkgcofnaaGreatDoorP38
import Derived.Test.YtmgngapkgcofnaaGreatDoorP45
import Derived.Test.YtmgngapkgcofnaaGreatDoorP48
import Derived.Test.YtmgngapkgcofnaaGreatDoorP34
import Derived.Test.YtmgngapkgcofnaaGreatDoorP24
import Derived.Test.YtmgngapkgcofnaaGreatDoorP50
import Derived.Test.YtmgngapkgcofnaaGreatDoorP51
import Derived.Test.YtmgngapkgcofnaaGreatDoorP52
import Derived.Test.YtmgngapkgcofnaaGreatDoorCards
import Derived.Test.YtmgngapkgcofnaaGreatDoorTie
import Derived.WalkKit
import Derived.ProofKit
import Derived.OpenShut
import Derived.Deep.DeepHandedRow
import Derived.Deep.DeepLaidRun
import Derived.Lib.LaidTab
import Derived.Stop.LaidErr
namespace Go.Proofs.YtmgngapkgcofnaaGreatDoor
open Go.RowKit Go.PlainAid

theorem heaps3 (w : World) (o1 o2 o3 : Obj) (W : World) (h : Below (((w.alloc o1).alloc o2).alloc o3).heap.size (((w.alloc o1).alloc o2).alloc o3) W) :
    Below w.heap.size w W ∧ W.heap[w.heap.size]? = some o1 ∧ W.heap[w.heap.size + 1]? = some o2 ∧ W.heap[w.heap.size + 2]? = some o3 := by
  have e1 : (w.alloc o1).heap.size = w.heap.size + 1 := by simp
  have e2 : ((w.alloc o1).alloc o2).heap.size = w.heap.size + 2 := by simp
  have e3 : (((w.alloc o1).alloc o2).alloc o3).heap.size = w.heap.size + 3 := by simp
  rw [e3] at h
  have b1 : ∀ (W : World) (o : Obj), Below W.heap.size W (W.alloc o) := fun W o => (Below.refl _ _).alloc (Nat.le_refl _) o
  have n1 := heap_alloc_new w o1
  have n2 := heap_alloc_new (w.alloc o1) o2
  have n3 := heap_alloc_new ((w.alloc o1).alloc o2) o3
  rw [e1] at n2
  rw [e2] at n3
  refine ⟨(((b1 w o1).alloc (by omega) o2).alloc (by omega) o3).trans (h.mono (by omega)), ?_, ?_, ?_⟩
  · exact (h.block _ (by omega)).trans (((b1 _ o3).block _ (by omega)).trans (((b1 _ o2).block _ (by omega)).trans n1))
  · exact (h.block _ (by omega)).trans (((b1 _ o3).block _ (by omega)).trans n2)
  · exact (h.block _ (by omega)).trans n3
/-- The light policy's bounds. -/
theorem light_bounds {p : PolD} (h : lightP p = true) : (∀ r ∈ p.rules, ∀ c ∈ r.conds, c.glob.size ≤ 4096) ∧ p.rules.length ≤ 4096 ∧ ∀ r ∈ p.rules, r.conds.length ≤ 4096 := by
  obtain ⟨h1, h2⟩ := (lightP_iff p).1 h
  exact ⟨fun r hr c hc => by have := (h2 r hr).2 c hc; omega, by omega, fun r hr => by have := (h2 r hr).1; omega⟩
theorem polOk_at {w : World} {B : Nat} {v : Value} {p : PolD} (h : PolAt w B v p) : PolOk p := fun r hr c hc => by
  obtain ⟨A, cp, _, A1, c1, _, h2⟩ := h
  rcases h2 with h2 | ⟨b, o, _, _, h3⟩
  · rw [h2] at hr; cases hr
  · obtain ⟨i, hi⟩ := List.getElem?_of_mem hr
    obtain ⟨_, _, h4, _⟩ := h3 i r hi
    exact h4.1 c hc
theorem polAt_open {w : World} {B : Nat} {v : Value} {rules : List RuleD} {k e : Int} (h : PolAt w B v ⟨rules, k, e⟩) : ∃ A c, v = .agg #[.slice A rules.length c, .int .i64 k, .int .i64 e] := by
  obtain ⟨A, c, h, _⟩ := h
  exact ⟨A, c, h⟩
theorem cell2 (w : World) (p q : Value) (t : TypeId) (W : World) (h : Below (w.alloc (.cells #[p, q] t)).heap.size (w.alloc (.cells #[p, q] t)) W) :
    W.cell? ⟨w.heap.size, 0, none⟩ = some p ∧ W.cell? ⟨w.heap.size, 1, none⟩ = some q := by
  have hs : w.heap.size < (w.alloc (.cells #[p, q] t)).heap.size := by simp
  refine ⟨?_, ?_⟩ <;> (rw [h.cell (p := ⟨w.heap.size, _, none⟩) hs, cell_of_row _ _ _ _ _ _ (heap_alloc_new _ _)]; rfl)
/-- What Text, Judge and Decide answer, as one: the texts and numbers, and the fault. -/
theorem says_parts (f : Int) (T : List UInt8) (j : Int × Int × Int) (d : Int × Int) : ∃ (S : ByteArray) (E : Value) (j1 j2 j3 d1 d2 : Int), E = errV f ∧ (⟨(if f = 0 then T else []).toArray⟩ : ByteArray) = S ∧ judgeV f j = .tuple #[.agg #[.int .i64 j1, .int .i64 j2, .int .i64 j3], E] ∧ decideV f d = .tuple #[.agg #[.int .i64 d1, .int .i64 d2], E] ∧
    (f = 0 → S = ⟨T.toArray⟩ ∧ j1 = j.1 ∧ j2 = j.2.1 ∧ j3 = j.2.2 ∧ d1 = d.1 ∧ d2 = d.2) ∧ (f ≠ 0 → S = ⟨#[]⟩ ∧ j1 = 0 ∧ j2 = 0 ∧ j3 = 0 ∧ d1 = 0 ∧ d2 = 0) := by
  by_cases h : f = 0
  · subst h
    exact ⟨⟨T.toArray⟩, .nilIface, j.1, j.2.1, j.2.2, d.1, d.2, rfl, rfl, rfl, rfl, fun _ => ⟨rfl, rfl, rfl, rfl, rfl, rfl⟩, fun h => absurd rfl h⟩
  · exact ⟨⟨#[]⟩, errV f, 0, 0, 0, 0, 0, rfl, by rw [if_neg h], if_neg h, if_neg h, fun k => absurd k h, fun _ => ⟨rfl, rfl, rfl, rfl, rfl, rfl⟩⟩
set_option linter.unusedSimpArgs false in
set_option maxRecDepth 100000 in
set_option maxHeartbeats 8000000 in
theorem policySays_walk (HN : NumSaid) (v : Value) (p : PolD) (c : CallD) (vs : ValsD) (w : World) (hS : Shelf0 w) (h : PolAt w w.heap.size v p) (hc : c.ok) (hip : ∀ i, 0 ≤ (vs.at_ i).ip ∧ (vs.at_ i).ip < 4294967296) :
    Calls Tryz.prog 4 #[v, c.v, vs.v] w fun e w' => e = .returned (.bool true) ∧ Below w.heap.size w w' := by
  have hpol := h
  obtain ⟨A, cp, rfl, _⟩ := h
  have HLE : Hid (∀ W, Below w.heap.size w W → Calls Tryz.prog 5 #[] W fun e w' => e = .returned (.bool true) ∧ Below W.heap.size W w') := fun W hb => lets_any HN W (hS.up hb).grd (hS.up hb).tab
  have HLP : Hid (∀ W, Below w.heap.size w W → Calls Tryz.prog 10 #[.agg #[.slice A p.rules.length cp, .int .i64 p.kind, .int .i64 p.errno]] W fun e w' => e = .returned (.bool (lightP p)) ∧ Below W.heap.size W w') := fun W hb => lightPolicy_any _ _ W (polAt_up hpol hb)
  have HLV : Hid (∀ W, Calls Tryz.prog 11 #[vs.v] W fun e w' => e = .returned (.bool (lightV vs)) ∧ Below W.heap.size W w') := fun W => lightVals_any vs W
  have HPP := Lib.hid (fun W (hb : Below w.heap.size w W) => polAt_up hpol hb)
  have HSH := Lib.hid (fun W (hb : Below w.heap.size w W) => hS.up hb)
  obtain ⟨LP, hLP⟩ : ∃ LP, LP = lightP p := ⟨_, rfl⟩
  obtain ⟨LV, hLV⟩ : ∃ LV, LV = lightV vs := ⟨_, rfl⟩
  rw [← hLP] at HLP
  rw [← hLV] at HLV
  have HLPT : Hid (LP = true → (∀ r ∈ p.rules, ∀ c ∈ r.conds, c.glob.size ≤ 4096) ∧ p.rules.length ≤ 4096 ∧ ∀ r ∈ p.rules, r.conds.length ≤ 4096) := fun h => light_bounds (by rw [← hLP]; exact h)
  have HLPO : Hid (LP = true → ∀ W u, PolAt W W.heap.size u p → Calls Tryz.prog 12 #[u] W fun e w' => ∃ u', e = .returned u' ∧ PolAt w' w'.heap.size u' p ∧ Below W.heap.size W w') := fun h W u hu => own_any u p W hu (by rw [← hLP]; exact h)
  have HLVT : Hid (LV = true → vs.ok) := fun h => vals_ok hip (by rw [← hLV]; exact h)
  have hpk := polOk_at hpol
  have HPK := Lib.hid hpk
  have HCK := Lib.hid hc
  clear hpol hS hip hLP hLV hpk hc
  obtain ⟨rules, pk, pe⟩ := p
  obtain ⟨arch, cnr, a0, a1, a2, a3⟩ := c
  obtain ⟨⟨p0, i0, q0⟩, ⟨p1, i1, q1⟩, ⟨p2, i2, q2⟩, ⟨p3, i3, q3⟩⟩ := vs
  unfold CallD.v
  unfold ValsD.v ValsD.cells at HLV ⊢
  simp only at HLP HLV ⊢
  have HIN := Lib.hid (heaps3 w (.cells #[.slice A rules.length cp, .int .i64 pk, .int .i64 pe] 27) (.cells #[.int .u32 arch, .int .u32 cnr, .int .u64 a0, .int .u64 a1, .int .u64 a2, .int .u64 a3] 41) (.cells #[.string p0, .int .u32 i0, .int .i64 q0, .string p1, .int .u32 i1, .int .i64 q1, .string p2, .int .u32 i2, .int .i64 q2, .string p3, .int .u32 i3, .int .i64 q3] 45))
  have HB0 : Hid (Below (((w.alloc (.cells #[.slice A rules.length cp, .int .i64 pk, .int .i64 pe] 27)).alloc (.cells #[.int .u32 arch, .int .u32 cnr, .int .u64 a0, .int .u64 a1, .int .u64 a2, .int .u64 a3] 41)).alloc (.cells #[.string p0, .int .u32 i0, .int .i64 q0, .string p1, .int .u32 i1, .int .i64 q1, .string p2, .int .u32 i2, .int .i64 q2, .string p3, .int .u32 i3, .int .i64 q3] 45)).heap.size (((w.alloc (.cells #[.slice A rules.length cp, .int .i64 pk, .int .i64 pe] 27)).alloc (.cells #[.int .u32 arch, .int .u32 cnr, .int .u64 a0, .int .u64 a1, .int .u64 a2, .int .u64 a3] 41)).alloc (.cells #[.string p0, .int .u32 i0, .int .i64 q0, .string p1, .int .u32 i1, .int .i64 q1, .string p2, .int .u32 i2, .int .i64 q2, .string p3, .int .u32 i3, .int .i64 q3] 45)) (((w.alloc (.cells #[.slice A rules.length cp, .int .i64 pk, .int .i64 pe] 27)).alloc (.cells #[.int .u32 arch, .int .u32 cnr, .int .u64 a0, .int .u64 a1, .int .u64 a2, .int .u64 a3] 41)).alloc (.cells #[.string p0, .int .u32 i0, .int .i64 q0, .string p1, .int .u32 i1, .int .i64 q1, .string p2, .int .u32 i2, .int .i64 q2, .string p3, .int .u32 i3, .int .i64 q3] 45))) := Below.refl _ _
  go_enter Tryz.func4, Tryz.ntmps4
  go_upto_region 1 with fail
  generalize (((w.alloc (.cells #[.slice A rules.length cp, .int .i64 pk, .int .i64 pe] 27)).alloc (.cells #[.int .u32 arch, .int .u32 cnr, .int .u64 a0, .int .u64 a1, .int .u64 a2, .int .u64 a3] 41)).alloc (.cells #[.string p0, .int .u32 i0, .int .i64 q0, .string p1, .int .u32 i1, .int .i64 q1, .string p2, .int .u32 i2, .int .i64 q2, .string p3, .int .u32 i3, .int .i64 q3] 45)) = W0 at *
  obtain ⟨hbl, hpp, hcc, hvv⟩ := HIN.out W0 HB0.out
  have HBL := Lib.hid hbl
  obtain ⟨s0, s1, s2⟩ := crow3 hpp
  obtain ⟨t0, t1, t2, t3, t4, t5⟩ := crow6 hcc
  obtain ⟨u0, u1, u2, u3, u4, u5, u6, u7, u8, u9, u10, u11⟩ := crow12 hvv
  clear hbl hpp hcc hvv
  cases LP with
  | false =>
    go_wp2_with (first | (go_at_call 5; refine cargs (by simp [Act.eval]) ((HLE.out _ HBL.out).mono ?_); rintro e w1 ⟨rfl, hb1⟩; have HB1 := Lib.hid (HB0.out.trans (hb1.mono HB0.out.size)); clear hb1; clear s0 s1 s2 t0 t1 t2 t3 t4 t5 u0 u1 u2 u3 u4 u5 u6 u7 u8 u9 u10 u11 HBL; obtain ⟨hbl, hpp, hcc, hvv⟩ := HIN.out w1 HB1.out; have HBL := Lib.hid hbl; obtain ⟨s0, s1, s2⟩ := crow3 hpp; obtain ⟨t0, t1, t2, t3, t4, t5⟩ := crow6 hcc; obtain ⟨u0, u1, u2, u3, u4, u5, u6, u7, u8, u9, u10, u11⟩ := crow12 hvv; clear hbl hpp hcc hvv) | (go_at_call 10; refine cargs (by simp [Act.eval]) ((HLP.out _ HBL.out).mono ?_); rintro e w2 ⟨rfl, hb2⟩; have HB2 := Lib.hid (HB1.out.trans (hb2.mono HB1.out.size)); clear hb2; clear s0 s1 s2 t0 t1 t2 t3 t4 t5 u0 u1 u2 u3 u4 u5 u6 u7 u8 u9 u10 u11 HBL; obtain ⟨hbl, hpp, hcc, hvv⟩ := HIN.out w2 HB2.out; have HBL := Lib.hid hbl; obtain ⟨s0, s1, s2⟩ := crow3 hpp; obtain ⟨t0, t1, t2, t3, t4, t5⟩ := crow6 hcc; obtain ⟨u0, u1, u2, u3, u4, u5, u6, u7, u8, u9, u10, u11⟩ := crow12 hvv; clear hbl hpp hcc hvv))
    go_ret
    exact ⟨rfl, HBL.out⟩
  | true =>
    cases LV with
    | false =>
      go_wp2_with (first | (go_at_call 5; refine cargs (by simp [Act.eval]) ((HLE.out _ HBL.out).mono ?_); rintro e w1 ⟨rfl, hb1⟩; have HB1 := Lib.hid (HB0.out.trans (hb1.mono HB0.out.size)); clear hb1; clear s0 s1 s2 t0 t1 t2 t3 t4 t5 u0 u1 u2 u3 u4 u5 u6 u7 u8 u9 u10 u11 HBL; obtain ⟨hbl, hpp, hcc, hvv⟩ := HIN.out w1 HB1.out; have HBL := Lib.hid hbl; obtain ⟨s0, s1, s2⟩ := crow3 hpp; obtain ⟨t0, t1, t2, t3, t4, t5⟩ := crow6 hcc; obtain ⟨u0, u1, u2, u3, u4, u5, u6, u7, u8, u9, u10, u11⟩ := crow12 hvv; clear hbl hpp hcc hvv) | (go_at_call 10; refine cargs (by simp [Act.eval]) ((HLP.out _ HBL.out).mono ?_); rintro e w2 ⟨rfl, hb2⟩; have HB2 := Lib.hid (HB1.out.trans (hb2.mono HB1.out.size)); clear hb2; clear s0 s1 s2 t0 t1 t2 t3 t4 t5 u0 u1 u2 u3 u4 u5 u6 u7 u8 u9 u10 u11 HBL; obtain ⟨hbl, hpp, hcc, hvv⟩ := HIN.out w2 HB2.out; have HBL := Lib.hid hbl; obtain ⟨s0, s1, s2⟩ := crow3 hpp; obtain ⟨t0, t1, t2, t3, t4, t5⟩ := crow6 hcc; obtain ⟨u0, u1, u2, u3, u4, u5, u6, u7, u8, u9, u10, u11⟩ := crow12 hvv; clear hbl hpp hcc hvv) | (go_at_call 11; refine cargs (by simp [Act.eval]) ((HLV.out _).mono ?_); rintro e w3 ⟨rfl, hb3⟩; have HB3 := Lib.hid (HB2.out.trans (hb3.mono HB2.out.size)); clear hb3; clear s0 s1 s2 t0 t1 t2 t3 t4 t5 u0 u1 u2 u3 u4 u5 u6 u7 u8 u9 u10 u11 HBL; obtain ⟨hbl, hpp, hcc, hvv⟩ := HIN.out w3 HB3.out; have HBL := Lib.hid hbl; obtain ⟨s0, s1, s2⟩ := crow3 hpp; obtain ⟨t0, t1, t2, t3, t4, t5⟩ := crow6 hcc; obtain ⟨u0, u1, u2, u3, u4, u5, u6, u7, u8, u9, u10, u11⟩ := crow12 hvv; clear hbl hpp hcc hvv))
      go_ret
      exact ⟨rfl, HBL.out⟩
    | true =>
      go_upto_region 4 with (first | (go_at_call 5; refine cargs (by simp [Act.eval]) ((HLE.out _ HBL.out).mono ?_); rintro e w1 ⟨rfl, hb1⟩; have HB1 := Lib.hid (HB0.out.trans (hb1.mono HB0.out.size)); clear hb1; clear s0 s1 s2 t0 t1 t2 t3 t4 t5 u0 u1 u2 u3 u4 u5 u6 u7 u8 u9 u10 u11 HBL; obtain ⟨hbl, hpp, hcc, hvv⟩ := HIN.out w1 HB1.out; have HBL := Lib.hid hbl; obtain ⟨s0, s1, s2⟩ := crow3 hpp; obtain ⟨t0, t1, t2, t3, t4, t5⟩ := crow6 hcc; obtain ⟨u0, u1, u2, u3, u4, u5, u6, u7, u8, u9, u10, u11⟩ := crow12 hvv; clear hbl hpp hcc hvv) | (go_at_call 10; refine cargs (by simp [Act.eval]) ((HLP.out _ HBL.out).mono ?_); rintro e w2 ⟨rfl, hb2⟩; have HB2 := Lib.hid (HB1.out.trans (hb2.mono HB1.out.size)); clear hb2; clear s0 s1 s2 t0 t1 t2 t3 t4 t5 u0 u1 u2 u3 u4 u5 u6 u7 u8 u9 u10 u11 HBL; obtain ⟨hbl, hpp, hcc, hvv⟩ := HIN.out w2 HB2.out; have HBL := Lib.hid hbl; obtain ⟨s0, s1, s2⟩ := crow3 hpp; obtain ⟨t0, t1, t2, t3, t4, t5⟩ := crow6 hcc; obtain ⟨u0, u1, u2, u3, u4, u5, u6, u7, u8, u9, u10, u11⟩ := crow12 hvv; clear hbl hpp hcc hvv) | (go_at_call 11; refine cargs (by simp [Act.eval]) ((HLV.out _).mono ?_); rintro e w3 ⟨rfl, hb3⟩; have HB3 := Lib.hid (HB2.out.trans (hb3.mono HB2.out.size)); clear hb3; clear s0 s1 s2 t0 t1 t2 t3 t4 t5 u0 u1 u2 u3 u4 u5 u6 u7 u8 u9 u10 u11 HBL; obtain ⟨hbl, hpp, hcc, hvv⟩ := HIN.out w3 HB3.out; have HBL := Lib.hid hbl; obtain ⟨s0, s1, s2⟩ := crow3 hpp; obtain ⟨t0, t1, t2, t3, t4, t5⟩ := crow6 hcc; obtain ⟨u0, u1, u2, u3, u4, u5, u6, u7, u8, u9, u10, u11⟩ := crow12 hvv; clear hbl hpp hcc hvv))
      have HOW := Lib.hid (HLPO.out (by trivial) w3 _ (HPP.out w3 HBL.out))
      go_upto_region 5 with (go_at_call 12; refine cargs (by simp [Act.eval]) (HOW.out.mono ?_); rintro e w4 ⟨u4, rfl, hp4, hb4⟩; obtain ⟨A4, c4, rfl⟩ := polAt_open hp4; have HB4 := Lib.hid (HB3.out.trans (hb4.mono HB3.out.size)); have HP4 := Lib.hid hp4; clear hb4 hp4; clear s0 s1 s2 t0 t1 t2 t3 t4 t5 u0 u1 u2 u3 u4 u5 u6 u7 u8 u9 u10 u11 HBL)
      have HT := Lib.hid (cell3 w4 (.slice A4 rules.length c4) (.int .i64 pk) (.int .i64 pe) 27)
      have HP5 : Hid (∀ W, Below (w4.alloc (.cells #[.slice A4 rules.length c4, .int .i64 pk, .int .i64 pe] 27)).heap.size (w4.alloc (.cells #[.slice A4 rules.length c4, .int .i64 pk, .int .i64 pe] 27)) W → PolAt W W.heap.size (.agg #[.slice A4 rules.length c4, .int .i64 pk, .int .i64 pe]) ⟨rules, pk, pe⟩) := fun W hb => polAt_up HP4.out (((Below.refl _ _).alloc (Nat.le_refl _) _).trans (hb.mono (by simp)))
      have HB5 : Hid (Below W0.heap.size W0 (w4.alloc (.cells #[.slice A4 rules.length c4, .int .i64 pk, .int .i64 pe] 27))) := HB4.out.alloc HB4.out.size _
      have H5 : Hid (Below (w4.alloc (.cells #[.slice A4 rules.length c4, .int .i64 pk, .int .i64 pe] 27)).heap.size (w4.alloc (.cells #[.slice A4 rules.length c4, .int .i64 pk, .int .i64 pe] 27)) (w4.alloc (.cells #[.slice A4 rules.length c4, .int .i64 pk, .int .i64 pe] 27))) := Below.refl _ _
      clear HB4 HP4 HOW HB3 HB2 HB1 HB0 HLE HLP HLV HLPO
      generalize hw4 : w4.heap.size = n4 at *
      generalize (w4.alloc (.cells #[.slice A4 rules.length c4, .int .i64 pk, .int .i64 pe] 27)) = W5 at *
      clear hw4 w4 w3 w2 w1
      have HUP : Hid (∀ W, Below W5.heap.size W5 W → Below w.heap.size w W) := fun W hb => (HIN.out W (HB5.out.trans (hb.mono HB5.out.size))).1
      obtain ⟨hg4, hl4, hcl4⟩ := HLPT.out (by trivial)
      try simp only at hg4 hl4 hcl4
      have hg5 : ∀ r ∈ (⟨rules, pk, pe⟩ : PolD).rules, ∀ c ∈ r.conds, c.glob.size ≤ 100000 := fun r hr c hc => by have := hg4 r hr c hc; omega
      have hl5 : (⟨rules, pk, pe⟩ : PolD).rules.length ≤ 100000 := by show rules.length ≤ 100000; omega
      have hcl5 : ∀ r ∈ (⟨rules, pk, pe⟩ : PolD).rules, r.conds.length ≤ 100000 := fun r hr => by have := hcl4 r hr; omega
      obtain ⟨S, E, j1, j2, j3, d1, d2, hE, hSt, hJ, hD, h0, h1⟩ := says_parts (polF ⟨rules, pk, pe⟩) (polT ⟨rules, pk, pe⟩) (judgeF ⟨rules, pk, pe⟩ ⟨arch, cnr, a0, a1, a2, a3⟩) (decideF ⟨rules, pk, pe⟩ ⟨arch, cnr, a0, a1, a2, a3⟩ ⟨⟨p0, i0, q0⟩, ⟨p1, i1, q1⟩, ⟨p2, i2, q2⟩, ⟨p3, i3, q3⟩⟩)
      have HPF : Hid (∀ W, Below W5.heap.size W5 W → Calls Tryz.prog 13 #[(.agg #[.slice A rules.length cp, .int .i64 pk, .int .i64 pe])] W fun e w' => e = .returned (.int .i64 (polF ⟨rules, pk, pe⟩)) ∧ Below W.heap.size W w') := fun W hb => polFault_any _ _ W (HPP.out W (HUP.out W hb)) hg5 hl5 hcl5
      have HCH : Hid (∀ W, Below W5.heap.size W5 W → Calls Tryz.prog 17 #[(.agg #[.slice A4 rules.length c4, .int .i64 pk, .int .i64 pe])] W fun e w' => e = .returned E ∧ Below W.heap.size W w') := fun W hb => by rw [hE]; exact polCheck_any _ _ W (HP5.out W hb) hg5 hl5 hcl5
      have HTX : Hid (∀ W, Below W5.heap.size W5 W → Calls Tryz.prog 14 #[(.agg #[.slice A4 rules.length c4, .int .i64 pk, .int .i64 pe])] W fun e w' => e = .returned (.tuple #[.string S, E]) ∧ Below W.heap.size W w') := fun W hb => by rw [hE, ← hSt]; exact polText_any _ _ W (HP5.out W hb) hg5 hl5 hcl5 (HSH.out W (HUP.out W hb)).tab
      have HJG : Hid (∀ W, Below W5.heap.size W5 W → Calls Tryz.prog 15 #[(.agg #[.slice A4 rules.length c4, .int .i64 pk, .int .i64 pe]), (.agg #[.int .u32 arch, .int .u32 cnr, .int .u64 a0, .int .u64 a1, .int .u64 a2, .int .u64 a3])] W fun e w' => e = .returned (.tuple #[.agg #[.int .i64 j1, .int .i64 j2, .int .i64 j3], E]) ∧ Below W.heap.size W w') := fun W hb => by rw [← hJ]; exact judge_any _ _ ⟨arch, cnr, a0, a1, a2, a3⟩ W (HP5.out W hb) hg5 hl5 hcl5
      have HDC : Hid (∀ W, Below W5.heap.size W5 W → Calls Tryz.prog 16 #[(.agg #[.slice A4 rules.length c4, .int .i64 pk, .int .i64 pe]), (.agg #[.int .u32 arch, .int .u32 cnr, .int .u64 a0, .int .u64 a1, .int .u64 a2, .int .u64 a3]), (.agg #[.string p0, .int .u32 i0, .int .i64 q0, .string p1, .int .u32 i1, .int .i64 q1, .string p2, .int .u32 i2, .int .i64 q2, .string p3, .int .u32 i3, .int .i64 q3])] W fun e w' => e = .returned (.tuple #[.agg #[.int .i64 d1, .int .i64 d2], E]) ∧ Below W.heap.size W w') := fun W hb => by rw [← hD]; exact decide_any _ _ ⟨arch, cnr, a0, a1, a2, a3⟩ ⟨⟨p0, i0, q0⟩, ⟨p1, i1, q1⟩, ⟨p2, i2, q2⟩, ⟨p3, i3, q3⟩⟩ W (HP5.out W hb) hg4 hl5 hcl5 (HLVT.out (by trivial))
      have HSM : Hid (∀ W, Calls Tryz.prog 8 #[E, .int .i64 (polF ⟨rules, pk, pe⟩)] W fun e w' => e = .returned (.bool true) ∧ W = w') := fun W => by
        rw [hE]
        have := same_any (polF ⟨rules, pk, pe⟩) (polF ⟨rules, pk, pe⟩) W (polF_ge _)
        simpa using this
      have HSP : Hid (∀ W, Below W5.heap.size W5 W → Calls Tryz.prog 9 #[(.agg #[.slice A4 rules.length c4, .int .i64 pk, .int .i64 pe]), (.agg #[.slice A rules.length cp, .int .i64 pk, .int .i64 pe])] W fun e w' => e = .returned (.bool true) ∧ Below W.heap.size W w') := fun W hb => samePol_any _ _ _ W (HP5.out W hb) (HPP.out W (HUP.out W hb)) hl5 hcl5
      have HRT : Hid (polF ⟨rules, pk, pe⟩ = 0 → ∀ W, Below W5.heap.size W5 W → Calls Tryz.prog 18 #[(.agg #[.slice A rules.length cp, .int .i64 pk, .int .i64 pe])] W fun e w' => e = .returned (.string S) ∧ Below W.heap.size W w') := fun h W hb => by rw [(h0 h).1]; exact refPolText_any _ _ W (HPP.out W (HUP.out W hb)) HPK.out h
      have HRJ : Hid (polF ⟨rules, pk, pe⟩ = 0 → ∀ W, Below W5.heap.size W5 W → Calls Tryz.prog 19 #[(.agg #[.slice A rules.length cp, .int .i64 pk, .int .i64 pe]), (.agg #[.int .u32 arch, .int .u32 cnr, .int .u64 a0, .int .u64 a1, .int .u64 a2, .int .u64 a3])] W fun e w' => e = .returned (.agg #[.int .i64 j1, .int .i64 j2, .int .i64 j3]) ∧ Below W.heap.size W w') := fun h W hb => by obtain ⟨_, e1, e2, e3, _⟩ := h0 h; rw [e1, e2, e3]; exact refJudge_any _ _ ⟨arch, cnr, a0, a1, a2, a3⟩ W (HPP.out W (HUP.out W hb)) h HCK.out
      have HRD : Hid (polF ⟨rules, pk, pe⟩ = 0 → ∀ W, Below W5.heap.size W5 W → Calls Tryz.prog 20 #[(.agg #[.slice A rules.length cp, .int .i64 pk, .int .i64 pe]), (.agg #[.int .u32 arch, .int .u32 cnr, .int .u64 a0, .int .u64 a1, .int .u64 a2, .int .u64 a3]), (.agg #[.string p0, .int .u32 i0, .int .i64 q0, .string p1, .int .u32 i1, .int .i64 q1, .string p2, .int .u32 i2, .int .i64 q2, .string p3, .int .u32 i3, .int .i64 q3])] W fun e w' => e = .returned (.agg #[.int .i64 d1, .int .i64 d2]) ∧ Below W.heap.size W w') := fun h W hb => by obtain ⟨_, _, _, _, e1, e2⟩ := h0 h; rw [e1, e2]; exact refDecide_any _ _ ⟨arch, cnr, a0, a1, a2, a3⟩ ⟨⟨p0, i0, q0⟩, ⟨p1, i1, q1⟩, ⟨p2, i2, q2⟩, ⟨p3, i3, q3⟩⟩ W (HPP.out W (HUP.out W hb)) h HCK.out hg4 (HLVT.out (by trivial))
      have H1 := Lib.hid h1
      have hge := polF_ge ⟨rules, pk, pe⟩
      clear hE hSt hJ hD h0 h1 hg4 hl4 hcl4 hg5 hl5 hcl5 HLPT HLVT HPK HCK HSH HPP HP5
      generalize polF ⟨rules, pk, pe⟩ = F at *
      obtain ⟨hbl, hpp, hcc, hvv⟩ := HIN.out W5 (Lib.hid (HB5.out.trans (H5.out.mono HB5.out.size))).out; have HBL := Lib.hid hbl; obtain ⟨s0, s1, s2⟩ := crow3 hpp; obtain ⟨t0, t1, t2, t3, t4, t5⟩ := crow6 hcc; obtain ⟨u0, u1, u2, u3, u4, u5, u6, u7, u8, u9, u10, u11⟩ := crow12 hvv; clear hbl hpp hcc hvv; obtain ⟨k0, k1, k2⟩ := HT.out W5 H5.out
      go_upto_region 8 with (first
        | (go_at_call 13; refine cargs (by simp [Act.eval]) ((HPF.out _ H5.out).mono ?_); rintro e w6 ⟨rfl, hb⟩; have H6 := Lib.hid (H5.out.trans (hb.mono H5.out.size)); clear hb; clear s0 s1 s2 t0 t1 t2 t3 t4 t5 u0 u1 u2 u3 u4 u5 u6 u7 u8 u9 u10 u11 HBL k0 k1 k2; obtain ⟨hbl, hpp, hcc, hvv⟩ := HIN.out w6 (Lib.hid (HB5.out.trans (H6.out.mono HB5.out.size))).out; have HBL := Lib.hid hbl; obtain ⟨s0, s1, s2⟩ := crow3 hpp; obtain ⟨t0, t1, t2, t3, t4, t5⟩ := crow6 hcc; obtain ⟨u0, u1, u2, u3, u4, u5, u6, u7, u8, u9, u10, u11⟩ := crow12 hvv; clear hbl hpp hcc hvv; obtain ⟨k0, k1, k2⟩ := HT.out w6 H6.out)
        | (go_at_call 14; refine cargs (by simp [Act.eval]) ((HTX.out _ H6.out).mono ?_); rintro e w7 ⟨rfl, hb⟩; have H7 := Lib.hid (H6.out.trans (hb.mono H6.out.size)); clear hb; clear s0 s1 s2 t0 t1 t2 t3 t4 t5 u0 u1 u2 u3 u4 u5 u6 u7 u8 u9 u10 u11 HBL k0 k1 k2; obtain ⟨hbl, hpp, hcc, hvv⟩ := HIN.out w7 (Lib.hid (HB5.out.trans (H7.out.mono HB5.out.size))).out; have HBL := Lib.hid hbl; obtain ⟨s0, s1, s2⟩ := crow3 hpp; obtain ⟨t0, t1, t2, t3, t4, t5⟩ := crow6 hcc; obtain ⟨u0, u1, u2, u3, u4, u5, u6, u7, u8, u9, u10, u11⟩ := crow12 hvv; clear hbl hpp hcc hvv; obtain ⟨k0, k1, k2⟩ := HT.out w7 H7.out)
        | (go_at_call 15; refine cargs (by simp [Act.eval]) ((HJG.out _ H7.out).mono ?_); rintro e w8 ⟨rfl, hb⟩; have H8 := Lib.hid (H7.out.trans (hb.mono H7.out.size)); clear hb; clear s0 s1 s2 t0 t1 t2 t3 t4 t5 u0 u1 u2 u3 u4 u5 u6 u7 u8 u9 u10 u11 HBL k0 k1 k2; obtain ⟨hbl, hpp, hcc, hvv⟩ := HIN.out w8 (Lib.hid (HB5.out.trans (H8.out.mono HB5.out.size))).out; have HBL := Lib.hid hbl; obtain ⟨s0, s1, s2⟩ := crow3 hpp; obtain ⟨t0, t1, t2, t3, t4, t5⟩ := crow6 hcc; obtain ⟨u0, u1, u2, u3, u4, u5, u6, u7, u8, u9, u10, u11⟩ := crow12 hvv; clear hbl hpp hcc hvv; obtain ⟨k0, k1, k2⟩ := HT.out w8 H8.out))
      clear s0 s1 s2 t0 t1 t2 t3 t4 t5 u0 u1 u2 u3 u4 u5 u6 u7 u8 u9 u10 u11 HBL k0 k1 k2
      have HV := Lib.hid (cell3 w8 (.int .i64 j1) (.int .i64 j2) (.int .i64 j3) 53)
      have H9 : Hid (Below W5.heap.size W5 (w8.alloc (.cells #[.int .i64 j1, .int .i64 j2, .int .i64 j3] 53))) := H8.out.alloc H8.out.size _
      have HR9 : Hid (Below (w8.alloc (.cells #[.int .i64 j1, .int .i64 j2, .int .i64 j3] 53)).heap.size (w8.alloc (.cells #[.int .i64 j1, .int .i64 j2, .int .i64 j3] 53)) (w8.alloc (.cells #[.int .i64 j1, .int .i64 j2, .int .i64 j3] 53))) := Below.refl _ _
      clear H6 H7 H8
      generalize hn8 : w8.heap.size = n8 at *
      generalize w8.alloc (.cells #[.int .i64 j1, .int .i64 j2, .int .i64 j3] 53) = W9 at *
      clear hn8 w8 w7 w6
      obtain ⟨hbl, hpp, hcc, hvv⟩ := HIN.out W9 (Lib.hid (HB5.out.trans (H9.out.mono HB5.out.size))).out; have HBL := Lib.hid hbl; obtain ⟨s0, s1, s2⟩ := crow3 hpp; obtain ⟨t0, t1, t2, t3, t4, t5⟩ := crow6 hcc; obtain ⟨u0, u1, u2, u3, u4, u5, u6, u7, u8, u9, u10, u11⟩ := crow12 hvv; clear hbl hpp hcc hvv; obtain ⟨k0, k1, k2⟩ := HT.out W9 H9.out
      go_upto_region 9 with (go_at_call 16; refine cargs (by simp [Act.eval]) ((HDC.out _ H9.out).mono ?_); rintro e w10 ⟨rfl, hb⟩; have H10 := Lib.hid (H9.out.trans (hb.mono H9.out.size)); have HR10 := Lib.hid (HR9.out.trans (hb.mono HR9.out.size)); clear hb; clear s0 s1 s2 t0 t1 t2 t3 t4 t5 u0 u1 u2 u3 u4 u5 u6 u7 u8 u9 u10 u11 HBL k0 k1 k2; obtain ⟨hbl, hpp, hcc, hvv⟩ := HIN.out w10 (Lib.hid (HB5.out.trans (H10.out.mono HB5.out.size))).out; have HBL := Lib.hid hbl; obtain ⟨s0, s1, s2⟩ := crow3 hpp; obtain ⟨t0, t1, t2, t3, t4, t5⟩ := crow6 hcc; obtain ⟨u0, u1, u2, u3, u4, u5, u6, u7, u8, u9, u10, u11⟩ := crow12 hvv; clear hbl hpp hcc hvv; obtain ⟨k0, k1, k2⟩ := HT.out w10 H10.out)
      clear s0 s1 s2 t0 t1 t2 t3 t4 t5 u0 u1 u2 u3 u4 u5 u6 u7 u8 u9 u10 u11 HBL k0 k1 k2
      have HA := Lib.hid (cell2 w10 (.int .i64 d1) (.int .i64 d2) 25)
      have H11 : Hid (Below W5.heap.size W5 (w10.alloc (.cells #[.int .i64 d1, .int .i64 d2] 25))) := H10.out.alloc H10.out.size _
      have HR11 : Hid (Below W9.heap.size W9 (w10.alloc (.cells #[.int .i64 d1, .int .i64 d2] 25))) := HR10.out.alloc HR10.out.size _
      have HQ11 : Hid (Below (w10.alloc (.cells #[.int .i64 d1, .int .i64 d2] 25)).heap.size (w10.alloc (.cells #[.int .i64 d1, .int .i64 d2] 25)) (w10.alloc (.cells #[.int .i64 d1, .int .i64 d2] 25))) := Below.refl _ _
      clear H9 HR9 H10 HR10
      generalize hn10 : w10.heap.size = n10 at *
      generalize w10.alloc (.cells #[.int .i64 d1, .int .i64 d2] 25) = W11 at *
      clear hn10 w10
      obtain ⟨hbl, hpp, hcc, hvv⟩ := HIN.out W11 (Lib.hid (HB5.out.trans (H11.out.mono HB5.out.size))).out; have HBL := Lib.hid hbl; obtain ⟨s0, s1, s2⟩ := crow3 hpp; obtain ⟨t0, t1, t2, t3, t4, t5⟩ := crow6 hcc; obtain ⟨u0, u1, u2, u3, u4, u5, u6, u7, u8, u9, u10, u11⟩ := crow12 hvv; clear hbl hpp hcc hvv; obtain ⟨k0, k1, k2⟩ := HT.out W11 H11.out
      go_upto_region 11 with (first
        | (go_at_call 17; refine cargs (by simp [Act.eval]) ((HCH.out _ H11.out).mono ?_); rintro e w12 ⟨rfl, hb⟩; have H12 := Lib.hid (H11.out.trans (hb.mono H11.out.size)); have HQ12 := Lib.hid (HQ11.out.trans (hb.mono HQ11.out.size)); clear hb; clear s0 s1 s2 t0 t1 t2 t3 t4 t5 u0 u1 u2 u3 u4 u5 u6 u7 u8 u9 u10 u11 HBL k0 k1 k2; obtain ⟨hbl, hpp, hcc, hvv⟩ := HIN.out w12 (Lib.hid (HB5.out.trans (H12.out.mono HB5.out.size))).out; have HBL := Lib.hid hbl; obtain ⟨s0, s1, s2⟩ := crow3 hpp; obtain ⟨t0, t1, t2, t3, t4, t5⟩ := crow6 hcc; obtain ⟨u0, u1, u2, u3, u4, u5, u6, u7, u8, u9, u10, u11⟩ := crow12 hvv; clear hbl hpp hcc hvv; obtain ⟨k0, k1, k2⟩ := HT.out w12 H12.out)
        | (go_at_call 8; refine cargs (by simp [Act.eval]) ((HSM.out _).mono ?_); rintro e wx ⟨rfl, rfl⟩)
        | (go_at_call 9; refine cargs (by simp [Act.eval]) ((HSP.out _ H12.out).mono ?_); rintro e w13 ⟨rfl, hb⟩; have H13 := Lib.hid (H12.out.trans (hb.mono H12.out.size)); have HQ13 := Lib.hid (HQ12.out.trans (hb.mono HQ12.out.size)); clear hb; clear s0 s1 s2 t0 t1 t2 t3 t4 t5 u0 u1 u2 u3 u4 u5 u6 u7 u8 u9 u10 u11 HBL k0 k1 k2; obtain ⟨hbl, hpp, hcc, hvv⟩ := HIN.out w13 (Lib.hid (HB5.out.trans (H13.out.mono HB5.out.size))).out; have HBL := Lib.hid hbl; obtain ⟨s0, s1, s2⟩ := crow3 hpp; obtain ⟨t0, t1, t2, t3, t4, t5⟩ := crow6 hcc; obtain ⟨u0, u1, u2, u3, u4, u5, u6, u7, u8, u9, u10, u11⟩ := crow12 hvv; clear hbl hpp hcc hvv; obtain ⟨k0, k1, k2⟩ := HT.out w13 H13.out))
      have HBX := Lib.hid (HUP.out w13 H13.out)
      have HR13 := Lib.hid (HR11.out.trans (HQ13.out.mono HR11.out.size))
      obtain ⟨v0, v1, v2⟩ := HV.out w13 HR13.out
      obtain ⟨a0', a1'⟩ := HA.out w13 HQ13.out
      clear HQ11 HQ12 HQ13 HR11 HR13 H11 H12 HPF HCH HTX HJG HDC HSM HSP
      by_cases hF : 0 < F
      · have g1 : decide (0 < F) = true := decide_eq_true hF
        obtain ⟨rfl, rfl, rfl, rfl, rfl, rfl⟩ := H1.out (by omega)
        clear H1 HRT HRJ HRD
        go_wp2_with fail
        go_ret
        exact ⟨rfl, HBX.out⟩
      · have g1 : decide (0 < F) = false := decide_eq_false hF
        obtain rfl : F = 0 := by omega
        clear H1
        have HQB : Hid (∀ d os, Below W5.heap.size W5 (Go.Sort.grow (redrawn w13 d) os)) := fun d os => H13.out.trans ((below_regrown w13 d os).mono H13.out.size)
        have cRT := fun d os => Calls.regrown_of (HRT.out rfl (Go.Sort.grow (redrawn w13 d) os) (HQB.out d os))
        have cRJ := fun d os => Calls.regrown_of (HRJ.out rfl (Go.Sort.grow (redrawn w13 d) os) (HQB.out d os))
        have cRD := fun d os => Calls.regrown_of (HRD.out rfl (Go.Sort.grow (redrawn w13 d) os) (HQB.out d os))
        have rs0 := cell_regrown s0
        have rs1 := cell_regrown s1
        have rs2 := cell_regrown s2
        have rt0 := cell_regrown t0
        have rt1 := cell_regrown t1
        have rt2 := cell_regrown t2
        have rt3 := cell_regrown t3
        have rt4 := cell_regrown t4
        have rt5 := cell_regrown t5
        have ru0 := cell_regrown u0
        have ru1 := cell_regrown u1
        have ru2 := cell_regrown u2
        have ru3 := cell_regrown u3
        have ru4 := cell_regrown u4
        have ru5 := cell_regrown u5
        have ru6 := cell_regrown u6
        have ru7 := cell_regrown u7
        have ru8 := cell_regrown u8
        have ru9 := cell_regrown u9
        have ru10 := cell_regrown u10
        have ru11 := cell_regrown u11
        have rv0 := cell_regrown v0
        have rv1 := cell_regrown v1
        have rv2 := cell_regrown v2
        have ra0 := cell_regrown a0'
        have ra1 := cell_regrown a1'
        clear HRT HRJ HRD HQB
        go_upto_region 13 with fail
        refine wp_region_quiet_below (by kernel_rfl) (by kernel_rfl) ?_
        repeat (go_big_quiet_step (first | (go_at_call 18; exact cRT _ _) | (go_at_call 19; exact cRJ _ _) | (go_at_call 20; exact cRD _ _) | fail))
        refine wpQuiet_nil ?_
        intro _ hw'
        obtain ⟨pq, hw''⟩ := hw'
        subst hw''
        go_wp2_with fail
        go_ret
        exact ⟨rfl, HBX.out.trans ((below_regrown w13 pq.d pq.os).mono HBX.out.size)⟩
end Go.Proofs.YtmgngapkgcofnaaGreatDoor
/- For every policy, call and values the law PolicySays returns true, and they read as they did; the card. The listed tables and errors hold what the program's text lays. No condition. -/
namespace Go.Proofs.YtmgngapkgcofnaaGreatDoor.policySays
open Go.ChangeShapes Go.WideShapes Go.ChangeAt Go.RowKit
open Go.ChangeMaps (open_string shut_string)

theorem own : ownKnob Tryz.prog.godebug = none := by kernel_rfl
theorem laidOut : laidOutB Tryz.prog = true := by kernel_rfl
/-- The cells that a plain table's datum names, a table of pairs' too. -/
def rowOf : DataW Unit → Array Value
  | .agg ps => (ps.flatMap fun d => match d with | .lit (.int k i) => [Value.int k i] | .agg qs => (qs.map fun d => match d with | .lit (.int k i) => Value.int k i | _ => .nilIface) | _ => [.nilIface]).toArray
  | _ => #[]
def lay (r : Array Value) : Obj → Obj
  | .cells _ t frozen => .cells r t frozen
  | o => o
def args0 : Array Value := #[.agg #[.slice none 0 0, .int .i64 0, .int .i64 0], .agg #[.int .u32 0, .int .u32 0, .int .u64 0, .int .u64 0, .int .u64 0, .int .u64 0], .agg #[.string .empty, .int .u32 0, .int .i64 0, .string .empty, .int .u32 0, .int .i64 0, .string .empty, .int .u32 0, .int .i64 0, .string .empty, .int .u32 0, .int .i64 0]]
def errAt (b : Nat) : Array Value := #[.iface 195 (.pointer (some ⟨b, 0, none⟩))]
/-- A world for the witness: the settled one, the listed variables holding what their initialisers lay. -/
noncomputable def laidWorld (os : Os) : World :=
  { World.holding Tryz.prog os ⟨#[], args0, []⟩ with heap := ((((((((World.holding Tryz.prog os ⟨#[], args0, []⟩).heap.modify 6 (lay (rowOf Rows.laid_math_bits_deBruijn32tab))).modify 7 (lay (rowOf Rows.laid_math_bits_deBruijn64tab))).modify 5 (lay (rowOf Rows.laid_internal_strconv_uint64pow10))).modify 2 (lay (rowOf Rows.laid_unicode_utf8_acceptRanges))).modify 1 (lay (rowOf Rows.laid_unicode_utf8_first))).modify 4 (lay (errAt (World.holding Tryz.prog os ⟨#[], args0, []⟩).heap.size))).modify 3 (lay (errAt ((World.holding Tryz.prog os ⟨#[], args0, []⟩).heap.size + 1)))
    |>.push (.cells #[.string ⟨#[118, 97, 108, 117, 101, 32, 111, 117, 116, 32, 111, 102, 32, 114, 97, 110, 103, 101]⟩] 197) |>.push (.cells #[.string ⟨#[105, 110, 118, 97, 108, 105, 100, 32, 115, 121, 110, 116, 97, 120]⟩] 197)) }
theorem laid_met (os : Os) : laidMet Tryz.prog Rows.policySaysRow.laid ((laidWorld os).forCall (fun _ _ => 0) ⟨#[], args0, []⟩).memory :=
  laidMet_of_run3 8 (by kernel_rfl) (by kernel_rfl) (by kernel_rfl)
theorem reads (os : Os) {H : Type} (enc : TypeId × Value → H) : ∃ places, DataW.whole enc Tryz.prog ((laidWorld os).forCall (fun _ _ => 0) ⟨#[], args0, []⟩).memory Tryz.f4.params.toList Rows.policySaysSpec.vars false args0.toList 8 = some ([.agg [.nil, .agg [.lit (.int .i64 0), .lit (.int .i64 0)]], .agg [.lit (.int .u32 0), .lit (.int .u32 0), .agg [.lit (.int .u64 0), .lit (.int .u64 0), .lit (.int .u64 0), .lit (.int .u64 0)]], .agg [.agg [.lit (.string []), .lit (.int .u32 0), .lit (.int .i64 0)], .agg [.lit (.string []), .lit (.int .u32 0), .lit (.int .i64 0)], .agg [.lit (.string []), .lit (.int .u32 0), .lit (.int .i64 0)], .agg [.lit (.string []), .lit (.int .u32 0), .lit (.int .i64 0)]]], [], places) :=
  ⟨[], by kernel_rfl⟩
theorem tab_of {W : World} (hL : laidMetH Tryz.prog Rows.policySaysRow.laid W) : Lib.TabIs Tryz.prog W "internal/strconv.uint64pow10" .u64 Lib.pow10Tab := by
  have h0 : laidMet Tryz.prog Rows.policySaysRow.laid W := hL
  have h1 := laidMet.tail (laidMet.tail h0)
  have e : (Rows.laid_internal_strconv_uint64pow10 : DataW Unit) = Lib.tabData .u64 Lib.pow10Tab := by kernel_rfl
  rw [e] at h1
  exact Lib.tabIs_of_head (g := 5) (by kernel_rfl) (by kernel_rfl) Tryz.underlying191 Tryz.underlying38 (by kernel_rfl) (by kernel_rfl) h1
theorem star : "*" ++ "errors.errorString" = "*errors.errorString" := by decide
theorem names_err (u : TypeId) (h : Tryz.prog.typeName? 3 u = some "*errors.errorString") : u = 195 :=
  typeName_ptr_named (nm := "errors.errorString") (by rw [star]; kernel_rfl) (by kernel_rfl) (by decide) u (by rw [star]; exact h)
theorem gER : Tryz.prog.globalNamed "strconv.ErrRange" = some 4 := by kernel_rfl
theorem gES : Tryz.prog.globalNamed "strconv.ErrSyntax" = some 3 := by kernel_rfl
theorem gERt : (Tryz.prog.globals[4]?).map (·.type) = some 29 := by kernel_rfl
theorem gESt : (Tryz.prog.globals[3]?).map (·.type) = some 29 := by kernel_rfl
theorem cellsE : Tryz.prog.cellsOf 197 = 1 := by kernel_rfl
theorem cellsS : Tryz.prog.cellsOf 9 = 1 := by kernel_rfl
theorem shelf_of {W : World} (hL : laidMetH Tryz.prog Rows.policySaysRow.laid W) (hsh : W.ShapedOpen Tryz.prog) : Shelf0 W := by
  have h0 : laidMet Tryz.prog Rows.policySaysRow.laid W := hL
  have h4 := laidMet.tail (laidMet.tail (laidMet.tail (laidMet.tail h0)))
  obtain ⟨a0, s0, hv0, -, -, -⟩ := laid_sentinel h4 gER gERt Tryz.underlying29 names_err Tryz.underlying195 Tryz.underlying197 rfl rfl Tryz.underlying9 cellsE cellsS
  obtain ⟨a1, s1, hv1, -, -, -⟩ := laid_sentinel (laidMet.tail h4) gES gESt Tryz.underlying29 names_err Tryz.underlying195 Tryz.underlying197 rfl rfl Tryz.underlying9 cellsE cellsS
  exact ⟨⟨⟨_, by have h0 := World.var?_cell gES hv1 0; simpa using h0, Or.inr ⟨_, _, rfl⟩⟩, ⟨_, by have h0 := World.var?_cell gER hv0 0; simpa using h0, Or.inr ⟨_, _, rfl⟩⟩,
    Go.Proofs.cell_of_shapedOpen_int (zero := #[.int .i64 0]) (t := 3) hsh (of_decide_eq_true (by kernel_rfl)) (by kernel_rfl) rfl (by kernel_rfl) (by kernel_rfl) Tryz.underlying3⟩, tab_of hL⟩

set_option maxRecDepth 100000 in
theorem contract (H : Type) (enc : TypeId × Value → H) (W : World) (base : Nat) (args : Array Value) (ds gs : List (DataW H)) (before : List MemPlace)
    (hval0 : ∀ (j : Nat) t v, Tryz.f4.params[j]? = some t → args[j]? = some v → Value.okWide Tryz.prog W .any base t v)
    (hL : laidMetH Tryz.prog Rows.policySaysRow.laid W) (hsh : W.ShapedOpen Tryz.prog)
    (hW : DataW.Whole enc Tryz.prog Tryz.f4.params.toList Rows.policySaysSpec.vars false W args.toList ds gs before) :
    Calls Tryz.prog 4 args W fun e W' => ∃ v, e = .returned v ∧ Rows.policySaysSpec.post enc Tryz.prog Tryz.f4 false true false false W args v W' := by
  have hval := hval0
  have hW' := hW
  obtain ⟨p, q, hA0, hV, rfl, hfz, hnd⟩ := hW
  have hA : DataW.TrodAll enc Tryz.prog W 0 (fun _ => true) true Tryz.f4.params.toList args.toList ds p := hA0
  rw [Tryz.params4] at hA hval
  obtain ⟨v0, v1, v2, d0, d1, d2, p0, p1, p2, rfl, rfl, rfl, h0, h1, h2⟩ := trodAll_three hA
  obtain ⟨rfl, rfl⟩ := trodVars_none hV
  obtain ⟨pol, hp⟩ := open_policy (hval 0 27 v0 rfl rfl) h0
  obtain ⟨c, rfl, hc⟩ := open_call (hval 1 41 v1 rfl rfl) h1
  obtain ⟨vs, rfl, hip⟩ := open_values (hval 2 45 v2 rfl rfl) h2
  refine (policySays_walk wordNum_any v0 pol c vs W (shelf_of hL hsh) hp hc hip).mono fun e W' ⟨he, hb⟩ => ?_
  subst he
  exact ⟨_, rfl, law_post laidOut (by kernel_rfl) Tryz.underlying4 (by kernel_rfl) rfl hW' rfl hb⟩

set_option maxRecDepth 100000 in
theorem lifted (os : Os) (started : os.Started) (H : Type) (enc : TypeId × Value → H) (F : Stop.Interp) :
    ReturnsInHanded {} Tryz.checked os 4 .any ((OpenSpec.ofChange Rows.policySaysSpec).preRow enc Tryz.prog Tryz.f4 Rows.policySaysRow.domain false Rows.policySaysRow.laid) (((OpenSpec.ofChange Rows.policySaysSpec).at F).post enc Tryz.prog Tryz.f4 false true false false) := by
  obtain ⟨places, hx⟩ := reads os enc
  refine returnsInHanded_of_row (C := Tryz.checked) (s := OpenSpec.ofChange Rows.policySaysSpec) own started (by kernel_rfl) Tryz.func4
    (witness_row_at (enc := enc) (C := Tryz.checked) false (laidWorld os) args0 rfl (by kernel_rfl) (by kernel_rfl) (by kernel_rfl)
      (OpenSpec.preRow_of_cond 8 hx (by kernel_rfl) (fun k hk => by cases hk) (by kernel_rfl) (laid_met os))) ?_
  intro W base args ds gs before hval hW _ _ _ hL hsh _
  exact contract H enc W base args ds gs before hval hL hsh hW

theorem said : Rows.PolicySaysSaid :=
  OpenClaim.holds_of_cond 4 Tryz.f4 rfl rfl rfl rfl rfl rfl rfl ⟨rfl, rfl, rfl, rfl, rfl⟩ rfl rfl rfl rfl rfl (by kernel_rfl) Tryz.func4 (by kernel_rfl)
    (of_decide_eq_true (by kernel_rfl)) (by unfold Func.isWrapper; first | (rw [if_pos (by decide +kernel)]; kernel_rfl) | (rw [if_neg (by decide +kernel)]; exact ⟨rfl, rfl⟩))
    (fun os started H enc _ F => by rw [OpenClaim.pre_eq_preRow]; exact lifted os started H enc F)

theorem plain (f : FuncId) (fn : Func) (hf : Tryz.pinned.checked.prog.funcNamed "doorward/doorwardlaw.PolicySays" = some f) (hfn : Tryz.pinned.checked.prog.funcs[f]? = some fn) :
    true = Tryz.pinned.checked.prog.looks [] ∧ ∀ (j : Nat) t, fn.params[j]? = some t → Tryz.pinned.checked.prog.wantsStandIn t = false := by
  obtain rfl : f = 4 := Option.some.inj ((show Tryz.prog.funcNamed "doorward/doorwardlaw.PolicySays" = some 4 by kernel_rfl).symm.trans hf) |>.symm
  obtain rfl : fn = Tryz.f4 := (Option.some.inj (Tryz.func4.symm.trans hfn)).symm
  refine ⟨by kernel_rfl, fun j t ht => ?_⟩
  rw [Tryz.params4] at ht
  match j, ht with
  | 0, ht =>
    simp at ht
    subst ht
    exact (show Tryz.prog.wantsStandIn 27 = false by kernel_rfl)
  | 1, ht =>
    simp at ht
    subst ht
    exact (show Tryz.prog.wantsStandIn 41 = false by kernel_rfl)
  | 2, ht =>
    simp at ht
    subst ht
    exact (show Tryz.prog.wantsStandIn 45 = false by kernel_rfl)
  | j + 3, ht => simp at ht

/-- THE CARD. -/
theorem card : Rows.PolicySaysCardSaid :=
  Claim7.holds_tied_plain_at .later [] _ _ _ _ said (fun _ h => by cases h) (by kernel_rfl) (fun _ h => by cases h) policySays_row_tie rfl ⟨rfl, rfl⟩ (by kernel_rfl) rfl plain (by kernel_rfl)
end Go.Proofs.YtmgngapkgcofnaaGreatDoor.policySays
