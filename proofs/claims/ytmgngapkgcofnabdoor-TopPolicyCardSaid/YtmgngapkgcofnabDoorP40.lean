/- policy.Judge: the walk. -/
import Derived.Test.YtmgngapkgcofnabDoorP22
import Derived.Test.YtmgngapkgcofnabDoorP39
import Derived.BigQuiet
import Derived.Deep.RegionWith
namespace Go.Proofs.YtmgngapkgcofnabDoor
open Go.RowKit

theorem store3 {w : World} {b : Nat} {t : TypeId} {a0 a1 a2 : Value} (h : w.heap[b]? = some (.cells #[a0, a1, a2] t (0, 0))) (c0 c1 c2 : Value) :
    (((w.setCell ⟨b, 0, none⟩ c0).setCell ⟨b, 1, none⟩ c1).setCell ⟨b, 2, none⟩ c2).cell? ⟨b, 0, none⟩ = some c0 ∧ (((w.setCell ⟨b, 0, none⟩ c0).setCell ⟨b, 1, none⟩ c1).setCell ⟨b, 2, none⟩ c2).cell? ⟨b, 1, none⟩ = some c1 ∧ (((w.setCell ⟨b, 0, none⟩ c0).setCell ⟨b, 1, none⟩ c1).setCell ⟨b, 2, none⟩ c2).cell? ⟨b, 2, none⟩ = some c2 := by
  have e1 : (w.setCell ⟨b, 0, none⟩ c0).heap[b]? = some (.cells #[c0, a1, a2] t (0, 0)) := by
    have := heap_setCell_same w b 0 _ _ c0 h; simpa using this
  have e2 : ((w.setCell ⟨b, 0, none⟩ c0).setCell ⟨b, 1, none⟩ c1).heap[b]? = some (.cells #[c0, c1, a2] t (0, 0)) := by
    have := heap_setCell_same _ b 1 _ _ c1 e1; simpa using this
  have e3 : (((w.setCell ⟨b, 0, none⟩ c0).setCell ⟨b, 1, none⟩ c1).setCell ⟨b, 2, none⟩ c2).heap[b]? = some (.cells #[c0, c1, c2] t (0, 0)) := by
    have := heap_setCell_same _ b 2 _ _ c2 e2; simpa using this
  exact ⟨(cell_of_row _ _ _ _ _ _ e3).trans rfl, (cell_of_row _ _ _ _ _ _ e3).trans rfl, (cell_of_row _ _ _ _ _ _ e3).trans rfl⟩
theorem store3s {w : World} {b : Nat} {t : TypeId} {a0 a1 a2 : Value} (h : w.heap[b]? = some (.cells #[a0, a1, a2] t (0, 0))) (c0 c1 c2 : Value) :
    (w.setCell ⟨b, 0, none⟩ c0).cell? ⟨b, 0, none⟩ = some c0 ∧ ((w.setCell ⟨b, 0, none⟩ c0).setCell ⟨b, 1, none⟩ c1).cell? ⟨b, 1, none⟩ = some c1 ∧ (((w.setCell ⟨b, 0, none⟩ c0).setCell ⟨b, 1, none⟩ c1).setCell ⟨b, 2, none⟩ c2).cell? ⟨b, 2, none⟩ = some c2 := by
  have e1 : (w.setCell ⟨b, 0, none⟩ c0).heap[b]? = some (.cells #[c0, a1, a2] t (0, 0)) := by
    have := heap_setCell_same w b 0 _ _ c0 h; simpa using this
  have e2 : ((w.setCell ⟨b, 0, none⟩ c0).setCell ⟨b, 1, none⟩ c1).heap[b]? = some (.cells #[c0, c1, a2] t (0, 0)) := by
    have := heap_setCell_same _ b 1 _ _ c1 e1; simpa using this
  exact ⟨(cell_of_row _ _ _ _ _ _ e1).trans rfl, (cell_of_row _ _ _ _ _ _ e2).trans rfl, (store3 h c0 c1 c2).2.2⟩
theorem below_store3 {B : Nat} {w w' : World} {b : Nat} (h : Below B w w') (hb : B ≤ b) (c0 c1 c2 : Value) : Below B w (((w'.setCell ⟨b, 0, none⟩ c0).setCell ⟨b, 1, none⟩ c1).setCell ⟨b, 2, none⟩ c2) :=
  ((h.setCell hb _).setCell hb _).setCell hb _
def judge0 (w : World) (sv : Value) (k e a n a0 a1 a2 a3 : Int) : World :=
  ((w.alloc (.cells #[sv, .int .i64 k, .int .i64 e] 40)).alloc (.cells #[.int .u32 a, .int .u32 n, .int .u64 a0, .int .u64 a1, .int .u64 a2, .int .u64 a3] 44)).alloc (.cells #[.int .i64 0, .int .i64 0, .int .i64 0] 56)
structure JudgeIn (w W : World) (sv : Value) (k e a n a0 a1 a2 a3 : Int) : Prop where
  bel : Below w.heap.size w W
  p0 : W.cell? ⟨w.heap.size, 0, none⟩ = some sv
  p1 : W.cell? ⟨w.heap.size, 1, none⟩ = some (.int .i64 k)
  p2 : W.cell? ⟨w.heap.size, 2, none⟩ = some (.int .i64 e)
  c0 : W.cell? ⟨w.heap.size + 1, 0, none⟩ = some (.int .u32 a)
  c1 : W.cell? ⟨w.heap.size + 1, 1, none⟩ = some (.int .u32 n)
  c2 : W.cell? ⟨w.heap.size + 1, 2, none⟩ = some (.int .u64 a0)
  c3 : W.cell? ⟨w.heap.size + 1, 3, none⟩ = some (.int .u64 a1)
  c4 : W.cell? ⟨w.heap.size + 1, 4, none⟩ = some (.int .u64 a2)
  c5 : W.cell? ⟨w.heap.size + 1, 5, none⟩ = some (.int .u64 a3)
  res : W.heap[w.heap.size + 1 + 1]? = some (.cells #[.int .i64 0, .int .i64 0, .int .i64 0] 56 (0, 0))
theorem judge_in (w : World) (sv : Value) (k e a n a0 a1 a2 a3 : Int) (W : World) (h : Below (judge0 w sv k e a n a0 a1 a2 a3).heap.size (judge0 w sv k e a n a0 a1 a2 a3) W) : JudgeIn w W sv k e a n a0 a1 a2 a3 := by
  have hs : (judge0 w sv k e a n a0 a1 a2 a3).heap.size = w.heap.size + 3 := by simp [judge0]
  rw [hs] at h
  have b0 : W.heap[w.heap.size]? = some (.cells #[sv, .int .i64 k, .int .i64 e] 40 (0, 0)) := by
    rw [h.block _ (by omega), judge0, heap_alloc_old _ _ (by simp; omega), heap_alloc_old _ _ (by simp)]
    exact heap_alloc_new _ _
  have b1 : W.heap[w.heap.size + 1]? = some (.cells #[.int .u32 a, .int .u32 n, .int .u64 a0, .int .u64 a1, .int .u64 a2, .int .u64 a3] 44 (0, 0)) := by
    rw [h.block _ (by omega), judge0, heap_alloc_old _ _ (by simp)]
    have := heap_alloc_new (w.alloc (.cells #[sv, .int .i64 k, .int .i64 e] 40)) (.cells #[.int .u32 a, .int .u32 n, .int .u64 a0, .int .u64 a1, .int .u64 a2, .int .u64 a3] 44)
    rw [show w.heap.size + 1 = (w.alloc (.cells #[sv, .int .i64 k, .int .i64 e] 40)).heap.size from by simp]
    exact this
  have b2 : W.heap[w.heap.size + 1 + 1]? = some (.cells #[.int .i64 0, .int .i64 0, .int .i64 0] 56 (0, 0)) := by
    rw [h.block _ (by omega), judge0]
    have := heap_alloc_new ((w.alloc (.cells #[sv, .int .i64 k, .int .i64 e] 40)).alloc (.cells #[.int .u32 a, .int .u32 n, .int .u64 a0, .int .u64 a1, .int .u64 a2, .int .u64 a3] 44)) (.cells #[.int .i64 0, .int .i64 0, .int .i64 0] 56)
    rw [show w.heap.size + 1 + 1 = ((w.alloc (.cells #[sv, .int .i64 k, .int .i64 e] 40)).alloc (.cells #[.int .u32 a, .int .u32 n, .int .u64 a0, .int .u64 a1, .int .u64 a2, .int .u64 a3] 44)).heap.size from by simp]
    exact this
  refine ⟨?_, ?_, ?_, ?_, ?_, ?_, ?_, ?_, ?_, ?_, b2⟩
  · exact (((Below.refl _ _).alloc (Nat.le_refl _) _ |>.alloc (by simp) _).alloc (by simp; omega) _ : Below w.heap.size w (judge0 w sv k e a n a0 a1 a2 a3)).trans (h.mono (by omega))
  · rw [cell_of_row _ _ _ _ _ _ b0]; rfl
  · rw [cell_of_row _ _ _ _ _ _ b0]; rfl
  · rw [cell_of_row _ _ _ _ _ _ b0]; rfl
  · rw [cell_of_row _ _ _ _ _ _ b1]; rfl
  · rw [cell_of_row _ _ _ _ _ _ b1]; rfl
  · rw [cell_of_row _ _ _ _ _ _ b1]; rfl
  · rw [cell_of_row _ _ _ _ _ _ b1]; rfl
  · rw [cell_of_row _ _ _ _ _ _ b1]; rfl
  · rw [cell_of_row _ _ _ _ _ _ b1]; rfl
theorem JudgeIn.resf {w W : World} {sv : Value} {k e a n a0 a1 a2 a3 : Int} (h : JudgeIn w W sv k e a n a0 a1 a2 a3) : W.cell? ⟨w.heap.size + 1 + 1, 0, none⟩ = some (.int .i64 0) ∧ W.cell? ⟨w.heap.size + 1 + 1, 1, none⟩ = some (.int .i64 0) ∧ W.cell? ⟨w.heap.size + 1 + 1, 2, none⟩ = some (.int .i64 0) ∧ W.frozen? ⟨w.heap.size + 1 + 1, 0, none⟩ = false ∧ W.frozen? ⟨w.heap.size + 1 + 1, 1, none⟩ = false ∧ W.frozen? ⟨w.heap.size + 1 + 1, 2, none⟩ = false := by
  refine ⟨?_, ?_, ?_, frozen_of_row _ _ _ _ _ h.res, frozen_of_row _ _ _ _ _ h.res, frozen_of_row _ _ _ _ _ h.res⟩ <;> (rw [cell_of_row _ _ _ _ _ _ h.res]; rfl)
theorem pickJ_at (c : CallD) (k e : Int) {rs : List RuleD} {i : Nat} {r : RuleD} (h : rs[i]? = some r) : pickJ c k e i (rs.drop i) = if fitB c r then (if deepN r.conds r.conds.length then (4, 0, (i : Int)) else (r.kind, r.errno, 0)) else pickJ c k e (i + 1) (rs.drop (i + 1)) := by
  obtain ⟨hi, rfl⟩ := List.getElem?_eq_some_iff.1 h
  rw [List.drop_eq_getElem_cons hi, pickJ]
def judgeV (f : Int) (j : Int × Int × Int) : Value := if f = 0 then .tuple #[verV j.1 j.2.1 j.2.2, .nilIface] else .tuple #[verV 0 0 0, errV f]

set_option linter.unusedSimpArgs false in
set_option maxRecDepth 100000 in
set_option maxHeartbeats 8000000 in
theorem judge_any (v : Value) (p : PolD) (c : CallD) (w : World) (h : PolAt w w.heap.size v p) (hg : ∀ r ∈ p.rules, ∀ c ∈ r.conds, c.glob.size ≤ 100000) (hl : p.rules.length ≤ 100000) (hcl : ∀ r ∈ p.rules, r.conds.length ≤ 100000) :
    Calls Tryd.prog 16 #[v, c.v] w fun e w' => e = .returned (judgeV (polF p) (judgeF p c)) ∧ Below w.heap.size w w' := by
  obtain ⟨A, cp, rfl, hr⟩ := h
  obtain ⟨A1, cp1, hA, hr⟩ := hr
  obtain ⟨rfl, rfl⟩ : A = A1 ∧ cp = cp1 := by simpa using hA
  clear hA
  obtain ⟨rules, pk, pe⟩ := p
  simp only at hr hg hl hcl ⊢
  have HR := Lib.hid hr
  have HCH : Hid (∀ W : World, Below w.heap.size w W → Calls Tryd.prog 13 #[.agg #[.slice A rules.length cp, .int .i64 pk, .int .i64 pe]] W fun e w' => e = .returned (errV (polF ⟨rules, pk, pe⟩)) ∧ Below W.heap.size W w') := fun W hb =>
    polCheck_any _ ⟨rules, pk, pe⟩ W ⟨A, cp, rfl, RulesSl.mono (RulesSl.below ⟨A, cp, rfl, HR.out⟩ hb (Nat.le_refl _)) hb.size⟩ hg hl hcl
  have HZ : Hid (polF ⟨rules, pk, pe⟩ = 0 → rules.length ≤ 12 ∧ ∀ r ∈ rules, (0 ≤ r.nr ∧ r.nr ≤ 8) ∧ r.conds.length ≤ 4 ∧ ∀ c ∈ r.conds, (0 ≤ c.arg ∧ c.arg ≤ 3) ∧ 1 ≤ c.op ∧ c.op ≤ 9) := fun h0 => by
    obtain ⟨h1, _, h3⟩ := polF_zero h0
    refine ⟨h1, fun r hr => ?_⟩
    obtain ⟨k1, k2, k3, k4, _⟩ := ruleF_zero (h3 r hr)
    exact ⟨⟨k1, k2⟩, k3, fun c hc => ⟨⟨(k4 c hc).1, (k4 c hc).2.1⟩, (k4 c hc).2.2⟩⟩
  have HFC : Hid (∀ (r : RuleD) (W : World) (A' : Option Addr) (c' : Nat), CondsSl W W.heap.size (.slice A' r.conds.length c') r.conds → (0 ≤ r.nr ∧ r.nr ≤ 8) → (∀ x ∈ r.conds, (0 ≤ x.arg ∧ x.arg ≤ 3) ∧ 1 ≤ x.op ∧ x.op ≤ 9) → r.conds.length ≤ 100000 → Calls Tryd.prog 37 #[.agg #[.int .i64 r.nr, .slice A' r.conds.length c', .int .i64 r.kind, .int .i64 r.errno], c.v] W fun e w' => e = .returned (.tuple #[.bool (fitB c r), .bool (fitB c r && deepN r.conds r.conds.length)]) ∧ Below W.heap.size W w') := fun r W A' c' h1 h2 h3 h4 => fits_any r.nr _ r.conds r.kind r.errno c W h1 h2 h3 h4
  have HPK : Hid (∀ (i : Nat) r, rules[i]? = some r → pickJ c pk pe i (rules.drop i) = if fitB c r then (if deepN r.conds r.conds.length then (4, 0, (i : Int)) else (r.kind, r.errno, 0)) else pickJ c pk pe (i + 1) (rules.drop (i + 1))) := fun i r h => pickJ_at c pk pe h
  have HPE : Hid (pickJ c pk pe rules.length (rules.drop rules.length) = (pk, pe, 0)) := by show _ = _; rw [List.drop_length]; rfl
  have HJA : Hid (judgeF ⟨rules, pk, pe⟩ c = if c.arch = 3221225534 then pickJ c pk pe 0 (rules.drop 0) else (3, 0, 0)) := rfl
  obtain ⟨PJ, hPJ⟩ : ∃ PJ : Nat → List RuleD → Int × Int × Int, PJ = pickJ c pk pe := ⟨_, rfl⟩
  rw [← hPJ] at HPK HPE HJA
  obtain ⟨FB, hFB⟩ : ∃ FB : RuleD → Bool, FB = fitB c := ⟨_, rfl⟩
  rw [← hFB] at HFC HPK
  clear hPJ hFB hr hg hl hcl
  generalize judgeF ⟨rules, pk, pe⟩ c = J at *
  generalize polF ⟨rules, pk, pe⟩ = F at *
  obtain ⟨arch, cnr, a0, a1, a2, a3⟩ := c
  unfold CallD.v at HFC ⊢
  simp only at HJA HFC ⊢
  have HIN := Lib.hid (judge_in w (.slice A rules.length cp) pk pe arch cnr a0 a1 a2 a3)
  have hw0 : ((w.alloc (.cells #[.slice A rules.length cp, .int .i64 pk, .int .i64 pe] 40)).alloc (.cells #[.int .u32 arch, .int .u32 cnr, .int .u64 a0, .int .u64 a1, .int .u64 a2, .int .u64 a3] 44)).alloc (.cells #[.int .i64 0, .int .i64 0, .int .i64 0] 56) = judge0 w (.slice A rules.length cp) pk pe arch cnr a0 a1 a2 a3 := rfl
  go_enter Tryd.func16, Tryd.ntmps16
  go_upto_region 1 with fail
  try rw [hw0]
  clear hw0
  generalize judge0 w (.slice A rules.length cp) pk pe arch cnr a0 a1 a2 a3 = W0 at *
  obtain ⟨p0, p1, p2⟩ : W0.cell? ⟨w.heap.size, 0, none⟩ = some (.slice A rules.length cp) ∧ W0.cell? ⟨w.heap.size, 1, none⟩ = some (.int .i64 pk) ∧ W0.cell? ⟨w.heap.size, 2, none⟩ = some (.int .i64 pe) := ⟨(HIN.out W0 (Below.refl _ _)).p0, (HIN.out W0 (Below.refl _ _)).p1, (HIN.out W0 (Below.refl _ _)).p2⟩
  have HC0 := Lib.hid (HCH.out W0 (HIN.out W0 (Below.refl _ _)).bel)
  clear HCH
  by_cases hF : F = 0
  · subst hF
    have HJV : Hid (judgeV 0 J = .tuple #[verV J.1 J.2.1 J.2.2, .nilIface]) := rfl
    have HC1 : Hid (Calls Tryd.prog 13 #[.agg #[.slice A rules.length cp, .int .i64 pk, .int .i64 pe]] W0 fun e w' => e = .returned .nilIface ∧ Below W0.heap.size W0 w') := HC0.out
    obtain ⟨hr12, hrz⟩ := HZ.out rfl
    have HRZ := Lib.hid hrz
    clear HC0 HZ hrz
    by_cases ha : arch = 3221225534
    · subst ha
      have HJ0 : Hid (J = PJ 0 (rules.drop 0)) := HJA.out.trans (if_pos rfl)
      clear HJA
      go_upto_region 4 with (go_at_call 13; refine cargs (by simp [Act.eval]) (HC1.out.mono ?_); rintro e w1 ⟨rfl, hb1⟩; have HB1 := Lib.hid hb1; clear hb1)
      have h1 := HIN.out w1 HB1.out
      obtain ⟨bel1, p0, p1, p2, q0, q1, q2, q3, q4, q5, res1⟩ := h1
      clear bel1 res1
      go_wp2_with fail
      go_loopw [25] (fun iv wr => ∃ i : Nat, i ≤ rules.length ∧ iv = .int .i64 i ∧ Hid (Below W0.heap.size W0 wr) ∧ Hid (J = PJ i (rules.drop i))) (fun iv _ => rules.length - (intOf iv).toNat)
      case atStart => exact ⟨0, Nat.zero_le _, rfl, HB1, HJ0⟩
      case round =>
        obtain ⟨i, hi, rfl, HB, HP⟩ := hrel
        by_cases hlt : i < rules.length
        · have x2 : (i : Int) < (rules.length : Int) := by omega
          have x3 : (0 : Int) ≤ (i : Int) := by omega
          have hli : rules[i]? = some rules[i] := by simp
          have HBW : Hid (Below w.heap.size w wr) := (HIN.out wr HB.out).bel
          obtain ⟨b, o, rfl, hb, hrow⟩ := HR.out.resolve_left (by intro e; rw [e] at hlt; simp at hlt)
          obtain ⟨A', c', hcs, hrg⟩ := hrow i _ hli
          have hrg2 := rangeAt_below hrg HBW.out hb
          have HCS := Lib.hid (CondsSl.mono (CondsSl.below hcs HBW.out (Nat.le_refl _)) HBW.out.size)
          have HP1 : Hid (J = if FB rules[i] then (if deepN rules[i].conds rules[i].conds.length then (4, 0, (i : Int)) else (rules[i].kind, rules[i].errno, 0)) else PJ (i + 1) (rules.drop (i + 1))) := HP.out.trans (HPK.out i _ hli)
          obtain ⟨z1, z2, z3⟩ := HRZ.out rules[i] (by simp)
          have HFC1 := Lib.hid (fun (W : World) (A' : Option Addr) (c' : Nat) (hcsl : CondsSl W W.heap.size (.slice A' (rules[i]'hlt).conds.length c') (rules[i]'hlt).conds) => HFC.out (rules[i]'hlt) W A' c' hcsl z1 z3 (by omega))
          clear hcs hrg hrow hli z1 z2 z3
          generalize rules[i] = R at *
          obtain ⟨nr, conds, rk, re⟩ := R
          simp only at hrg2 HCS HP1 HFC1
          have f0 : wr.cell? ⟨b, o + i * 4, none⟩ = some (.int .i64 nr) := hrg2 0 _ rfl
          have f1 := hrg2 1 _ rfl
          have f2 := hrg2 2 _ rfl
          have f3 := hrg2 3 _ rfl
          clear hrg2
          have HC4 := Lib.hid (cell4 wr (.int .i64 nr) (.slice A' conds.length c') (.int .i64 rk) (.int .i64 re) 84)
          have HAB4 := Lib.hid (above wr (.cells #[.int .i64 nr, .slice A' conds.length c', .int .i64 rk, .int .i64 re] 84))
          go_upto_region 9 with fail
          generalize wr.alloc (.cells #[.int .i64 nr, .slice A' conds.length c', .int .i64 rk, .int .i64 re] 84) = W1 at *
          obtain ⟨g0, g1, g2, g3⟩ := HC4.out W1 (Below.refl _ _)
          have HB4 := Lib.hid (HAB4.out W1 (Below.refl _ _))
          have HB01 : Hid (Below W0.heap.size W0 W1) := HB.out.trans (HB4.out.mono HB.out.size)
          obtain ⟨_, s0, s1, s2, t0, t1, t2, t3, t4, t5, _⟩ := HIN.out W1 HB01.out
          have HFC2 := Lib.hid (HFC1.out W1 A' c' (CondsSl.mono (CondsSl.below HCS.out HB4.out (Nat.le_refl _)) HB4.out.size))
          clear f0 f1 f2 f3 HAB4 HFC1 HFC HCS HPK HR
          generalize deepN conds conds.length = DP at *
          by_cases hfit : FB ⟨nr, conds, rk, re⟩ = true
          · by_cases hdp : DP = true
            · subst hdp
              have HJ1 : Hid (J = (4, 0, (i : Int))) := HP1.out.trans (by rw [if_pos hfit, if_pos rfl])
              have HFC3 : Hid (Calls Tryd.prog 37 #[.agg #[.int .i64 nr, .slice A' conds.length c', .int .i64 rk, .int .i64 re], .agg #[.int .u32 3221225534, .int .u32 cnr, .int .u64 a0, .int .u64 a1, .int .u64 a2, .int .u64 a3]] W1 fun e w' => e = .returned (.tuple #[.bool true, .bool true]) ∧ Below W1.heap.size W1 w') := HFC2.out.mono fun _ _ ⟨h1, h2⟩ => ⟨by rw [h1, hfit]; rfl, h2⟩
              clear HFC2 HP1 hfit HP
              go_upto_region 10 with (go_at_call 37; refine cargs (by simp [Act.eval]) (HFC3.out.mono ?_); rintro e w2 ⟨rfl, hb2⟩; have HB2 := Lib.hid hb2; clear hb2)
              have HB02 : Hid (Below W0.heap.size W0 w2) := HB01.out.trans (HB2.out.mono HB01.out.size)
              have hin := HIN.out w2 HB02.out
              obtain ⟨r0, r1, r2, fz0, fz1, fz2⟩ := hin.resf
              obtain ⟨y0, y1, y2⟩ := store3 hin.res (.int .i64 4) (.int .i64 0) (.int .i64 (i : Int))
              have HBS := Lib.hid (below_store3 hin.bel (show w.heap.size ≤ w.heap.size + 1 + 1 by omega) (.int .i64 4) (.int .i64 0) (.int .i64 (i : Int)))
              clear hin
              go_wp2_with fail
              try simp only [Exit.inBlock, Exit.then]
              refine bodyPost_ret (by simp [results, Tryd.results16, go_sem, y0, y1, y2]; try rfl) rfl ?_
              exact ⟨by rw [HJV.out, HJ1.out]; rfl, HBS.out⟩
            · have hdf : DP = false := by simpa using hdp
              subst hdf
              have HJ1 : Hid (J = (rk, re, 0)) := HP1.out.trans (by rw [if_pos hfit, if_neg (by simp)])
              have HFC3 : Hid (Calls Tryd.prog 37 #[.agg #[.int .i64 nr, .slice A' conds.length c', .int .i64 rk, .int .i64 re], .agg #[.int .u32 3221225534, .int .u32 cnr, .int .u64 a0, .int .u64 a1, .int .u64 a2, .int .u64 a3]] W1 fun e w' => e = .returned (.tuple #[.bool true, .bool false]) ∧ Below W1.heap.size W1 w') := HFC2.out.mono fun _ _ ⟨h1, h2⟩ => ⟨by rw [h1, hfit]; rfl, h2⟩
              clear HFC2 HP1 hfit HP hdp
              go_upto_region 10 with (go_at_call 37; refine cargs (by simp [Act.eval]) (HFC3.out.mono ?_); rintro e w2 ⟨rfl, hb2⟩; have HB2 := Lib.hid hb2; clear hb2)
              have HB02 : Hid (Below W0.heap.size W0 w2) := HB01.out.trans (HB2.out.mono HB01.out.size)
              have hin := HIN.out w2 HB02.out
              obtain ⟨_, _, g2', g3'⟩ := HC4.out w2 HB2.out
              obtain ⟨r0, r1, r2, fz0, fz1, fz2⟩ := hin.resf
              obtain ⟨y0, y1, y2⟩ := store3 hin.res (.int .i64 rk) (.int .i64 re) (.int .i64 0)
              have HBS := Lib.hid (below_store3 hin.bel (show w.heap.size ≤ w.heap.size + 1 + 1 by omega) (.int .i64 rk) (.int .i64 re) (.int .i64 0))
              clear hin
              go_wp2_with fail
              try simp only [Exit.inBlock, Exit.then]
              refine bodyPost_ret (by simp [results, Tryd.results16, go_sem, y0, y1, y2]; try rfl) rfl ?_
              exact ⟨by rw [HJV.out, HJ1.out]; rfl, HBS.out⟩
          · have hff : FB ⟨nr, conds, rk, re⟩ = false := by simpa using hfit
            have HJ1 : Hid (J = PJ (i + 1) (rules.drop (i + 1))) := HP1.out.trans (by rw [hff]; rfl)
            have HFC3 : Hid (Calls Tryd.prog 37 #[.agg #[.int .i64 nr, .slice A' conds.length c', .int .i64 rk, .int .i64 re], .agg #[.int .u32 3221225534, .int .u32 cnr, .int .u64 a0, .int .u64 a1, .int .u64 a2, .int .u64 a3]] W1 fun e w' => e = .returned (.tuple #[.bool false, .bool false]) ∧ Below W1.heap.size W1 w') := HFC2.out.mono fun _ _ ⟨h1, h2⟩ => ⟨by rw [h1, hff]; rfl, h2⟩
            clear HFC2 HP1 hfit HP hff
            go_upto_region 10 with (go_at_call 37; refine cargs (by simp [Act.eval]) (HFC3.out.mono ?_); rintro e w2 ⟨rfl, hb2⟩; have HB2 := Lib.hid hb2; clear hb2)
            have HB02 : Hid (Below W0.heap.size W0 w2) := HB01.out.trans (HB2.out.mono HB01.out.size)
            go_wp2_with fail
            go_roundw
            case rel => exact ⟨i + 1, by omega, by go_num, HB02, HJ1⟩
            case measure => simp [intOf]; omega
        · obtain rfl : i = rules.length := by omega
          have hin := HIN.out wr HB.out
          obtain ⟨u0, u1, u2⟩ : wr.cell? ⟨w.heap.size, 0, none⟩ = some (.slice A rules.length cp) ∧ wr.cell? ⟨w.heap.size, 1, none⟩ = some (.int .i64 pk) ∧ wr.cell? ⟨w.heap.size, 2, none⟩ = some (.int .i64 pe) := ⟨hin.p0, hin.p1, hin.p2⟩
          obtain ⟨r0, r1, r2, fz0, fz1, fz2⟩ := hin.resf
          obtain ⟨y0, y1, y2⟩ := store3 hin.res (.int .i64 pk) (.int .i64 pe) (.int .i64 0)
          have HBS := Lib.hid (below_store3 hin.bel (show w.heap.size ≤ w.heap.size + 1 + 1 by omega) (.int .i64 pk) (.int .i64 pe) (.int .i64 0))
          have HJ1 : Hid (J = (pk, pe, 0)) := HP.out.trans HPE.out
          clear hin HP
          go_wp2_with fail
          try simp only [Exit.inBlock, Exit.then]
          refine bodyPost_ret (by simp [results, Tryd.results16, go_sem, y0, y1, y2]; try rfl) rfl ?_
          exact ⟨by rw [HJV.out, HJ1.out]; rfl, HBS.out⟩
    · have HJ1 : Hid (J = (3, 0, 0)) := HJA.out.trans (if_neg ha)
      clear HJA
      go_upto_region 4 with (go_at_call 13; refine cargs (by simp [Act.eval]) (HC1.out.mono ?_); rintro e w1 ⟨rfl, hb1⟩; have HB1 := Lib.hid hb1; clear hb1)
      have hin := HIN.out w1 HB1.out
      have q0 := hin.c0
      obtain ⟨r0, r1, r2, fz0, fz1, fz2⟩ := hin.resf
      obtain ⟨y0, y1, y2⟩ := store3 hin.res (.int .i64 3) (.int .i64 0) (.int .i64 0)
      have HBS := Lib.hid (below_store3 hin.bel (show w.heap.size ≤ w.heap.size + 1 + 1 by omega) (.int .i64 3) (.int .i64 0) (.int .i64 0))
      clear hin
      go_wp2_with fail
      try simp only [Exit.inBlock, Exit.then]
      refine bodyPost_ret (by simp [results, Tryd.results16, go_sem, y0, y1, y2]; try rfl) rfl ?_
      exact ⟨by rw [HJV.out, HJ1.out]; rfl, HBS.out⟩
  · have HJV : Hid (judgeV F J = .tuple #[verV 0 0 0, .iface 64 (.int .i64 F)]) := by show _ = _; unfold judgeV; rw [if_neg hF, errV_pos hF]
    have HC1 : Hid (Calls Tryd.prog 13 #[.agg #[.slice A rules.length cp, .int .i64 pk, .int .i64 pe]] W0 fun e w' => e = .returned (.iface 64 (.int .i64 F)) ∧ Below W0.heap.size W0 w') := HC0.out.mono fun _ _ ⟨h1, h2⟩ => ⟨by rw [h1, errV_pos hF], h2⟩
    clear HC0 HZ hF
    go_upto_region 2 with (go_at_call 13; refine cargs (by simp [Act.eval]) (HC1.out.mono ?_); rintro e w1 ⟨rfl, hb1⟩; have HB1 := Lib.hid hb1; clear hb1)
    have hin := HIN.out w1 HB1.out
    obtain ⟨r0, r1, r2, fz0, fz1, fz2⟩ := hin.resf
    obtain ⟨y0, y1, y2⟩ := store3 hin.res (.int .i64 0) (.int .i64 0) (.int .i64 0)
    have HBS := Lib.hid (below_store3 hin.bel (show w.heap.size ≤ w.heap.size + 1 + 1 by omega) (.int .i64 0) (.int .i64 0) (.int .i64 0))
    clear hin
    go_wp2_with fail
    try simp only [Exit.inBlock, Exit.then]
    refine bodyPost_ret (by simp [results, Tryd.results16, go_sem, y0, y1, y2]; try rfl) rfl ?_
    exact ⟨by rw [HJV.out]; rfl, HBS.out⟩
end Go.Proofs.YtmgngapkgcofnabDoor
/- policy.Text: the walk. -/
namespace Go.Proofs.YtmgngapkgcofnabDoor
open Go.RowKit

theorem kept_cells {t : TypeId} {b : Option Nat} {w w' : World} {g : Nat} {cs : Array Value} {T : TypeId} {fz : Nat × Nat} (h : Lib.OthersKept t b w w') (hg : w.heap[g]? = some (.cells cs T fz)) (hb : some g ≠ b) (hT : T ≠ t) : w'.heap[g]? = some (.cells cs T fz) :=
  h g _ hg hb (fun c f e => by simp only [Obj.cells.injEq] at e; exact hT e.2.1)
/-- Writing into the builder, above a text. -/
theorem txt_write (w1 : World) (L : List UInt8) (S : ByteArray) (W : World) (h : TxtAt w1 W L) (hl : L.length ≤ 1000000) (hs : S.size ≤ 1000000) :
    Calls Tryd.prog 21 #[.pointer (some ⟨w1.heap.size, 0, none⟩), .string S] W fun e w' => (∃ n, e = .returned (.tuple #[.int .i64 n, .nilIface])) ∧ TxtAt w1 w' (L ++ S.data.toList) ∧ Lib.OthersKept 5 (some w1.heap.size) W w' :=
  (Tryd.ws_k w1.heap.size w1.heap.size (Lib.byteCells L) S W h.blt (by rw [Lib.byteCells_length]; omega) h.bel.size).mono fun e w' ⟨h1, h2, h3, h4⟩ => ⟨⟨_, h1⟩, ⟨h.bel.trans h3, .inr (by
    have e2 : Lib.byteCells (L ++ S.data.toList) = Lib.byteCells L ++ Lib.strCells S := by rw [Lib.byteCells_append]; rfl
    rw [e2]; exact h2)⟩, h4⟩
theorem formFld0 (s : ByteArray) (a b c d : Int) (w : World) : (Instr.field 92 (.agg #[.string s, .int .i64 a, .int .i64 b, .int .i64 c, .int .i64 d]) 0).run Tryd.prog w = .ok (.string s) w := by kernel_rfl
theorem bcell' {W w1 : World} (hb : Below W.heap.size W w1) : (∀ b o, b < W.heap.size → w1.cell? ⟨b, o, none⟩ = W.cell? ⟨b, o, none⟩) ∧ (∀ b o, b < W.heap.size → w1.frozen? ⟨b, o, none⟩ = W.frozen? ⟨b, o, none⟩) :=
  ⟨fun b o h => hb.cell (p := ⟨b, o, none⟩) h, fun b o h => hb.frozen (p := ⟨b, o, none⟩) h⟩
theorem lt_of_builder {T e : TypeId} {B b : Nat} {bs : List Value} {w : World} (h : Lib.IsBuilderF T e B b bs w) : b < w.heap.size := by
  rcases h with ⟨_, _, hb, _⟩ | ⟨_, _, hb, _⟩ <;> exact lt_of_block hb
theorem TxtAt.below {w1 W W' : World} {L : List UInt8} (h : TxtAt w1 W L) (hb : Below W.heap.size W W') : TxtAt w1 W' L := ⟨h.bel.trans (hb.mono h.bel.size), builderF_below h.blt hb⟩
theorem box3 (w : World) (a b c : Value) (t : TypeId) (W : World) (h : Below (w.alloc (.cells #[a, b, c] t)).heap.size (w.alloc (.cells #[a, b, c] t)) W) :
    W.cell? ⟨w.heap.size, 0, none⟩ = some a ∧ W.cell? ⟨w.heap.size, 1, none⟩ = some b ∧ W.cell? ⟨w.heap.size, 2, none⟩ = some c := by
  have hs : w.heap.size < (w.alloc (.cells #[a, b, c] t)).heap.size := by simp
  refine ⟨?_, ?_, ?_⟩ <;> (rw [h.cell (p := ⟨w.heap.size, _, none⟩) hs, cell_of_row _ _ _ _ _ _ (heap_alloc_new _ _)]; rfl)

set_option linter.unusedSimpArgs false in
set_option maxRecDepth 100000 in
set_option maxHeartbeats 4000000 in
theorem polText_any (v : Value) (p : PolD) (w : World) (h : PolAt w w.heap.size v p) (hg : ∀ r ∈ p.rules, ∀ c ∈ r.conds, c.glob.size ≤ 100000) (hl : p.rules.length ≤ 100000) (hcl : ∀ r ∈ p.rules, r.conds.length ≤ 100000)
    (htab : Lib.TabIs Tryd.prog w "internal/strconv.uint64pow10" .u64 Lib.pow10Tab) :
    Calls Tryd.prog 14 #[v] w fun e w' => e = .returned (.tuple #[.string ⟨(if polF p = 0 then polT p else []).toArray⟩, errV (polF p)]) ∧ Below w.heap.size w w' := by
  have HTB := Lib.hid (tab_below htab)
  clear htab
  obtain ⟨A, cp, rfl, hr⟩ := h
  obtain ⟨A1, cp1, hA, hr⟩ := hr
  obtain ⟨rfl, rfl⟩ : A = A1 ∧ cp = cp1 := by simpa using hA
  clear hA
  obtain ⟨rules, pk, pe⟩ := p
  simp only at hr hg hl hcl ⊢
  have HR := Lib.hid hr
  have HCH : Hid (∀ W : World, Below w.heap.size w W → Calls Tryd.prog 13 #[.agg #[.slice A rules.length cp, .int .i64 pk, .int .i64 pe]] W fun e w' => e = .returned (errV (polF ⟨rules, pk, pe⟩)) ∧ Below W.heap.size W w') := fun W hb =>
    polCheck_any _ ⟨rules, pk, pe⟩ W ⟨A, cp, rfl, RulesSl.mono (RulesSl.below ⟨A, cp, rfl, HR.out⟩ hb (Nat.le_refl _)) hb.size⟩ hg hl hcl
  have HB3 := Lib.hid (box3 w (.slice A rules.length cp) (.int .i64 pk) (.int .i64 pe) 40)
  have HAB := Lib.hid (above w (.cells #[.slice A rules.length cp, .int .i64 pk, .int .i64 pe] 40))
  by_cases hF : polF ⟨rules, pk, pe⟩ = 0
  · have HRS : Hid (∀ (i : Nat) r, rules[i]? = some r → RuleSm r) := fun i r hi => by
      have hm := List.mem_of_getElem? hi
      obtain ⟨_, _, h3⟩ := polF_zero hF
      obtain ⟨b, o, _, _, hrow⟩ := HR.out.resolve_left (by intro e; rw [e] at hm; simp at hm)
      obtain ⟨_, _, hcs, _⟩ := hrow i r hi
      exact ruleSm_of hcs.1 (h3 r hm)
    obtain ⟨hr12, hact, _⟩ := polF_zero hF
    have HPT : Hid (polT ⟨rules, pk, pe⟩ = elseT ⟨rules, pk, pe⟩ ++ rulesT rules) := polT_text _
    have hel := elseT_len (p := ⟨rules, pk, pe⟩) hact
    have HEL : Hid (elseT ⟨rules, pk, pe⟩ = [101, 108, 115, 101, 32] ++ joinW 32 (actW pk pe) ++ [10]) := rfl
    have HAT : Hid (∀ W : World, Below w.heap.size w W → Calls Tryd.prog 30 #[.agg #[.int .i64 pk, .int .i64 pe]] W fun e' w' => e' = .returned (.string ⟨(joinW 32 (actW pk pe)).toArray⟩) ∧ Below W.heap.size W w') := fun W hb => actionText_any pk pe W hact (HTB.out W hb)
    have hal := act_len hact
    rw [if_pos hF, hF]
    rw [hF] at HCH
    have HCH2 : Hid (∀ W : World, Below w.heap.size w W → Calls Tryd.prog 13 #[.agg #[.slice A rules.length cp, .int .i64 pk, .int .i64 pe]] W fun e w' => e = .returned .nilIface ∧ Below W.heap.size W w') := HCH.out
    clear HCH hF hr hg hl hcl hact
    generalize polT ⟨rules, pk, pe⟩ = PT at *
    generalize elseT ⟨rules, pk, pe⟩ = ET at *
    generalize joinW 32 (actW pk pe) = AT at *
    have g1 : ¬ 9223372036854775807 < 5 + AT.length := by omega
    have g2 : ¬ 9223372036854775807 < 5 + AT.length + 1 := by omega
    have HSE : Hid ((⟨ET.toArray⟩ : ByteArray) = ⟨#[101, 108, 115, 101, 32]⟩ ++ ⟨AT.toArray⟩ ++ ⟨#[10]⟩) := by
      show _ = _
      rw [HEL.out, ← bstr_app, ← bstr_app]
    have hlE : ET.length ≤ 31 := hel
    have HB0 : Hid (∀ W, W = w.alloc (.cells #[.slice A rules.length cp, .int .i64 pk, .int .i64 pe] 40) → Below w.heap.size w W) := fun W h => by subst h; exact (Below.refl _ _).alloc (Nat.le_refl _) _
    go_enter Tryd.func14, Tryd.ntmps14
    go_upto_region 4 with (go_at_call 13; refine cargs (by simp [Act.eval]) ((HCH2.out _ (HB0.out _ rfl)).mono ?_); rintro e w1 ⟨rfl, hb1⟩; have HB1 := Lib.hid hb1; clear hb1)
    have HI0 : Hid (TxtAt w1 (w1.alloc (.cells #[.pointer none, .slice none 0 0] 70)) []) := ⟨(Below.refl _ _).alloc (Nat.le_refl _) _, builderF_new _ _ _⟩
    have HBW : Hid (∀ W, Below w1.heap.size w1 W → Below w.heap.size w W) := fun W hb => (HAB.out w1 HB1.out).trans (hb.mono (HAB.out w1 HB1.out).size)
    have HBX : Hid (∀ W, Below w1.heap.size w1 W → W.cell? ⟨w.heap.size, 0, none⟩ = some (.slice A rules.length cp) ∧ W.cell? ⟨w.heap.size, 1, none⟩ = some (.int .i64 pk) ∧ W.cell? ⟨w.heap.size, 2, none⟩ = some (.int .i64 pe)) := fun W hb => HB3.out W (HB1.out.trans (hb.mono HB1.out.size))
    go_upto_region 5 with fail
    generalize w1.alloc (.cells #[.pointer none, .slice none 0 0] 70) = W0 at *
    obtain ⟨c0, c1, c2⟩ := HBX.out W0 HI0.out.bel
    have HWS : Hid (∀ (L D : List UInt8) (W : World), TxtAt w1 W L → L.length ≤ 1000000 → D.length ≤ 1000000 → Calls Tryd.prog 21 #[.pointer (some ⟨w1.heap.size, 0, none⟩), .string ⟨D.toArray⟩] W fun e w' => (∃ n, e = .returned (.tuple #[.int .i64 n, .nilIface])) ∧ TxtAt w1 w' (L ++ D) ∧ Lib.OthersKept 5 (some w1.heap.size) W w') := fun L D W h h1 h2 => by
      have := txt_write w1 L ⟨D.toArray⟩ W h h1 (by rw [bsz]; exact h2)
      simpa using this
    go_upto_region 6 with (first
      | (go_at_call 30; refine cargs (by simp [Act.eval]) ((HAT.out _ (HBW.out _ HI0.out.bel)).mono ?_); rintro e w2 ⟨rfl, hb2⟩; have HI1 := Lib.hid (HI0.out.below hb2); clear hb2)
      | (go_at_call 21; refine cargs (by rw [HSE.out]) ((HWS.out [] ET _ HI1.out (by simp) (by omega)).mono ?_); rintro e w3 ⟨⟨n3, rfl⟩, hi3, _⟩; have HI3 := Lib.hid hi3; clear hi3))
    obtain ⟨c0', c1', c2'⟩ := HBX.out w3 HI3.out.bel
    clear c0 c1 c2 HI0 HI1 HSE HEL HAT HCH2
    have HIE : Hid (TxtAt w1 w3 (ET ++ rulesT (rules.take 0))) := by
      have e : ET ++ rulesT (rules.take 0) = [] ++ ET := by simp [rulesT]
      rw [e]; exact HI3.out
    go_wp2_with fail
    go_loopw [24] (fun iv wr => ∃ i : Nat, i ≤ rules.length ∧ iv = .int .i64 i ∧ Hid (TxtAt w1 wr (ET ++ rulesT (rules.take i)))) (fun iv _ => rules.length - (intOf iv).toNat)
    case atStart => exact ⟨0, Nat.zero_le _, rfl, HIE⟩
    case round =>
      obtain ⟨i, hi, rfl, HI⟩ := hrel
      obtain ⟨wo, rfl⟩ : ∃ wo : World, wo = wr := ⟨_, rfl⟩
      by_cases hlt : i < rules.length
      · have x2 : (i : Int) < (rules.length : Int) := by omega
        have x3 : (0 : Int) ≤ (i : Int) := by omega
        have hli : rules[i]? = some rules[i] := by simp
        have hbo := HBW.out wo HI.out.bel
        obtain ⟨b, o, rfl, hb, hrow⟩ := HR.out.resolve_left (by intro e; rw [e] at hlt; simp at hlt)
        obtain ⟨A', c', hcs, hrg⟩ := hrow i _ hli
        have hrg2 := rangeAt_below hrg hbo hb
        have HCS := Lib.hid hcs
        have HSM := HRS.out i _ hli
        have HNX : Hid (ET ++ rulesT (rules.take (i + 1)) = ET ++ rulesT (rules.take i) ++ ruleT rules[i]) := by
          show _ = _
          rw [take_next hli, rulesT_snoc, List.append_assoc]
        have hLl : (ET ++ rulesT (rules.take i)).length ≤ 50000 := by
          have h1 := rulesT_len (rules.take i) (fun r hr => by
            obtain ⟨k, hk⟩ := List.getElem?_of_mem (List.mem_of_mem_take hr)
            exact HRS.out k r hk)
          have h2 : (rules.take i).length ≤ 12 := by simp only [List.length_take]; omega
          simp only [List.length_append]
          omega
        clear hcs hrg hrow hli
        generalize rules[i] = R at *
        obtain ⟨nr, conds, rk, re⟩ := R
        obtain ⟨ha, hn, hfew, hcon⟩ := HSM
        simp only at hrg2 HCS ha hn hfew hcon
        obtain ⟨n, rfl⟩ : ∃ n : Nat, nr = n := ⟨nr.toNat, by omega⟩
        have HRT : Hid (ruleT ⟨(n : Int), conds, rk, re⟩ = joinW 32 (actW rk re) ++ [32] ++ nameW n ++ condsT 0 conds ++ [10]) := rfl
        rw [HRT.out] at HNX
        have HAT : Hid (∀ W : World, Below w.heap.size w W → Calls Tryd.prog 30 #[.agg #[.int .i64 rk, .int .i64 re]] W fun e' w' => e' = .returned (.string ⟨(joinW 32 (actW rk re)).toArray⟩) ∧ Below W.heap.size W w') := fun W hb => actionText_any rk re W ha (HTB.out W hb)
        have hal2 := act_len ha
        have hnl := name_len n (by omega)
        have HNM : Hid (nameW n = (formName n).data.toList) := rfl
        have hns : (formName n).size = (nameW n).length := by unfold nameW; simp
        have hix := fun w : World => formIdx n (by omega) w
        have hfl := formFld0
        have HFM := Lib.hid (fun W : World => forms_any W)
        have HCN := Lib.hid hcon
        rw [Int.toNat_natCast] at HCN
        have f0 : wo.cell? ⟨b, o + i * 4, none⟩ = some (.int .i64 (n : Int)) := hrg2 0 _ rfl
        have f1 := hrg2 1 _ rfl
        have f2 := hrg2 2 _ rfl
        have f3 := hrg2 3 _ rfl
        clear hrg2 hcon HRT ha hbo
        generalize joinW 32 (actW rk re) = AT at *
        generalize nameW n = NM at *
        generalize formName n = FN at *
        generalize ET ++ rulesT (rules.take i) = L at *
        have HI4 : Hid (TxtAt w1 (wo.alloc (.cells #[.int .i64 (n : Int), .slice A' conds.length c', .int .i64 rk, .int .i64 re] 84)) L) := HI.out.below ((Below.refl _ _).alloc (Nat.le_refl _) _)
        have HG4 : Hid ((wo.alloc (.cells #[.int .i64 (n : Int), .slice A' conds.length c', .int .i64 rk, .int .i64 re] 84)).heap[wo.heap.size]? = some (.cells #[.int .i64 (n : Int), .slice A' conds.length c', .int .i64 rk, .int .i64 re] 84 (0, 0))) := heap_alloc_new _ _
        have hgo : w1.heap.size < wo.heap.size := lt_of_builder HI.out.blt
        go_upto_region 9 with fail
        generalize wo.alloc (.cells #[.int .i64 (n : Int), .slice A' conds.length c', .int .i64 rk, .int .i64 re] 84) = W4 at *
        clear f0 f1 f2 f3
        generalize wo.heap.size = g at *
        have HSC : Hid (∀ W : World, W.heap[g]? = some (.cells #[.int .i64 (n : Int), .slice A' conds.length c', .int .i64 rk, .int .i64 re] 84 (0, 0)) → W.cell? ⟨g, 0, none⟩ = some (.int .i64 (n : Int)) ∧ W.cell? ⟨g, 2, none⟩ = some (.int .i64 rk) ∧ W.cell? ⟨g, 3, none⟩ = some (.int .i64 re)) := fun W h => ⟨(cell_of_row _ _ _ _ _ _ h).trans rfl, (cell_of_row _ _ _ _ _ _ h).trans rfl, (cell_of_row _ _ _ _ _ _ h).trans rfl⟩
        have HDS : Hid ((⟨(AT ++ [32] ++ NM).toArray⟩ : ByteArray) = ⟨AT.toArray⟩ ++ ⟨#[32]⟩ ++ FN) := by
          show _ = _
          rw [← bstr_app, ← bstr_app, gstr FN, ← HNM.out]
        have HDl : Hid ((AT ++ [32] ++ NM).length ≤ 50) := by show _ ≤ _; simp only [List.length_append, List.length_cons, List.length_nil]; omega
        have g3 : ¬ 9223372036854775807 < AT.length + 1 := by omega
        have g4 : ¬ 9223372036854775807 < AT.length + 1 + FN.size := by omega
        have HID : Hid (TxtAt w1 W4.drew L) := ⟨HI4.out.bel.drew, HI4.out.blt⟩
        have HGD : Hid (W4.drew.heap[g]? = some (.cells #[.int .i64 (n : Int), .slice A' conds.length c', .int .i64 rk, .int .i64 re] 84 (0, 0))) := HG4.out
        have HLl := Lib.hid hLl
        clear hLl hal2 hnl hns g1 g2
        go_region_held3 (fun W' : World => W'.cell? ⟨g, 0, none⟩ = some (.int .i64 (n : Int)) ∧ W'.cell? ⟨g, 2, none⟩ = some (.int .i64 rk) ∧ W'.cell? ⟨g, 3, none⟩ = some (.int .i64 re)) (first | exact HSC.out _ HG7.out | exact HSC.out _ HG6.out | exact HSC.out _ HG5.out | exact HSC.out _ HGD.out) (first
          | (go_at_call 30; refine cargs (by first | (simp [Act.eval]; done) | fail) ((HAT.out _ (HBW.out _ HID.out.bel)).mono ?_); rintro e w5 ⟨rfl, hb5⟩; have HI5 := Lib.hid (HID.out.below hb5); have HG5 := Lib.hid ((hb5.block g (lt_of_block HGD.out)).trans HGD.out); clear hb5)
          | (go_at_call 31; refine cargs (by first | (simp [Act.eval]; done) | fail) ((HFM.out _).mono ?_); rintro e w6 ⟨rfl, hb6⟩; have HI6 := Lib.hid (HI5.out.below hb6); have HG6 := Lib.hid ((hb6.block g (lt_of_block HG5.out)).trans HG5.out); clear hb6)
          | (go_at_call 21; refine cargs (by first | (rw [HDS.out]; done) | fail) ((HWS.out L (AT ++ [32] ++ NM) _ HI6.out (by have := HLl.out; omega) (by have := HDl.out; omega)).mono ?_); rintro e w7 ⟨⟨n7, rfl⟩, hi7, hk7⟩; have HI7 := Lib.hid hi7; have HG7 := Lib.hid (kept_cells hk7 HG6.out (by simp; omega) (by decide)); clear hi7 hk7))
        obtain ⟨_, d1, _, _⟩ : w7.cell? ⟨g, 0, none⟩ = some (.int .i64 (n : Int)) ∧ w7.cell? ⟨g, 1, none⟩ = some (.slice A' conds.length c') ∧ w7.cell? ⟨g, 2, none⟩ = some (.int .i64 rk) ∧ w7.cell? ⟨g, 3, none⟩ = some (.int .i64 re) := by
          have h := HG7.out
          exact ⟨(cell_of_row _ _ _ _ _ _ h).trans rfl, (cell_of_row _ _ _ _ _ _ h).trans rfl, (cell_of_row _ _ _ _ _ _ h).trans rfl, (cell_of_row _ _ _ _ _ _ h).trans rfl⟩
        clear HI4 HG4 HID HGD HI5 HG5 HI6 HG6 HSC HDS HAT HFM hix hfl g3 g4 HG7
        obtain ⟨LD, HLD⟩ : ∃ LD, Hid (LD = L ++ (AT ++ [32] ++ NM)) := ⟨L ++ (AT ++ [32] ++ NM), rfl⟩
        rw [← HLD.out] at HI7
        have HLDl : Hid (LD.length ≤ 60000) := by show _ ≤ _; rw [HLD.out, List.length_append]; have := HLl.out; have := HDl.out; omega
        have HIC : Hid (TxtAt w1 w7 (LD ++ condsT 0 (conds.take 0))) := by
          have e : LD ++ condsT 0 (conds.take 0) = LD := by simp [condsT]
          rw [e]; exact HI7.out
        go_wp2_with fail
        go_loopw [42] (fun jv wr => ∃ j : Nat, j ≤ conds.length ∧ jv = .int .i64 j ∧ Hid (TxtAt w1 wr (LD ++ condsT 0 (conds.take j)))) (fun jv _ => conds.length - (intOf jv).toNat)
        case atStart => exact ⟨0, Nat.zero_le _, rfl, HIC⟩
        case round =>
          clear HIC HI7
          obtain ⟨j, hj, rfl, HJ⟩ := hrel
          by_cases hjl : j < conds.length
          · have y2 : (j : Int) < (conds.length : Int) := by omega
            have y3 : (0 : Int) ≤ (j : Int) := by omega
            have hlk : conds[j]? = some conds[j] := by simp
            have hbr := HBW.out wr HJ.out.bel
            obtain ⟨hcok, A2, c2, hA2, hrw⟩ := HCS.out.below hbr (Nat.le_refl _)
            obtain ⟨rfl, rfl⟩ : A' = A2 ∧ c' = c2 := by simpa using hA2
            obtain ⟨b2, o2, rfl, hb2, hrow2⟩ := hrw.resolve_left (by intro e; rw [e] at hjl; simp at hjl)
            have hr9 := hrow2 j _ hlk
            obtain ⟨hsm, hck, hcf⟩ := HCN.out conds[j] (by simp)
            have HNJ : Hid (LD ++ condsT 0 (conds.take (j + 1)) = LD ++ condsT 0 (conds.take j) ++ ((if j = 0 then [32, 105, 102, 32] else [32, 97, 110, 100, 32]) ++ ctL conds[j])) := by
              show _ = _
              rw [take_next hlk, condsT_snoc, List.append_assoc]
              have : 0 + (conds.take j).length = j := by simp; omega
              rw [this]
            have hcl := ctL_len hsm
            have hLj : (LD ++ condsT 0 (conds.take j)).length ≤ 70000 := by
              have h1 := condsT_len (conds.take j) 0 (fun x hx => (HCN.out x (List.mem_of_mem_take hx)).1)
              have h2 : (conds.take j).length ≤ 4 := by simp only [List.length_take]; omega
              have h3 := HLDl.out
              simp only [List.length_append]
              omega
            have HCT : Hid (∀ W : World, Below w.heap.size w W → Calls Tryd.prog 32 #[conds[j].val] W fun e w' => e = .returned (.string ⟨(ctL conds[j]).toArray⟩) ∧ Below W.heap.size W w') := fun W hb => condText_any n _ W hck hcf (HTB.out W hb)
            clear hcok hA2 hrw hrow2 hlk hsm hck hcf hbr
            generalize conds[j] = CC at *
            obtain ⟨arg, op, v, m, glob, ⟨ip, bits, lo, hi⟩⟩ := CC
            have e0 : wr.cell? ⟨b2, o2 + j * 9, none⟩ = some (.int .i64 arg) := hr9 0 _ rfl
            have e1 := hr9 1 _ rfl
            have e2 := hr9 2 _ rfl
            have e3 := hr9 3 _ rfl
            have e4 := hr9 4 _ rfl
            have e5 := hr9 5 _ rfl
            have e6 := hr9 6 _ rfl
            have e7 := hr9 7 _ rfl
            have e8 := hr9 8 _ rfl
            simp only at e1 e2 e3 e4 e5 e6 e7 e8
            unfold CondD.val at HCT
            simp only at HCT
            generalize ctL ⟨arg, op, v, m, glob, ⟨ip, bits, lo, hi⟩⟩ = CT at *
            generalize LD ++ condsT 0 (conds.take j) = LJ at *
            have HC9 := Lib.hid (cell9 wr (.int .i64 arg) (.int .i64 op) (.int .u64 v) (.int .u64 m) (.string glob) (.int .u32 ip) (.int .i64 bits) (.int .i64 lo) (.int .i64 hi) 86)
            have HJ4 : Hid (TxtAt w1 (wr.alloc (.cells #[.int .i64 arg, .int .i64 op, .int .u64 v, .int .u64 m, .string glob, .int .u32 ip, .int .i64 bits, .int .i64 lo, .int .i64 hi] 86)) LJ) := HJ.out.below ((Below.refl _ _).alloc (Nat.le_refl _) _)
            obtain ⟨M, SP, hmn, hM2, hmM, hsp, hsl⟩ : ∃ (M : Nat) (SP : List UInt8), min (j : Int) 1 = (M : Int) ∧ M < 2 ∧ (∀ W : World, (W.alloc (.cells #[.string ⟨#[32, 105, 102, 32]⟩, .string ⟨#[32, 97, 110, 100, 32]⟩] 9)).cell? ⟨W.heap.size, M, none⟩ = some (.string ⟨SP.toArray⟩)) ∧ (if j = 0 then [32, 105, 102, 32] else [32, 97, 110, 100, 32]) = SP ∧ SP.length ≤ 5 := by
              by_cases h0 : j = 0
              · exact ⟨0, [32, 105, 102, 32], by omega, by omega, fun W => by rw [cell_of_row _ _ _ _ _ _ (heap_alloc_new _ _)]; rfl, if_pos h0, by decide⟩
              · exact ⟨1, [32, 97, 110, 100, 32], by omega, by omega, fun W => by rw [cell_of_row _ _ _ _ _ _ (heap_alloc_new _ _)]; rfl, if_neg h0, by decide⟩
            rw [hsp] at HNJ
            have HSL := Lib.hid hsl
            have hM0 : (0 : Int) ≤ (M : Int) := by omega
            have hM3 : (M : Int) < 2 := by omega
            clear hsp hsl
            clear hr9
            go_upto_region 13 with fail
            generalize hW5 : wr.alloc (.cells #[.int .i64 arg, .int .i64 op, .int .u64 v, .int .u64 m, .string glob, .int .u32 ip, .int .i64 bits, .int .i64 lo, .int .i64 hi] 86) = W5 at *
            clear e0 e1 e2 e3 e4 e5 e6 e7 e8
            have hh5 : W5.heap[wr.heap.size]? = some (.cells #[.int .i64 arg, .int .i64 op, .int .u64 v, .int .u64 m, .string glob, .int .u32 ip, .int .i64 bits, .int .i64 lo, .int .i64 hi] 86 (0, 0)) := by rw [← hW5]; exact heap_alloc_new _ _
            have hgr : w1.heap.size < wr.heap.size := lt_of_builder HJ.out.blt
            clear HC9 hW5
            generalize wr.heap.size = h at *
            have HROW : Hid (∀ W : World, W.heap[h]? = some (.cells #[.int .i64 arg, .int .i64 op, .int .u64 v, .int .u64 m, .string glob, .int .u32 ip, .int .i64 bits, .int .i64 lo, .int .i64 hi] 86 (0, 0)) → W.cell? ⟨h, 0, none⟩ = some (.int .i64 arg) ∧ W.cell? ⟨h, 1, none⟩ = some (.int .i64 op) ∧ W.cell? ⟨h, 2, none⟩ = some (.int .u64 v) ∧ W.cell? ⟨h, 3, none⟩ = some (.int .u64 m) ∧ W.cell? ⟨h, 4, none⟩ = some (.string glob) ∧ W.cell? ⟨h, 5, none⟩ = some (.int .u32 ip) ∧ W.cell? ⟨h, 6, none⟩ = some (.int .i64 bits) ∧ W.cell? ⟨h, 7, none⟩ = some (.int .i64 lo) ∧ W.cell? ⟨h, 8, none⟩ = some (.int .i64 hi)) := fun W hw =>
              ⟨(cell_of_row _ _ _ _ _ _ hw).trans rfl, (cell_of_row _ _ _ _ _ _ hw).trans rfl, (cell_of_row _ _ _ _ _ _ hw).trans rfl, (cell_of_row _ _ _ _ _ _ hw).trans rfl, (cell_of_row _ _ _ _ _ _ hw).trans rfl, (cell_of_row _ _ _ _ _ _ hw).trans rfl, (cell_of_row _ _ _ _ _ _ hw).trans rfl, (cell_of_row _ _ _ _ _ _ hw).trans rfl, (cell_of_row _ _ _ _ _ _ hw).trans rfl⟩
            have hlt5 : h < W5.heap.size := lt_of_block hh5
            have HALLW : Hid (∀ W, Below W5.heap.size W5 W → Below w.heap.size w W ∧ TxtAt w1 W LJ ∧ W.heap[h]? = some (.cells #[.int .i64 arg, .int .i64 op, .int .u64 v, .int .u64 m, .string glob, .int .u32 ip, .int .i64 bits, .int .i64 lo, .int .i64 hi] 86 (0, 0))) := fun W hb =>
              ⟨HBW.out W (HJ4.out.bel.trans (hb.mono HJ4.out.bel.size)), HJ4.out.below hb, (hb.block h hlt5).trans hh5⟩
            obtain ⟨q0, q1, q2, q3, q4, q5, q6, q7, q8⟩ := HROW.out W5 hh5
            have HD0 : Hid (Below W5.heap.size W5 W5.drew) := (Below.refl _ _).drew
            have HD1 : Hid (∀ o, Below W5.heap.size W5 (W5.drew.alloc o)) := fun o => (Below.refl _ _).drew.alloc (Nat.le_refl _) o
            have HD2 : Hid (∀ o, Below W5.heap.size W5 (W5.alloc o)) := fun o => (Below.refl _ _).alloc (Nat.le_refl _) o
            have HD3 : Hid (∀ o, Below W5.heap.size W5 (W5.alloc o).drew) := fun o => ((Below.refl _ _).alloc (Nat.le_refl _) o).drew
            have HD4 : Hid (Below W5.heap.size W5 W5) := Below.refl _ _
            have HLJ := Lib.hid hLj
            have HCL := Lib.hid hcl
            clear HJ4 HJ hh5 hLj hcl hj
            have HNJ2 : Hid (LD ++ condsT 0 (conds.take (j + 1)) = LJ ++ (SP ++ CT)) := by show _ = _; rw [HNJ.out]
            have HDS : Hid ((⟨(SP ++ CT).toArray⟩ : ByteArray) = ⟨SP.toArray⟩ ++ ⟨CT.toArray⟩) := by show _ = _; rw [← bstr_app]
            have g3 : ¬ 9223372036854775807 < SP.length + CT.length := by have := HCL.out; have := HSL.out; omega
            clear HNJ hM2
            go_region_with (first
              | (go_at_call 32; refine cargs (by first | (simp [Act.eval]; done) | fail) ((HCT.out _ (HALLW.out _ (by first | exact HD0.out | exact HD1.out _ | exact HD2.out _ | exact HD3.out _ | exact HD4.out)).1).mono ?_); rintro e w6 ⟨rfl, hb6⟩; have HD6 : Hid (Below W5.heap.size W5 w6) := (by first | exact HD0.out.trans (hb6.mono HD0.out.size) | exact (HD1.out _).trans (hb6.mono (HD1.out _).size) | exact (HD2.out _).trans (hb6.mono (HD2.out _).size) | exact (HD3.out _).trans (hb6.mono (HD3.out _).size) | exact hb6); have HD6A : Hid (∀ o, Below W5.heap.size W5 (w6.alloc o)) := (fun o => HD6.out.alloc HD6.out.size o); have HD6B : Hid (∀ o, Below W5.heap.size W5 (w6.alloc o).drew) := (fun o => (HD6.out.alloc HD6.out.size o).drew); have HD6C : Hid (Below W5.heap.size W5 w6.drew) := HD6.out.drew; obtain ⟨hc6, hf6⟩ := bcell' hb6; clear hb6)
              | (go_at_call 21; refine cargs (by first | (rw [HDS.out]; done) | fail) ((HWS.out LJ (SP ++ CT) _ (HALLW.out _ (by first | exact HD6.out | exact HD6A.out _ | exact HD6B.out _ | exact HD6C.out)).2.1 (by have := HLJ.out; omega) (by have := HCL.out; have := HSL.out; simp only [List.length_append]; omega)).mono ?_); rintro e w7 ⟨⟨n7, rfl⟩, hi7, hk7⟩; have HJ7 := Lib.hid hi7; have HG7 := Lib.hid (kept_cells hk7 (HALLW.out _ (by first | exact HD6.out | exact HD6A.out _ | exact HD6B.out _ | exact HD6C.out)).2.2 (by simp; omega) (by decide)); clear hi7 hk7))
            all_goals
              go_wp2_with fail
              go_roundw
              case rel => exact ⟨j + 1, by omega, by go_num, by rw [HNJ2.out]; exact HJ7⟩
              case measure => simp [intOf]; omega
          · obtain rfl : j = conds.length := by omega
            rw [List.take_length] at HJ
            have HNL : Hid (LD ++ condsT 0 conds ++ [10] = ET ++ rulesT (rules.take (i + 1))) := by
              show _ = _
              rw [HNX.out, HLD.out]; simp
            have hLj : (LD ++ condsT 0 conds).length ≤ 70000 := by
              have h1 := condsT_len conds 0 (fun x hx => (HCN.out x hx).1)
              have h3 := HLDl.out
              simp only [List.length_append]
              omega
            have HLj := Lib.hid hLj
            clear hLj HNX HLD
            generalize LD ++ condsT 0 conds = LJ at *
            go_wp2_with (go_at_call 21; refine cargs (by first | (simp [Act.eval]; done) | rfl) ((HWS.out LJ [10] _ HJ.out (by have := HLj.out; omega) (by simp)).mono ?_); rintro e w8 ⟨⟨n8, rfl⟩, hi8, _⟩; have HI8 := Lib.hid hi8; clear hi8)
            go_roundw
            case rel => exact ⟨i + 1, by omega, by go_num, by rw [← HNL.out]; exact HI8⟩
            case measure => simp [intOf]; omega
      · obtain rfl : i = rules.length := by omega
        rw [List.take_length, ← HPT.out] at HI
        have HST : Hid (∀ W, TxtAt w1 W PT → Calls Tryd.prog 24 #[.pointer (some ⟨w1.heap.size, 0, none⟩)] W fun e w' => e = .returned (.string ⟨PT.toArray⟩) ∧ Below w1.heap.size w1 w') := fun W h => (Tryd.str_k w1.heap.size w1.heap.size PT W h.blt h.bel.size).mono fun e w' ⟨h1, _, h3, _⟩ => ⟨h1, h.bel.trans h3⟩
        go_wp2_with (go_at_call 24; refine cargs (by simp [Act.eval]) ((HST.out _ HI.out).mono ?_); rintro e w9 ⟨rfl, hb9⟩; have HB9 := Lib.hid hb9; clear hb9)
        go_returns
        exact ⟨rfl, HBW.out _ HB9.out⟩
  · rw [if_neg hF, errV_pos hF]
    rw [errV_pos hF] at HCH
    generalize polF ⟨rules, pk, pe⟩ = pf at *
    clear hr hg hl hcl HTB
    have HB0 : Hid (∀ W, W = w.alloc (.cells #[.slice A rules.length cp, .int .i64 pk, .int .i64 pe] 40) → Below w.heap.size w W) := fun W h => by subst h; exact (Below.refl _ _).alloc (Nat.le_refl _) _
    go_enter Tryd.func14, Tryd.ntmps14
    go_wp2_with (go_at_call 13; refine cargs (by simp [Act.eval]) ((HCH.out _ (HB0.out _ rfl)).mono ?_); rintro e w1 ⟨rfl, hb1⟩; have HB1 := Lib.hid hb1; clear hb1)
    go_returns
    exact ⟨rfl, HAB.out _ HB1.out⟩
end Go.Proofs.YtmgngapkgcofnabDoor
