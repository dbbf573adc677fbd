/- policy.Judge: the walk. -/
import Derived.Test.YtmgngapkgcofnaaGreatDoorP30
namespace Go.Proofs.YtmgngapkgcofnaaGreatDoor
open Go.RowKit

theorem store3 {w : World} {b : Nat} {t : TypeId} {a0 a1 a2 : Value} (h : w.heap[b]? = some (.cells #[a0, a1, a2] t (0, 0))) (c0 c1 c2 : Value) :
    (((w.setCell ⟨b, 0, none⟩ c0).setCell ⟨b, 1, none⟩ c1).setCell ⟨b, 2, none⟩ c2).cell? ⟨b, 0, none⟩ = some c0 ∧ (((w.setCell ⟨b, 0, none⟩ c0).setCell ⟨b, 1, none⟩ c1).setCell ⟨b, 2, none⟩ c2).cell? ⟨b, 1, none⟩ = some c1 ∧ (((w.setCell ⟨b, 0, none⟩ c0).setCell ⟨b, 1, none⟩ c1).setCell ⟨b, 2, none⟩ c2).cell? ⟨b, 2, none⟩ = some c2 := by
  have e1 : (w.setCell ⟨b, 0, none⟩ c0).heap[b]? = some (.cells #[c0, a1, a2] t (0, 0)) := by
    have := heap_setCell_same w b 0 _ _ c0 h; simpa using this
  have e2 : ((w.setCell ⟨b, 0, none⟩ c0).setCell ⟨b, 1, none⟩ c1).heap[b]? = some (.cells #[c0, c1, a2] t (0, 0)) := by
    have := heap_setCell_same _ b 1 _ _ c1 e1; simpa using this
  have e3 : (((w.setCell ⟨b, 0, none⟩ c0).setCell ⟨b, 1, none⟩ c1).setCell ⟨b, 2, none⟩ c2).heap[b]? = some (.cells #[c0, c1, c2] t (0, 0)) := by
    have := heap_setCell_same _ b 2 _ _ c2 e2; simpa using this
  exact ⟨(cell_of_row _ _ _ _ _ _ e3).trans rfl, (cell_of_row _ _ _ _ _ _ e3).trans rfl, (cell_of_row _ _ _ _ _ _ e3).trans rfl⟩
theorem store3s {w : World} {b : Nat} {t : TypeId} {a0 a1 a2 : Value} (h : w.heap[b]? = some (.cells #[a0, a1, a2] t (0, 0))) (c0 c1 c2 : Value) :
    (w.setCell ⟨b, 0, none⟩ c0).cell? ⟨b, 0, none⟩ = some c0 ∧ ((w.setCell ⟨b, 0, none⟩ c0).setCell ⟨b, 1, none⟩ c1).cell? ⟨b, 1, none⟩ = some c1 ∧ (((w.setCell ⟨b, 0, none⟩ c0).setCell ⟨b, 1, none⟩ c1).setCell ⟨b, 2, none⟩ c2).cell? ⟨b, 2, none⟩ = some c2 := by
  have e1 : (w.setCell ⟨b, 0, none⟩ c0).heap[b]? = some (.cells #[c0, a1, a2] t (0, 0)) := by
    have := heap_setCell_same w b 0 _ _ c0 h; simpa using this
  have e2 : ((w.setCell ⟨b, 0, none⟩ c0).setCell ⟨b, 1, none⟩ c1).heap[b]? = some (.cells #[c0, c1, a2] t (0, 0)) := by
    have := heap_setCell_same _ b 1 _ _ c1 e1; simpa using this
  exact ⟨(cell_of_row _ _ _ _ _ _ e1).trans rfl, (cell_of_row _ _ _ _ _ _ e2).trans rfl, (store3 h c0 c1 c2).2.2⟩
theorem below_store3 {B : Nat} {w w' : World} {b : Nat} (h : Below B w w') (hb : B ≤ b) (c0 c1 c2 : Value) : Below B w (((w'.setCell ⟨b, 0, none⟩ c0).setCell ⟨b, 1, none⟩ c1).setCell ⟨b, 2, none⟩ c2) :=
  ((h.setCell hb _).setCell hb _).setCell hb _
def judge0 (w : World) (sv : Value) (k e a n a0 a1 a2 a3 : Int) : World :=
  ((w.alloc (.cells #[sv, .int .i64 k, .int .i64 e] 27)).alloc (.cells #[.int .u32 a, .int .u32 n, .int .u64 a0, .int .u64 a1, .int .u64 a2, .int .u64 a3] 41)).alloc (.cells #[.int .i64 0, .int .i64 0, .int .i64 0] 53)
structure JudgeIn (w W : World) (sv : Value) (k e a n a0 a1 a2 a3 : Int) : Prop where
  bel : Below w.heap.size w W
  p0 : W.cell? ⟨w.heap.size, 0, none⟩ = some sv
  p1 : W.cell? ⟨w.heap.size, 1, none⟩ = some (.int .i64 k)
  p2 : W.cell? ⟨w.heap.size, 2, none⟩ = some (.int .i64 e)
  c0 : W.cell? ⟨w.heap.size + 1, 0, none⟩ = some (.int .u32 a)
  c1 : W.cell? ⟨w.heap.size + 1, 1, none⟩ = some (.int .u32 n)
  c2 : W.cell? ⟨w.heap.size + 1, 2, none⟩ = some (.int .u64 a0)
  c3 : W.cell? ⟨w.heap.size + 1, 3, none⟩ = some (.int .u64 a1)
  c4 : W.cell? ⟨w.heap.size + 1, 4, none⟩ = some (.int .u64 a2)
  c5 : W.cell? ⟨w.heap.size + 1, 5, none⟩ = some (.int .u64 a3)
  res : W.heap[w.heap.size + 1 + 1]? = some (.cells #[.int .i64 0, .int .i64 0, .int .i64 0] 53 (0, 0))
theorem judge_in (w : World) (sv : Value) (k e a n a0 a1 a2 a3 : Int) (W : World) (h : Below (judge0 w sv k e a n a0 a1 a2 a3).heap.size (judge0 w sv k e a n a0 a1 a2 a3) W) : JudgeIn w W sv k e a n a0 a1 a2 a3 := by
  have hs : (judge0 w sv k e a n a0 a1 a2 a3).heap.size = w.heap.size + 3 := by simp [judge0]
  rw [hs] at h
  have b0 : W.heap[w.heap.size]? = some (.cells #[sv, .int .i64 k, .int .i64 e] 27 (0, 0)) := by
    rw [h.block _ (by omega), judge0, heap_alloc_old _ _ (by simp; omega), heap_alloc_old _ _ (by simp)]
    exact heap_alloc_new _ _
  have b1 : W.heap[w.heap.size + 1]? = some (.cells #[.int .u32 a, .int .u32 n, .int .u64 a0, .int .u64 a1, .int .u64 a2, .int .u64 a3] 41 (0, 0)) := by
    rw [h.block _ (by omega), judge0, heap_alloc_old _ _ (by simp)]
    have := heap_alloc_new (w.alloc (.cells #[sv, .int .i64 k, .int .i64 e] 27)) (.cells #[.int .u32 a, .int .u32 n, .int .u64 a0, .int .u64 a1, .int .u64 a2, .int .u64 a3] 41)
    rw [show w.heap.size + 1 = (w.alloc (.cells #[sv, .int .i64 k, .int .i64 e] 27)).heap.size from by simp]
    exact this
  have b2 : W.heap[w.heap.size + 1 + 1]? = some (.cells #[.int .i64 0, .int .i64 0, .int .i64 0] 53 (0, 0)) := by
    rw [h.block _ (by omega), judge0]
    have := heap_alloc_new ((w.alloc (.cells #[sv, .int .i64 k, .int .i64 e] 27)).alloc (.cells #[.int .u32 a, .int .u32 n, .int .u64 a0, .int .u64 a1, .int .u64 a2, .int .u64 a3] 41)) (.cells #[.int .i64 0, .int .i64 0, .int .i64 0] 53)
    rw [show w.heap.size + 1 + 1 = ((w.alloc (.cells #[sv, .int .i64 k, .int .i64 e] 27)).alloc (.cells #[.int .u32 a, .int .u32 n, .int .u64 a0, .int .u64 a1, .int .u64 a2, .int .u64 a3] 41)).heap.size from by simp]
    exact this
  refine ⟨?_, ?_, ?_, ?_, ?_, ?_, ?_, ?_, ?_, ?_, b2⟩
  · exact (((Below.refl _ _).alloc (Nat.le_refl _) _ |>.alloc (by simp) _).alloc (by simp; omega) _ : Below w.heap.size w (judge0 w sv k e a n a0 a1 a2 a3)).trans (h.mono (by omega))
  · rw [cell_of_row _ _ _ _ _ _ b0]; rfl
  · rw [cell_of_row _ _ _ _ _ _ b0]; rfl
  · rw [cell_of_row _ _ _ _ _ _ b0]; rfl
  · rw [cell_of_row _ _ _ _ _ _ b1]; rfl
  · rw [cell_of_row _ _ _ _ _ _ b1]; rfl
  · rw [cell_of_row _ _ _ _ _ _ b1]; rfl
  · rw [cell_of_row _ _ _ _ _ _ b1]; rfl
  · rw [cell_of_row _ _ _ _ _ _ b1]; rfl
  · rw [cell_of_row _ _ _ _ _ _ b1]; rfl
theorem JudgeIn.resf {w W : World} {sv : Value} {k e a n a0 a1 a2 a3 : Int} (h : JudgeIn w W sv k e a n a0 a1 a2 a3) : W.cell? ⟨w.heap.size + 1 + 1, 0, none⟩ = some (.int .i64 0) ∧ W.cell? ⟨w.heap.size + 1 + 1, 1, none⟩ = some (.int .i64 0) ∧ W.cell? ⟨w.heap.size + 1 + 1, 2, none⟩ = some (.int .i64 0) ∧ W.frozen? ⟨w.heap.size + 1 + 1, 0, none⟩ = false ∧ W.frozen? ⟨w.heap.size + 1 + 1, 1, none⟩ = false ∧ W.frozen? ⟨w.heap.size + 1 + 1, 2, none⟩ = false := by
  refine ⟨?_, ?_, ?_, frozen_of_row _ _ _ _ _ h.res, frozen_of_row _ _ _ _ _ h.res, frozen_of_row _ _ _ _ _ h.res⟩ <;> (rw [cell_of_row _ _ _ _ _ _ h.res]; rfl)
theorem pickJ_at (c : CallD) (k e : Int) {rs : List RuleD} {i : Nat} {r : RuleD} (h : rs[i]? = some r) : pickJ c k e i (rs.drop i) = if fitB c r then (if deepN r.conds r.conds.length then (4, 0, (i : Int)) else (r.kind, r.errno, 0)) else pickJ c k e (i + 1) (rs.drop (i + 1)) := by
  obtain ⟨hi, rfl⟩ := List.getElem?_eq_some_iff.1 h
  rw [List.drop_eq_getElem_cons hi, pickJ]
def judgeV (f : Int) (j : Int × Int × Int) : Value := if f = 0 then .tuple #[verV j.1 j.2.1 j.2.2, .nilIface] else .tuple #[verV 0 0 0, errV f]

set_option linter.unusedSimpArgs false in
set_option maxRecDepth 100000 in
set_option maxHeartbeats 8000000 in
theorem judge_any (v : Value) (p : PolD) (c : CallD) (w : World) (h : PolAt w w.heap.size v p) (hg : ∀ r ∈ p.rules, ∀ c ∈ r.conds, c.glob.size ≤ 100000) (hl : p.rules.length ≤ 100000) (hcl : ∀ r ∈ p.rules, r.conds.length ≤ 100000) :
    Calls Tryz.prog 15 #[v, c.v] w fun e w' => e = .returned (judgeV (polF p) (judgeF p c)) ∧ Below w.heap.size w w' := by
  obtain ⟨A, cp, rfl, hr⟩ := h
  obtain ⟨A1, cp1, hA, hr⟩ := hr
  obtain ⟨rfl, rfl⟩ : A = A1 ∧ cp = cp1 := by simpa using hA
  clear hA
  obtain ⟨rules, pk, pe⟩ := p
  simp only at hr hg hl hcl ⊢
  have HR := Lib.hid hr
  have HCH : Hid (∀ W : World, Below w.heap.size w W → Calls Tryz.prog 17 #[.agg #[.slice A rules.length cp, .int .i64 pk, .int .i64 pe]] W fun e w' => e = .returned (errV (polF ⟨rules, pk, pe⟩)) ∧ Below W.heap.size W w') := fun W hb =>
    polCheck_any _ ⟨rules, pk, pe⟩ W ⟨A, cp, rfl, RulesSl.mono (RulesSl.below ⟨A, cp, rfl, HR.out⟩ hb (Nat.le_refl _)) hb.size⟩ hg hl hcl
  have HZ : Hid (polF ⟨rules, pk, pe⟩ = 0 → rules.length ≤ 12 ∧ ∀ r ∈ rules, (0 ≤ r.nr ∧ r.nr ≤ 8) ∧ r.conds.length ≤ 4 ∧ ∀ c ∈ r.conds, (0 ≤ c.arg ∧ c.arg ≤ 3) ∧ 1 ≤ c.op ∧ c.op ≤ 9) := fun h0 => by
    obtain ⟨h1, _, h3⟩ := polF_zero h0
    refine ⟨h1, fun r hr => ?_⟩
    obtain ⟨k1, k2, k3, k4, _⟩ := ruleF_zero (h3 r hr)
    exact ⟨⟨k1, k2⟩, k3, fun c hc => ⟨⟨(k4 c hc).1, (k4 c hc).2.1⟩, (k4 c hc).2.2⟩⟩
  have HFC : Hid (∀ (r : RuleD) (W : World) (A' : Option Addr) (c' : Nat), CondsSl W W.heap.size (.slice A' r.conds.length c') r.conds → (0 ≤ r.nr ∧ r.nr ≤ 8) → (∀ x ∈ r.conds, (0 ≤ x.arg ∧ x.arg ≤ 3) ∧ 1 ≤ x.op ∧ x.op ≤ 9) → r.conds.length ≤ 100000 → Calls Tryz.prog 35 #[.agg #[.int .i64 r.nr, .slice A' r.conds.length c', .int .i64 r.kind, .int .i64 r.errno], c.v] W fun e w' => e = .returned (.tuple #[.bool (fitB c r), .bool (fitB c r && deepN r.conds r.conds.length)]) ∧ Below W.heap.size W w') := fun r W A' c' h1 h2 h3 h4 => fits_any r.nr _ r.conds r.kind r.errno c W h1 h2 h3 h4
  have HPK : Hid (∀ (i : Nat) r, rules[i]? = some r → pickJ c pk pe i (rules.drop i) = if fitB c r then (if deepN r.conds r.conds.length then (4, 0, (i : Int)) else (r.kind, r.errno, 0)) else pickJ c pk pe (i + 1) (rules.drop (i + 1))) := fun i r h => pickJ_at c pk pe h
  have HPE : Hid (pickJ c pk pe rules.length (rules.drop rules.length) = (pk, pe, 0)) := by show _ = _; rw [List.drop_length]; rfl
  have HJA : Hid (judgeF ⟨rules, pk, pe⟩ c = if c.arch = 3221225534 then pickJ c pk pe 0 (rules.drop 0) else (3, 0, 0)) := rfl
  obtain ⟨PJ, hPJ⟩ : ∃ PJ : Nat → List RuleD → Int × Int × Int, PJ = pickJ c pk pe := ⟨_, rfl⟩
  rw [← hPJ] at HPK HPE HJA
  obtain ⟨FB, hFB⟩ : ∃ FB : RuleD → Bool, FB = fitB c := ⟨_, rfl⟩
  rw [← hFB] at HFC HPK
  clear hPJ hFB hr hg hl hcl
  generalize judgeF ⟨rules, pk, pe⟩ c = J at *
  generalize polF ⟨rules, pk, pe⟩ = F at *
  obtain ⟨arch, cnr, a0, a1, a2, a3⟩ := c
  unfold CallD.v at HFC ⊢
  simp only at HJA HFC ⊢
  have HIN := Lib.hid (judge_in w (.slice A rules.length cp) pk pe arch cnr a0 a1 a2 a3)
  have hw0 : ((w.alloc (.cells #[.slice A rules.length cp, .int .i64 pk, .int .i64 pe] 27)).alloc (.cells #[.int .u32 arch, .int .u32 cnr, .int .u64 a0, .int .u64 a1, .int .u64 a2, .int .u64 a3] 41)).alloc (.cells #[.int .i64 0, .int .i64 0, .int .i64 0] 53) = judge0 w (.slice A rules.length cp) pk pe arch cnr a0 a1 a2 a3 := rfl
  go_enter Tryz.func15, Tryz.ntmps15
  go_upto_region 1 with fail
  try rw [hw0]
  clear hw0
  generalize judge0 w (.slice A rules.length cp) pk pe arch cnr a0 a1 a2 a3 = W0 at *
  obtain ⟨p0, p1, p2⟩ : W0.cell? ⟨w.heap.size, 0, none⟩ = some (.slice A rules.length cp) ∧ W0.cell? ⟨w.heap.size, 1, none⟩ = some (.int .i64 pk) ∧ W0.cell? ⟨w.heap.size, 2, none⟩ = some (.int .i64 pe) := ⟨(HIN.out W0 (Below.refl _ _)).p0, (HIN.out W0 (Below.refl _ _)).p1, (HIN.out W0 (Below.refl _ _)).p2⟩
  have HC0 := Lib.hid (HCH.out W0 (HIN.out W0 (Below.refl _ _)).bel)
  clear HCH
  by_cases hF : F = 0
  · subst hF
    have HJV : Hid (judgeV 0 J = .tuple #[verV J.1 J.2.1 J.2.2, .nilIface]) := rfl
    have HC1 : Hid (Calls Tryz.prog 17 #[.agg #[.slice A rules.length cp, .int .i64 pk, .int .i64 pe]] W0 fun e w' => e = .returned .nilIface ∧ Below W0.heap.size W0 w') := HC0.out
    obtain ⟨hr12, hrz⟩ := HZ.out rfl
    have HRZ := Lib.hid hrz
    clear HC0 HZ hrz
    by_cases ha : arch = 3221225534
    · subst ha
      have HJ0 : Hid (J = PJ 0 (rules.drop 0)) := HJA.out.trans (if_pos rfl)
      clear HJA
      go_upto_region 4 with (go_at_call 17; refine cargs (by simp [Act.eval]) (HC1.out.mono ?_); rintro e w1 ⟨rfl, hb1⟩; have HB1 := Lib.hid hb1; clear hb1)
      have h1 := HIN.out w1 HB1.out
      obtain ⟨bel1, p0, p1, p2, q0, q1, q2, q3, q4, q5, res1⟩ := h1
      clear bel1 res1
      go_wp2_with fail
      go_loopw [25] (fun iv wr => ∃ i : Nat, i ≤ rules.length ∧ iv = .int .i64 i ∧ Hid (Below W0.heap.size W0 wr) ∧ Hid (J = PJ i (rules.drop i))) (fun iv _ => rules.length - (intOf iv).toNat)
      case atStart => exact ⟨0, Nat.zero_le _, rfl, HB1, HJ0⟩
      case round =>
        obtain ⟨i, hi, rfl, HB, HP⟩ := hrel
        by_cases hlt : i < rules.length
        · have x2 : (i : Int) < (rules.length : Int) := by omega
          have x3 : (0 : Int) ≤ (i : Int) := by omega
          have hli : rules[i]? = some rules[i] := by simp
          have HBW : Hid (Below w.heap.size w wr) := (HIN.out wr HB.out).bel
          obtain ⟨b, o, rfl, hb, hrow⟩ := HR.out.resolve_left (by intro e; rw [e] at hlt; simp at hlt)
          obtain ⟨A', c', hcs, hrg⟩ := hrow i _ hli
          have hrg2 := rangeAt_below hrg HBW.out hb
          have HCS := Lib.hid (CondsSl.mono (CondsSl.below hcs HBW.out (Nat.le_refl _)) HBW.out.size)
          have HP1 : Hid (J = if FB rules[i] then (if deepN rules[i].conds rules[i].conds.length then (4, 0, (i : Int)) else (rules[i].kind, rules[i].errno, 0)) else PJ (i + 1) (rules.drop (i + 1))) := HP.out.trans (HPK.out i _ hli)
          obtain ⟨z1, z2, z3⟩ := HRZ.out rules[i] (by simp)
          have HFC1 := Lib.hid (fun (W : World) (A' : Option Addr) (c' : Nat) (hcsl : CondsSl W W.heap.size (.slice A' (rules[i]'hlt).conds.length c') (rules[i]'hlt).conds) => HFC.out (rules[i]'hlt) W A' c' hcsl z1 z3 (by omega))
          clear hcs hrg hrow hli z1 z2 z3
          generalize rules[i] = R at *
          obtain ⟨nr, conds, rk, re⟩ := R
          simp only at hrg2 HCS HP1 HFC1
          have f0 : wr.cell? ⟨b, o + i * 4, none⟩ = some (.int .i64 nr) := hrg2 0 _ rfl
          have f1 := hrg2 1 _ rfl
          have f2 := hrg2 2 _ rfl
          have f3 := hrg2 3 _ rfl
          clear hrg2
          have HC4 := Lib.hid (cell4 wr (.int .i64 nr) (.slice A' conds.length c') (.int .i64 rk) (.int .i64 re) 73)
          have HAB4 := Lib.hid (above wr (.cells #[.int .i64 nr, .slice A' conds.length c', .int .i64 rk, .int .i64 re] 73))
          go_upto_region 9 with fail
          generalize wr.alloc (.cells #[.int .i64 nr, .slice A' conds.length c', .int .i64 rk, .int .i64 re] 73) = W1 at *
          obtain ⟨g0, g1, g2, g3⟩ := HC4.out W1 (Below.refl _ _)
          have HB4 := Lib.hid (HAB4.out W1 (Below.refl _ _))
          have HB01 : Hid (Below W0.heap.size W0 W1) := HB.out.trans (HB4.out.mono HB.out.size)
          obtain ⟨_, s0, s1, s2, t0, t1, t2, t3, t4, t5, _⟩ := HIN.out W1 HB01.out
          have HFC2 := Lib.hid (HFC1.out W1 A' c' (CondsSl.mono (CondsSl.below HCS.out HB4.out (Nat.le_refl _)) HB4.out.size))
          clear f0 f1 f2 f3 HAB4 HFC1 HFC HCS HPK HR
          generalize deepN conds conds.length = DP at *
          by_cases hfit : FB ⟨nr, conds, rk, re⟩ = true
          · by_cases hdp : DP = true
            · subst hdp
              have HJ1 : Hid (J = (4, 0, (i : Int))) := HP1.out.trans (by rw [if_pos hfit, if_pos rfl])
              have HFC3 : Hid (Calls Tryz.prog 35 #[.agg #[.int .i64 nr, .slice A' conds.length c', .int .i64 rk, .int .i64 re], .agg #[.int .u32 3221225534, .int .u32 cnr, .int .u64 a0, .int .u64 a1, .int .u64 a2, .int .u64 a3]] W1 fun e w' => e = .returned (.tuple #[.bool true, .bool true]) ∧ Below W1.heap.size W1 w') := HFC2.out.mono fun _ _ ⟨h1, h2⟩ => ⟨by rw [h1, hfit]; rfl, h2⟩
              clear HFC2 HP1 hfit HP
              go_upto_region 10 with (go_at_call 35; refine cargs (by simp [Act.eval]) (HFC3.out.mono ?_); rintro e w2 ⟨rfl, hb2⟩; have HB2 := Lib.hid hb2; clear hb2)
              have HB02 : Hid (Below W0.heap.size W0 w2) := HB01.out.trans (HB2.out.mono HB01.out.size)
              have hin := HIN.out w2 HB02.out
              obtain ⟨r0, r1, r2, fz0, fz1, fz2⟩ := hin.resf
              obtain ⟨y0, y1, y2⟩ := store3 hin.res (.int .i64 4) (.int .i64 0) (.int .i64 (i : Int))
              have HBS := Lib.hid (below_store3 hin.bel (show w.heap.size ≤ w.heap.size + 1 + 1 by omega) (.int .i64 4) (.int .i64 0) (.int .i64 (i : Int)))
              clear hin
              go_wp2_with fail
              try simp only [Exit.inBlock, Exit.then]
              refine bodyPost_ret (by simp [results, Tryz.results15, go_sem, y0, y1, y2]; try rfl) rfl ?_
              exact ⟨by rw [HJV.out, HJ1.out]; rfl, HBS.out⟩
            · have hdf : DP = false := by simpa using hdp
              subst hdf
              have HJ1 : Hid (J = (rk, re, 0)) := HP1.out.trans (by rw [if_pos hfit, if_neg (by simp)])
              have HFC3 : Hid (Calls Tryz.prog 35 #[.agg #[.int .i64 nr, .slice A' conds.length c', .int .i64 rk, .int .i64 re], .agg #[.int .u32 3221225534, .int .u32 cnr, .int .u64 a0, .int .u64 a1, .int .u64 a2, .int .u64 a3]] W1 fun e w' => e = .returned (.tuple #[.bool true, .bool false]) ∧ Below W1.heap.size W1 w') := HFC2.out.mono fun _ _ ⟨h1, h2⟩ => ⟨by rw [h1, hfit]; rfl, h2⟩
              clear HFC2 HP1 hfit HP hdp
              go_upto_region 10 with (go_at_call 35; refine cargs (by simp [Act.eval]) (HFC3.out.mono ?_); rintro e w2 ⟨rfl, hb2⟩; have HB2 := Lib.hid hb2; clear hb2)
              have HB02 : Hid (Below W0.heap.size W0 w2) := HB01.out.trans (HB2.out.mono HB01.out.size)
              have hin := HIN.out w2 HB02.out
              obtain ⟨_, _, g2', g3'⟩ := HC4.out w2 HB2.out
              obtain ⟨r0, r1, r2, fz0, fz1, fz2⟩ := hin.resf
              obtain ⟨y0, y1, y2⟩ := store3 hin.res (.int .i64 rk) (.int .i64 re) (.int .i64 0)
              have HBS := Lib.hid (below_store3 hin.bel (show w.heap.size ≤ w.heap.size + 1 + 1 by omega) (.int .i64 rk) (.int .i64 re) (.int .i64 0))
              clear hin
              go_wp2_with fail
              try simp only [Exit.inBlock, Exit.then]
              refine bodyPost_ret (by simp [results, Tryz.results15, go_sem, y0, y1, y2]; try rfl) rfl ?_
              exact ⟨by rw [HJV.out, HJ1.out]; rfl, HBS.out⟩
          · have hff : FB ⟨nr, conds, rk, re⟩ = false := by simpa using hfit
            have HJ1 : Hid (J = PJ (i + 1) (rules.drop (i + 1))) := HP1.out.trans (by rw [hff]; rfl)
            have HFC3 : Hid (Calls Tryz.prog 35 #[.agg #[.int .i64 nr, .slice A' conds.length c', .int .i64 rk, .int .i64 re], .agg #[.int .u32 3221225534, .int .u32 cnr, .int .u64 a0, .int .u64 a1, .int .u64 a2, .int .u64 a3]] W1 fun e w' => e = .returned (.tuple #[.bool false, .bool false]) ∧ Below W1.heap.size W1 w') := HFC2.out.mono fun _ _ ⟨h1, h2⟩ => ⟨by rw [h1, hff]; rfl, h2⟩
            clear HFC2 HP1 hfit HP hff
            go_upto_region 10 with (go_at_call 35; refine cargs (by simp [Act.eval]) (HFC3.out.mono ?_); rintro e w2 ⟨rfl, hb2⟩; have HB2 := Lib.hid hb2; clear hb2)
            have HB02 : Hid (Below W0.heap.size W0 w2) := HB01.out.trans (HB2.out.mono HB01.out.size)
            go_wp2_with fail
            go_roundw
            case rel => exact ⟨i + 1, by omega, by go_num, HB02, HJ1⟩
            case measure => simp [intOf]; omega
        · obtain rfl : i = rules.length := by omega
          have hin := HIN.out wr HB.out
          obtain ⟨u0, u1, u2⟩ : wr.cell? ⟨w.heap.size, 0, none⟩ = some (.slice A rules.length cp) ∧ wr.cell? ⟨w.heap.size, 1, none⟩ = some (.int .i64 pk) ∧ wr.cell? ⟨w.heap.size, 2, none⟩ = some (.int .i64 pe) := ⟨hin.p0, hin.p1, hin.p2⟩
          obtain ⟨r0, r1, r2, fz0, fz1, fz2⟩ := hin.resf
          obtain ⟨y0, y1, y2⟩ := store3 hin.res (.int .i64 pk) (.int .i64 pe) (.int .i64 0)
          have HBS := Lib.hid (below_store3 hin.bel (show w.heap.size ≤ w.heap.size + 1 + 1 by omega) (.int .i64 pk) (.int .i64 pe) (.int .i64 0))
          have HJ1 : Hid (J = (pk, pe, 0)) := HP.out.trans HPE.out
          clear hin HP
          go_wp2_with fail
          try simp only [Exit.inBlock, Exit.then]
          refine bodyPost_ret (by simp [results, Tryz.results15, go_sem, y0, y1, y2]; try rfl) rfl ?_
          exact ⟨by rw [HJV.out, HJ1.out]; rfl, HBS.out⟩
    · have HJ1 : Hid (J = (3, 0, 0)) := HJA.out.trans (if_neg ha)
      clear HJA
      go_upto_region 4 with (go_at_call 17; refine cargs (by simp [Act.eval]) (HC1.out.mono ?_); rintro e w1 ⟨rfl, hb1⟩; have HB1 := Lib.hid hb1; clear hb1)
      have hin := HIN.out w1 HB1.out
      have q0 := hin.c0
      obtain ⟨r0, r1, r2, fz0, fz1, fz2⟩ := hin.resf
      obtain ⟨y0, y1, y2⟩ := store3 hin.res (.int .i64 3) (.int .i64 0) (.int .i64 0)
      have HBS := Lib.hid (below_store3 hin.bel (show w.heap.size ≤ w.heap.size + 1 + 1 by omega) (.int .i64 3) (.int .i64 0) (.int .i64 0))
      clear hin
      go_wp2_with fail
      try simp only [Exit.inBlock, Exit.then]
      refine bodyPost_ret (by simp [results, Tryz.results15, go_sem, y0, y1, y2]; try rfl) rfl ?_
      exact ⟨by rw [HJV.out, HJ1.out]; rfl, HBS.out⟩
  · have HJV : Hid (judgeV F J = .tuple #[verV 0 0 0, .iface 63 (.int .i64 F)]) := by show _ = _; unfold judgeV; rw [if_neg hF, errV_pos hF]
    have HC1 : Hid (Calls Tryz.prog 17 #[.agg #[.slice A rules.length cp, .int .i64 pk, .int .i64 pe]] W0 fun e w' => e = .returned (.iface 63 (.int .i64 F)) ∧ Below W0.heap.size W0 w') := HC0.out.mono fun _ _ ⟨h1, h2⟩ => ⟨by rw [h1, errV_pos hF], h2⟩
    clear HC0 HZ hF
    go_upto_region 2 with (go_at_call 17; refine cargs (by simp [Act.eval]) (HC1.out.mono ?_); rintro e w1 ⟨rfl, hb1⟩; have HB1 := Lib.hid hb1; clear hb1)
    have hin := HIN.out w1 HB1.out
    obtain ⟨r0, r1, r2, fz0, fz1, fz2⟩ := hin.resf
    obtain ⟨y0, y1, y2⟩ := store3 hin.res (.int .i64 0) (.int .i64 0) (.int .i64 0)
    have HBS := Lib.hid (below_store3 hin.bel (show w.heap.size ≤ w.heap.size + 1 + 1 by omega) (.int .i64 0) (.int .i64 0) (.int .i64 0))
    clear hin
    go_wp2_with fail
    try simp only [Exit.inBlock, Exit.then]
    refine bodyPost_ret (by simp [results, Tryz.results15, go_sem, y0, y1, y2]; try rfl) rfl ?_
    exact ⟨by rw [HJV.out]; rfl, HBS.out⟩
end Go.Proofs.YtmgngapkgcofnaaGreatDoor
