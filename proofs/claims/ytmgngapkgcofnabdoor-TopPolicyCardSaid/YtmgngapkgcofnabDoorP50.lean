/- SamePolicy of one policy, laid twice: true. -/
import Derived.Test.YtmgngapkgcofnabDoorP17
import Derived.Test.YtmgngapkgcofnabDoorP21
import Derived.Deep.QuietTactic
import Derived.BigQuiet
import Derived.PlainAid
namespace Go.Proofs.YtmgngapkgcofnabDoor
open Go.RowKit Go.PlainAid

theorem two_boxes (w : World) (a b c d e f : Value) (t : TypeId) (W : World) (h : Below ((w.alloc (.cells #[a, b, c] t)).alloc (.cells #[d, e, f] t)).heap.size ((w.alloc (.cells #[a, b, c] t)).alloc (.cells #[d, e, f] t)) W) :
    (W.cell? ⟨w.heap.size, 0, none⟩ = some a ∧ W.cell? ⟨w.heap.size, 1, none⟩ = some b ∧ W.cell? ⟨w.heap.size, 2, none⟩ = some c) ∧ (W.cell? ⟨w.heap.size + 1, 0, none⟩ = some d ∧ W.cell? ⟨w.heap.size + 1, 1, none⟩ = some e ∧ W.cell? ⟨w.heap.size + 1, 2, none⟩ = some f) ∧ Below w.heap.size w W := by
  have h1 := (h.block w.heap.size (by simp; omega)).trans ((heap_alloc_old (w.alloc (.cells #[a, b, c] t)) (.cells #[d, e, f] t) (by simp)).trans (heap_alloc_new w (.cells #[a, b, c] t)))
  have h2 := (h.block (w.alloc (.cells #[a, b, c] t)).heap.size (by simp)).trans (heap_alloc_new (w.alloc (.cells #[a, b, c] t)) (.cells #[d, e, f] t))
  have hs : (w.alloc (.cells #[a, b, c] t)).heap.size = w.heap.size + 1 := by simp
  rw [hs] at h2
  exact ⟨⟨(cell_of_row _ _ _ _ _ _ h1).trans rfl, (cell_of_row _ _ _ _ _ _ h1).trans rfl, (cell_of_row _ _ _ _ _ _ h1).trans rfl⟩, ⟨(cell_of_row _ _ _ _ _ _ h2).trans rfl, (cell_of_row _ _ _ _ _ _ h2).trans rfl, (cell_of_row _ _ _ _ _ _ h2).trans rfl⟩, (((Below.refl _ _).alloc (Nat.le_refl _) _).alloc (by simp) _).trans (h.mono (by simp; omega))⟩
theorem two_rows (w : World) (a b c d e f g h : Value) (t : TypeId) (W : World) (hb : Below ((w.alloc (.cells #[a, b, c, d] t)).alloc (.cells #[e, f, g, h] t)).heap.size ((w.alloc (.cells #[a, b, c, d] t)).alloc (.cells #[e, f, g, h] t)) W) :
    W.cell? ⟨w.heap.size, 1, none⟩ = some b ∧ W.cell? ⟨w.heap.size + 1, 1, none⟩ = some f ∧ Below w.heap.size w W ∧ W.cell? ⟨w.heap.size, 0, none⟩ = some a ∧ W.cell? ⟨w.heap.size, 2, none⟩ = some c ∧ W.cell? ⟨w.heap.size, 3, none⟩ = some d ∧ W.cell? ⟨w.heap.size + 1, 0, none⟩ = some e ∧ W.cell? ⟨w.heap.size + 1, 2, none⟩ = some g ∧ W.cell? ⟨w.heap.size + 1, 3, none⟩ = some h := by
  have h1 := (hb.block w.heap.size (by simp; omega)).trans ((heap_alloc_old (w.alloc (.cells #[a, b, c, d] t)) (.cells #[e, f, g, h] t) (by simp)).trans (heap_alloc_new w (.cells #[a, b, c, d] t)))
  have h2 := (hb.block (w.alloc (.cells #[a, b, c, d] t)).heap.size (by simp)).trans (heap_alloc_new (w.alloc (.cells #[a, b, c, d] t)) (.cells #[e, f, g, h] t))
  have hs : (w.alloc (.cells #[a, b, c, d] t)).heap.size = w.heap.size + 1 := by simp
  rw [hs] at h2
  exact ⟨(cell_of_row _ _ _ _ _ _ h1).trans rfl, (cell_of_row _ _ _ _ _ _ h2).trans rfl, (((Below.refl _ _).alloc (Nat.le_refl _) _).alloc (by simp) _).trans (hb.mono (by simp; omega)), (cell_of_row _ _ _ _ _ _ h1).trans rfl, (cell_of_row _ _ _ _ _ _ h1).trans rfl, (cell_of_row _ _ _ _ _ _ h1).trans rfl, (cell_of_row _ _ _ _ _ _ h2).trans rfl, (cell_of_row _ _ _ _ _ _ h2).trans rfl, (cell_of_row _ _ _ _ _ _ h2).trans rfl⟩

set_option linter.unusedSimpArgs false in
set_option maxRecDepth 100000 in
set_option maxHeartbeats 8000000 in
theorem samePol_any (v1 v2 : Value) (p : PolD) (w : World) (h1 : PolAt w w.heap.size v1 p) (h2 : PolAt w w.heap.size v2 p) (hl : p.rules.length ≤ 100000) (hcl : ∀ r ∈ p.rules, r.conds.length ≤ 100000) :
    Calls Tryd.prog 18 #[v1, v2] w fun e w' => e = .returned (.bool true) ∧ Below w.heap.size w w' := by
  obtain ⟨A1, q1, rfl, B1, d1, e1, hr1⟩ := h1
  obtain ⟨A2, q2, rfl, B2, d2, e2, hr2⟩ := h2
  simp only [Value.slice.injEq, true_and] at e1 e2
  obtain ⟨rfl, rfl⟩ := e1
  obtain ⟨rfl, rfl⟩ := e2
  obtain ⟨rules, pk, pe⟩ := p
  simp only at hr1 hr2 hl hcl ⊢
  have HR1 := Lib.hid hr1
  have HR2 := Lib.hid hr2
  have HCL := Lib.hid hcl
  have HW := Lib.hid (two_boxes w (.slice A1 rules.length q1) (.int .i64 pk) (.int .i64 pe) (.slice A2 rules.length q2) (.int .i64 pk) (.int .i64 pe) 40)
  clear hr1 hr2 hcl
  go_enter Tryd.func18, Tryd.ntmps18
  go_upto_region 1 with fail
  have HB0 : Hid (Below ((w.alloc (.cells #[.slice A1 rules.length q1, .int .i64 pk, .int .i64 pe] 40)).alloc (.cells #[.slice A2 rules.length q2, .int .i64 pk, .int .i64 pe] 40)).heap.size ((w.alloc (.cells #[.slice A1 rules.length q1, .int .i64 pk, .int .i64 pe] 40)).alloc (.cells #[.slice A2 rules.length q2, .int .i64 pk, .int .i64 pe] 40)) ((w.alloc (.cells #[.slice A1 rules.length q1, .int .i64 pk, .int .i64 pe] 40)).alloc (.cells #[.slice A2 rules.length q2, .int .i64 pk, .int .i64 pe] 40))) := Below.refl _ _
  generalize (w.alloc (.cells #[.slice A1 rules.length q1, .int .i64 pk, .int .i64 pe] 40)).alloc (.cells #[.slice A2 rules.length q2, .int .i64 pk, .int .i64 pe] 40) = W0 at *
  obtain ⟨⟨a0, a1, a2⟩, ⟨b0, b1, b2⟩, _⟩ := HW.out W0 HB0.out
  go_wp2_with fail
  clear a0 a1 a2 b0 b1 b2
  go_loopw [5] (fun iv wr => ∃ i : Nat, i ≤ rules.length ∧ iv = .int .i64 i ∧ Hid (Below W0.heap.size W0 wr)) (fun iv _ => rules.length - (intOf iv).toNat)
  case atStart => exact ⟨0, Nat.zero_le _, rfl, HB0⟩
  case round =>
    clear HB0
    obtain ⟨i, hi, rfl, HB⟩ := hrel
    obtain ⟨⟨a0, a1, a2⟩, ⟨b0, b1, b2⟩, hbw⟩ := HW.out wr HB.out
    by_cases hlt : i < rules.length
    · have z1 : (i : Int) < (rules.length : Int) := by omega
      have z2 : (0 : Int) ≤ (i : Int) := by omega
      have hm : rules[i] ∈ rules := List.getElem_mem hlt
      have hne : ¬ rules = [] := fun e => by rw [e] at hlt; simp at hlt
      obtain ⟨g1, o1, rfl, hg1, hw1⟩ := HR1.out.resolve_left hne
      obtain ⟨g2, o2, rfl, hg2, hw2⟩ := HR2.out.resolve_left hne
      obtain ⟨C1, k1, hc1, hx1⟩ := hw1 i _ (List.getElem?_eq_getElem hlt)
      obtain ⟨C2, k2, hc2, hx2⟩ := hw2 i _ (List.getElem?_eq_getElem hlt)
      have hx1 := rangeAt_below hx1 hbw hg1
      have hx2 := rangeAt_below hx2 hbw hg2
      have hcll := HCL.out _ hm
      have HC1 := Lib.hid (fun W (hb : Below w.heap.size w W) => hc1.below hb (Nat.le_refl _))
      have HC2 := Lib.hid (fun W (hb : Below w.heap.size w W) => hc2.below hb (Nat.le_refl _))
      have HBW := Lib.hid hbw
      clear hw1 hw2 hc1 hc2 hbw hm hne
      generalize rules[i] = r at *
      obtain ⟨nr, conds, rk, re⟩ := r
      simp only at hx1 hx2 hcll HC1 HC2
      have f0 : wr.cell? ⟨g1, o1 + i * 4, none⟩ = some (.int .i64 nr) := hx1 0 _ rfl
      have f1 := hx1 1 _ rfl
      have f2 := hx1 2 _ rfl
      have f3 := hx1 3 _ rfl
      have g0 : wr.cell? ⟨g2, o2 + i * 4, none⟩ = some (.int .i64 nr) := hx2 0 _ rfl
      have g1' := hx2 1 _ rfl
      have g2' := hx2 2 _ rfl
      have g3 := hx2 3 _ rfl
      have j0 : (wr.alloc (.cells #[.int .i64 nr, .slice C1 conds.length k1, .int .i64 rk, .int .i64 re] 84)).cell? ⟨w.heap.size + 1, 0, none⟩ = some (.slice (some ⟨g2, o2, none⟩) rules.length q2) := by
        have hlt := World.block_lt_of_cell? wr ⟨w.heap.size + 1, 0, none⟩ b0
        exact ((Below.refl wr.heap.size wr).alloc (Nat.le_refl _) (.cells #[.int .i64 nr, .slice C1 conds.length k1, .int .i64 rk, .int .i64 re] 84)).cell (p := ⟨w.heap.size + 1, 0, none⟩) hlt |>.trans b0
      have HOL : Hid (∀ (o : Obj) (b x : Nat) (u : Value), wr.cell? ⟨b, x, none⟩ = some u → (wr.alloc o).cell? ⟨b, x, none⟩ = some u) := fun o b x u hu => (((Below.refl wr.heap.size wr).alloc (Nat.le_refl _) o).cell (p := ⟨b, x, none⟩) (World.block_lt_of_cell? wr ⟨b, x, none⟩ hu)).trans hu
      have g0 := HOL.out (.cells #[.int .i64 nr, .slice C1 conds.length k1, .int .i64 rk, .int .i64 re] 84) _ _ _ g0
      have g1' := HOL.out (.cells #[.int .i64 nr, .slice C1 conds.length k1, .int .i64 rk, .int .i64 re] 84) _ _ _ g1'
      have g2' := HOL.out (.cells #[.int .i64 nr, .slice C1 conds.length k1, .int .i64 rk, .int .i64 re] 84) _ _ _ g2'
      have g3 := HOL.out (.cells #[.int .i64 nr, .slice C1 conds.length k1, .int .i64 rk, .int .i64 re] 84) _ _ _ g3
      have HT := Lib.hid (two_rows wr (.int .i64 nr) (.slice C1 conds.length k1) (.int .i64 rk) (.int .i64 re) (.int .i64 nr) (.slice C2 conds.length k2) (.int .i64 rk) (.int .i64 re) 84)
      clear hx1 hx2 HOL
      go_upto_region 8 with fail
      have HB1 : Hid (Below ((wr.alloc (.cells #[.int .i64 nr, .slice C1 conds.length k1, .int .i64 rk, .int .i64 re] 84)).alloc (.cells #[.int .i64 nr, .slice C2 conds.length k2, .int .i64 rk, .int .i64 re] 84)).heap.size ((wr.alloc (.cells #[.int .i64 nr, .slice C1 conds.length k1, .int .i64 rk, .int .i64 re] 84)).alloc (.cells #[.int .i64 nr, .slice C2 conds.length k2, .int .i64 rk, .int .i64 re] 84)) ((wr.alloc (.cells #[.int .i64 nr, .slice C1 conds.length k1, .int .i64 rk, .int .i64 re] 84)).alloc (.cells #[.int .i64 nr, .slice C2 conds.length k2, .int .i64 rk, .int .i64 re] 84))) := Below.refl _ _
      clear f0 f1 f2 f3 g0 g1' g2' g3 j0 a0 a1 a2 b0 b1 b2
      generalize (wr.alloc (.cells #[.int .i64 nr, .slice C1 conds.length k1, .int .i64 rk, .int .i64 re] 84)).alloc (.cells #[.int .i64 nr, .slice C2 conds.length k2, .int .i64 rk, .int .i64 re] 84) = W1 at *
      obtain ⟨t1, t2, _, t3, t4, t5, t6, t7, t8⟩ := HT.out W1 HB1.out
      go_upto_region 10 with fail
      clear t1 t2 t3 t4 t5 t6 t7 t8
      obtain ⟨wo, hwo⟩ : ∃ wo : World, wo = wr := ⟨_, rfl⟩
      rw [← hwo] at HB HBW HT ⊢
      clear hwo
      go_wp2_with fail
      go_loopw [8] (fun kv wr => ∃ k : Nat, k ≤ conds.length ∧ kv = .int .i64 k ∧ Hid (Below W1.heap.size W1 wr)) (fun kv _ => conds.length - (intOf kv).toNat)
      case atStart => exact ⟨0, Nat.zero_le _, rfl, HB1⟩
      case round =>
        clear HB1
        obtain ⟨k, hk, rfl, HB2⟩ := hrel
        obtain ⟨t1, t2, hbo, _⟩ := HT.out wr HB2.out
        have HBO := Lib.hid hbo
        clear hbo
        by_cases hkl : k < conds.length
        · have y1 : (k : Int) < (conds.length : Int) := by omega
          have y2 : (0 : Int) ≤ (k : Int) := by omega
          have hcn : ¬ conds = [] := fun e => by rw [e] at hkl; simp at hkl
          have hBw : Below w.heap.size w wr := HBW.out.trans (HBO.out.mono HBW.out.size)
          obtain ⟨_, Ca, ka, e1, hq1⟩ := HC1.out wr hBw
          obtain ⟨_, Cb, kb, e2, hq2⟩ := HC2.out wr hBw
          simp only [Value.slice.injEq, true_and] at e1 e2
          obtain ⟨rfl, rfl⟩ := e1
          obtain ⟨rfl, rfl⟩ := e2
          obtain ⟨u1, v1, rfl, _, hy1⟩ := hq1.resolve_left hcn
          obtain ⟨u2, v2, rfl, _, hy2⟩ := hq2.resolve_left hcn
          have hy1 := hy1 k _ (List.getElem?_eq_getElem hkl)
          have hy2 := hy2 k _ (List.getElem?_eq_getElem hkl)
          generalize conds[k] = x at *
          have m0 : wr.cell? ⟨u1, v1 + k * 9, none⟩ = some (.int .i64 x.arg) := hy1 0 _ rfl
          have m1 := hy1 1 _ rfl
          have m2 := hy1 2 _ rfl
          have m3 := hy1 3 _ rfl
          have m4 := hy1 4 _ rfl
          have m5 := hy1 5 _ rfl
          have m6 := hy1 6 _ rfl
          have m7 := hy1 7 _ rfl
          have m8 := hy1 8 _ rfl
          have n0 : wr.cell? ⟨u2, v2 + k * 9, none⟩ = some (.int .i64 x.arg) := hy2 0 _ rfl
          have n1 := hy2 1 _ rfl
          have n2 := hy2 2 _ rfl
          have n3 := hy2 3 _ rfl
          have n4 := hy2 4 _ rfl
          have n5 := hy2 5 _ rfl
          have n6 := hy2 6 _ rfl
          have n7 := hy2 7 _ rfl
          have n8 := hy2 8 _ rfl
          have HDN : Hid (∀ m, Below W1.heap.size W1 (wr.drewN m)) := fun m => HB2.out.trans ⟨(Below.refl W1.heap.size wr).os, (Below.refl W1.heap.size wr).tape, (Below.refl W1.heap.size wr).output, Nat.le_refl _, fun _ _ => rfl⟩
          clear hy1 hy2 hq1 hq2 hBw hcn HC1 HC2
          go_upto_region 13 with fail
          go_quiet (fail)
          go_wp2_with fail
          go_roundw
          case rel => exact ⟨k + 1, by omega, by go_num, HDN.out _⟩
          case measure => simp [intOf]; omega
        · obtain rfl : k = conds.length := by omega
          go_wp2_with fail
          go_roundw
          case rel => exact ⟨i + 1, by omega, by go_num, HB.out.trans (HBO.out.mono HB.out.size)⟩
          case measure => simp [intOf]; omega
    · obtain rfl : i = rules.length := by omega
      have HBX := Lib.hid hbw
      clear hbw
      go_wp2_with fail
      go_ret
      exact ⟨rfl, HBX.out⟩
end Go.Proofs.YtmgngapkgcofnabDoor
