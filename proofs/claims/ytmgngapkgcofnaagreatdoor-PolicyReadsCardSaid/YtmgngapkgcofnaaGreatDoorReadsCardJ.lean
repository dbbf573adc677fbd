/- The reference's policy of a text: the walk. Printed by genpolicyrw.py. -/
import Derived.Test.YtmgngapkgcofnaaGreatDoorM48
import Derived.Test.YtmgngapkgcofnaaGreatDoorM49
import Derived.Test.YtmgngapkgcofnaaGreatDoorM51
import Derived.Test.YtmgngapkgcofnaaGreatDoorM52
import Derived.Test.YtmgngapkgcofnaaGreatDoorM50
import Derived.Test.YtmgngapkgcofnaaGreatDoorCards
import Derived.Test.YtmgngapkgcofnaaGreatDoorTie
import Derived.WalkKit
import Derived.ProofKit
import Derived.OpenShut
import Derived.Deep.DeepHandedRow
import Derived.Deep.DeepLaidRun
import Derived.Lib.LaidTab
import Derived.Stop.LaidErr
namespace Go.Proofs.YtmgngapkgcofnaaGreatDoor
open Go.RowKit Go.PlainAid

theorem zero3_set {W : World} {b : Nat} (h : W.heap[b]? = some (.cells zero3 27 (0, 0))) : (((W.setCell ⟨b, 0, none⟩ (.slice none 0 0)).setCell ⟨b, 1, none⟩ (.int .i64 0)).setCell ⟨b, 2, none⟩ (.int .i64 0)).heap[b]? = some (.cells #[.slice none 0 0, .int .i64 0, .int .i64 0] 27 (0, 0)) := by
  have e1 : (W.setCell ⟨b, 0, none⟩ (.slice none 0 0)).heap[b]? = some (.cells #[.slice none 0 0, .int .i64 0, .int .i64 0] 27 (0, 0)) := by
    have := heap_setCell_same W b 0 _ _ (.slice none 0 0) h; simpa [zero3] using this
  have e2 : ((W.setCell ⟨b, 0, none⟩ (.slice none 0 0)).setCell ⟨b, 1, none⟩ (.int .i64 0)).heap[b]? = some (.cells #[.slice none 0 0, .int .i64 0, .int .i64 0] 27 (0, 0)) := by
    have := heap_setCell_same _ b 1 _ _ (.int .i64 0) e1; simpa using this
  have := heap_setCell_same _ b 2 _ _ (.int .i64 0) e2; simpa using this

set_option linter.unusedSimpArgs false in
set_option maxRecDepth 100000 in
set_option maxHeartbeats 8000000 in
theorem policyOf_any (s : ByteArray) (w : World) (hs : s.size ≤ 100000) :
    Calls Tryz.prog 7 #[.string s] w (PolicyOfA s w) := by
  have HNO0 : Hid (∀ (W : World) (n : Int), Below w.heap.size w W → W.heap[w.heap.size]? = some (.cells zero3 27 (0, 0)) → (((W.setCell ⟨w.heap.size, 0, none⟩ (.slice none 0 0)).setCell ⟨w.heap.size, 1, none⟩ (.int .i64 0)).setCell ⟨w.heap.size, 2, none⟩ (.int .i64 0)).heap[w.heap.size]? = some (.cells #[.slice none 0 0, .int .i64 0, .int .i64 0] 27 (0, 0)) ∧ Below w.heap.size w (((W.setCell ⟨w.heap.size, 0, none⟩ (.slice none 0 0)).setCell ⟨w.heap.size, 1, none⟩ (.int .i64 0)).setCell ⟨w.heap.size, 2, none⟩ (.int .i64 0))) := fun W n hb hr =>
    ⟨zero3_set hr, ((hb.setCell (p := ⟨w.heap.size, 0, none⟩) (Nat.le_refl _) _).setCell (p := ⟨w.heap.size, 1, none⟩) (Nat.le_refl _) _).setCell (p := ⟨w.heap.size, 2, none⟩) (Nat.le_refl _) _⟩
  have hb0 : Below w.heap.size w (w.alloc (.cells #[.slice none 0 0, .int .i64 0, .int .i64 0] 27)) := (Below.refl _ _).alloc (Nat.le_refl _) _
  have hz0 : (w.alloc (.cells #[.slice none 0 0, .int .i64 0, .int .i64 0] 27)).heap[w.heap.size]? = some (.cells zero3 27 (0, 0)) := heap_alloc_new _ _
  by_cases h8 : 8000 < s.size
  · have t1 : decide (8000 < (s.size : Int)) = true := by simp; omega
    have t2 : 8000 < (s.size : Int) := by omega
    obtain ⟨y0, y1, y2, rz0, rz1, rz2⟩ := prow3 (show (w.alloc (.cells #[.slice none 0 0, .int .i64 0, .int .i64 0] 27)).heap[w.heap.size]? = some (.cells #[.slice none 0 0, .int .i64 0, .int .i64 0] 27 (0, 0)) from hz0)
    have HF : Hid (PolicyOfA s w (.returned (.tuple #[.agg #[.slice none 0 0, .int .i64 0, .int .i64 0], .int .i64 2])) (w.alloc (.cells #[.slice none 0 0, .int .i64 0, .int .i64 0] 27))) := ⟨hb0, .inl ⟨h8, rfl⟩⟩
    clear HNO0 hb0 hz0 h8
    go_enter Tryz.func7, Tryz.ntmps7
    go_wp2_with fail
    try simp only [Exit.inBlock, Exit.then]
    refine bodyPost_ret (by simp [results, Tryz.results7, go_sem, y0, y1, y2]; try rfl) rfl ?_
    exact HF.out
  · have t1 : decide (8000 < (s.size : Int)) = false := by simp; omega
    have t2 : ¬ 8000 < (s.size : Int) := by omega
    have hs8 : s.size ≤ 8000 := by omega
    have HCT := Lib.hid (fun W => cut_any s 10 W (by omega))
    obtain ⟨L, hL⟩ : ∃ L, L = cutW 10 (bL s) := ⟨_, rfl⟩
    have HNO : Hid (∀ {W : World}, Below w.heap.size w W ∧ W.heap[w.heap.size]? = some (.cells zero3 27 (0, 0)) → PolNo L → (((W.setCell ⟨w.heap.size, 0, none⟩ (.slice none 0 0)).setCell ⟨w.heap.size, 1, none⟩ (.int .i64 0)).setCell ⟨w.heap.size, 2, none⟩ (.int .i64 0)).heap[w.heap.size]? = some (.cells #[.slice none 0 0, .int .i64 0, .int .i64 0] 27 (0, 0)) ∧ PolicyOfA s w (.returned (.tuple #[.agg #[.slice none 0 0, .int .i64 0, .int .i64 0], .int .i64 4])) (((W.setCell ⟨w.heap.size, 0, none⟩ (.slice none 0 0)).setCell ⟨w.heap.size, 1, none⟩ (.int .i64 0)).setCell ⟨w.heap.size, 2, none⟩ (.int .i64 0))) := fun {W} hb hn => by
      obtain ⟨h1, h2⟩ := HNO0.out W 0 hb.1 hb.2
      exact ⟨h1, h2, .inr (.inl ⟨hs8, readP_none hL hn, rfl⟩)⟩
    have HYES : Hid (∀ (W : World) (p : PolD) (v : Value), Below w.heap.size w W → ReadP (bL s) (some p) → PolAt W W.heap.size v p → PolicyOfA s w (.returned (.tuple #[v, .int .i64 0])) W) := fun W p v h1 h2 h3 => ⟨h1, .inr (.inr ⟨hs8, p, v, h2, rfl, h3⟩)⟩
    clear HNO0 h8
    go_enter Tryz.func7, Tryz.ntmps7
    go_upto_region 4 with (go_at_call 25; refine cargs (by simp [Act.eval]) ((HCT.out _).mono ?_); rintro e w1 ⟨ls, v, rfl, hls, hown, hb1⟩)
    obtain ⟨hne, hwl, hwz⟩ := words_size hls
    obtain ⟨g, S, c, rfl, hBg, hgS, hwin⟩ := win_own hown hne
    have HLS := Lib.hid (hls.trans hL.symm)
    have HB1 : Hid (Below w.heap.size w w1 ∧ w1.heap[w.heap.size]? = some (.cells zero3 27 (0, 0))) := ⟨hb0.trans (hb1.mono hb0.size), (hb1.block _ (by simp)).trans hz0⟩
    have hgw : w.heap.size < g := by simp at hBg; omega
    have HWZ := Lib.hid hwz
    obtain ⟨n, hn⟩ : ∃ n, ls.length = n + 1 := ⟨ls.length - 1, by have := List.length_pos_iff.2 hne; omega⟩
    have HLL : Hid (L.length = n + 1) := by show _ = _; rw [← HLS.out, List.length_map, hn]
    have HCL : Hid (∀ W : World, W.heap[g]? = some (.cells S 9 (0, 0)) → ∀ (i : Nat) x, ls[i]? = some x → W.cell? ⟨g, i, none⟩ = some (.string x)) := fun W hW i x hx => by
      obtain ⟨A0, c0, h1, _, h3⟩ := hwin
      simp only [Value.slice.injEq, true_and] at h1
      obtain ⟨rfl, rfl⟩ := h1
      obtain ⟨o, ho, hh⟩ := h3.resolve_left hne
      simp only [Option.some.injEq, Addr.mk.injEq, true_and, and_true] at ho
      subst ho
      have := hh i x hx
      rw [Nat.zero_add] at this
      exact (cell_of_row _ _ _ _ _ _ hW).trans this
    have HLI : Hid (∀ (i : Nat) x, ls[i]? = some x → L[i]? = some (bL x)) := fun i x hx => by rw [← HLS.out, List.getElem?_map, hx]; rfl
    have HGS := Lib.hid hgS
    have e1 : wrap64 ((ls.length : Int) - 1) = (n : Int) := by rw [hn]; exact (IntWalk.wrap64_in _ (by omega)).trans (by omega)
    have hn8 : n ≤ 8001 := by omega
    obtain ⟨LN, hLN⟩ : ∃ LN : Nat, LN = ls.length := ⟨_, rfl⟩
    have hLn : LN = n + 1 := by omega
    rw [← hLN] at e1 ⊢
    have e2 : (n : Int) < (LN : Int) := by omega
    have e3 : (0 : Int) ≤ (n : Int) := by omega
    have e4 : (0 : Int) < (LN : Int) := by omega
    have HL := Lib.hid hL
    have HPI := Lib.hid (fun k e rs (h : PolI L k e rs) (hl : n = rs.length + 1) (hz : L[n]? = some []) (hf : polF ⟨rs, k, e⟩ = 0) => h.yes hL (by rw [HLL.out]; omega) (by rw [← hl]; exact hz) hf)
    clear HCT hL hls hown hb1 hBg hgS hwin hwz hb0 hz0 hwl hne
    go_upto_region 5 with fail
    clear e1
    by_cases hn1 : n < 1
    · have u1 : decide ((n : Int) < 1) = true := by simp; omega
      have u2 : (n : Int) < 1 := by omega
      have HN : Hid (PolNo L) := polNo_short (by rw [HLL.out]; omega)
      have hzz := HNO.out HB1.out HN.out
      obtain ⟨r0, r1, r2, rz0, rz1, rz2⟩ := prow3 HB1.out.2
      obtain ⟨y0, y1, y2, _⟩ := prow3 hzz.1
      have HF := Lib.hid hzz.2
      clear hzz
      go_wp2_with fail
      try simp only [Exit.inBlock, Exit.then]
      refine bodyPost_ret (by simp [results, Tryz.results7, go_sem, y0, y1, y2]; try rfl) rfl ?_
      exact HF.out
    · have u1 : decide ((n : Int) < 1) = false := by simp; omega
      have u2 : ¬ (n : Int) < 1 := by omega
      obtain ⟨z, hz⟩ : ∃ z, ls[n]? = some z := ⟨ls[n], by simp⟩
      have cz := HCL.out _ HGS.out n z hz
      have HZ := Lib.hid (HLI.out n z hz)
      by_cases hze : z = ByteArray.empty
      · have t3 : z.toList = [] := by rw [hze, tl_eq]; rfl
        have t4 : z.toList.isEmpty = true := by rw [t3]; rfl
        have HZ0 : Hid (L[n]? = some []) := by show _ = _; rw [HZ.out, hze]; rfl
        by_cases hn13 : 13 < n
        · have u3 : decide (13 < (n : Int)) = true := by simp; omega
          have u4 : 13 < (n : Int) := by omega
          have HN : Hid (PolNo L) := polNo_long (by rw [HLL.out]; omega)
          have hzz := HNO.out HB1.out HN.out
          obtain ⟨r0, r1, r2, rz0, rz1, rz2⟩ := prow3 HB1.out.2
          obtain ⟨y0, y1, y2, _⟩ := prow3 hzz.1
          have HF := Lib.hid hzz.2
          clear hzz
          go_wp2_with fail
          try simp only [Exit.inBlock, Exit.then]
          refine bodyPost_ret (by simp [results, Tryz.results7, go_sem, y0, y1, y2]; try rfl) rfl ?_
          exact HF.out
        · have u3 : decide (13 < (n : Int)) = false := by simp; omega
          have u4 : ¬ 13 < (n : Int) := by omega
          obtain ⟨x0, hx0⟩ : ∃ x, ls[0]? = some x := ⟨ls[0], by simp⟩
          have k0 := HCL.out _ HGS.out 0 x0 hx0
          have HX0 := Lib.hid (HLI.out 0 x0 hx0)
          have hx0s := HWZ.out x0 (List.mem_of_getElem? hx0)
          have HCT := Lib.hid (fun W => cut_any x0 32 W (by omega))
          go_upto_region 7 with fail
          clear hze HZ cz hx0 t3 t4 u1 u2 u3 u4
          go_upto_region 8 with (go_at_call 25; refine cargs (by simp) ((HCT.out _).mono ?_); rintro e w2 ⟨ws, v, rfl, hws, hown, hb2⟩)
          clear k0 HCT
          obtain ⟨hne, hwl, hwz⟩ := words_size hws
          obtain ⟨g2, S2, c2, rfl, hBg2, hgS2, hwin2⟩ := win_own hown hne
          have HB2 : Hid (Below w.heap.size w w2 ∧ w2.heap[w.heap.size]? = some (.cells zero3 27 (0, 0))) := ⟨HB1.out.1.trans (hb2.mono HB1.out.1.size), (hb2.block _ (lt_of_block HB1.out.2)).trans HB1.out.2⟩
          have HGS2 : Hid (w2.heap[g]? = some (.cells S 9 (0, 0))) := (hb2.block _ (lt_of_block HGS.out)).trans HGS.out
          cases hq : ws with
          | nil => exact absurd hq hne
          | cons y T =>
            subst hq
            have HG2 := Lib.hid hgS2
            have HWS : Hid (cutW 32 (bL x0) = bL y :: T.map bL) := hws.symm.trans rfl
            have hcw : T.length + 1 ≤ c2 := by
              obtain ⟨_, _, h1, h2, _⟩ := hwin2
              simp only [Value.slice.injEq, true_and, List.length_cons] at h1 h2
              omega
            have hTl : T.length ≤ 8001 := by simp only [List.length_cons] at hwl; omega
            obtain ⟨LW, hLW⟩ : ∃ LW : Nat, LW = (y :: T).length := ⟨_, rfl⟩
            have hLW1 : LW = T.length + 1 := by rw [hLW]; rfl
            rw [← hLW] at hwin2 ⊢
            have hz2 : (0 : Int) < (LW : Int) := by omega
            have hz3 : (1 : Int) ≤ (LW : Int) := by omega
            have HLW := Lib.hid hLW1
            have HWN := Lib.hid hwin2
            clear hws hown hb2 hne hwl hwz hBg2 hgS2 hwin2 HB1 HGS hLW hLW1
            go_cut [7, 8] (fun pv nv wx => ∃ (k x : Int) (m ab : Nat), pv = .pointer (some ⟨ab, 0, none⟩) ∧ nv = .int .i64 (m : Int) ∧ Hid (ActOf (T.map bL) k x m) ∧ Hid (wx.heap[ab]? = some (.cells #[.int .i64 k, .int .i64 x] 25 (0, 0))) ∧ Hid (Below w2.heap.size w2 wx))
            case first =>
              have HWT : Hid (∀ A, (c2 ≠ 1 → A = some ⟨g2, 0 + 1, none⟩) → WIn S2 g2 (.slice A T.length (c2 - 1)) T) := fun A hA => (show WIn S2 g2 (.slice (some ⟨g2, 0, none⟩) (y :: T).length c2) (y :: T) by rw [show (y :: T).length = LW from HLW.out.symm]; exact HWN.out).drop 1 A hA
              by_cases hc1 : c2 = 1
              · subst hc1
                obtain rfl : T = [] := List.eq_nil_of_length_eq_zero (by omega)
                obtain rfl : LW = 1 := HLW.out
                have HA := Lib.hid (actionOf_any _ [] w2 (win_strs HG2.out (HWT.out (some ⟨g2, 0, none⟩) (fun h => absurd rfl h))) (by simp))
                clear HWT
                go_wp2_with (go_at_call 26; refine cargs (by simp) (HA.out.mono ?_); rintro e w3 ⟨⟨k, x, m, rfl, hact⟩, hb3⟩)
                go_meet
                exact ⟨k, x, m, w3.heap.size, rfl, rfl, hact, heap_alloc_new _ _, hb3.alloc hb3.size _⟩
              · have hsub : LW - 1 = T.length := by have := HLW.out; omega
                have HA := Lib.hid (actionOf_any _ T w2 (win_strs HG2.out (HWT.out (some ⟨g2, 1, none⟩) (fun _ => rfl))) (by omega))
                clear HWT
                go_wp2_with (go_at_call 26; refine cargs (by simp) (HA.out.mono ?_); rintro e w3 ⟨⟨k, x, m, rfl, hact⟩, hb3⟩)
                go_meet
                exact ⟨k, x, m, w3.heap.size, rfl, rfl, hact, heap_alloc_new _ _, hb3.alloc hb3.size _⟩
            case rest =>
              obtain ⟨k, x, m, ab, rfl, rfl, HAC, HAB, HB3⟩ := hcut
              have HNUM : Hid ((n ≤ 8001 ∧ 1 ≤ n ∧ n ≤ 13) ∧ s.size ≤ 8000 ∧ ls.length = n + 1 ∧ LN = n + 1 ∧ w.heap.size < g) := ⟨⟨hn8, by omega, by omega⟩, hs8, hn, hLn, hgw⟩
              have HTL := Lib.hid hTl
              clear hcw hTl hz3 hx0s e2 e3 e4 hn8 hn1 hn13 hgw hLn hLN hn hs8 hs t1 t2
              have HBC : Hid (Below w.heap.size w wc ∧ wc.heap[w.heap.size]? = some (.cells zero3 27 (0, 0))) := ⟨HB2.out.1.trans (HB3.out.mono HB2.out.1.size), (HB3.out.block _ (lt_of_block HB2.out.2)).trans HB2.out.2⟩
              have HGC : Hid (wc.heap[g]? = some (.cells S 9 (0, 0))) := (HB3.out.block _ (lt_of_block HGS2.out)).trans HGS2.out
              have q0 : wc.cell? ⟨g2, 0, none⟩ = some (.string y) := win_cell ((HB3.out.block _ (lt_of_block HG2.out)).trans HG2.out) HWN.out rfl
              have HPN : Hid (bL y ≠ wElse ∨ m = 0 ∨ m + 1 ≠ T.length + 1 → PolNo L) := fun h => polNo_head HX0.out HWS.out HAC.out (by simpa using h)
              clear HB2 HB3 HGS2 HWN HG2
              by_cases hy : y = ⟨#[101, 108, 115, 101]⟩
              · subst hy
                by_cases hm0 : m = 0
                · subst hm0
                  have HN := Lib.hid (HPN.out (.inr (.inl rfl)))
                  have hzz := HNO.out HBC.out HN.out
                  obtain ⟨r0, r1, r2, rz0, rz1, rz2⟩ := prow3 HBC.out.2
                  obtain ⟨y0, y1, y2, _⟩ := prow3 hzz.1
                  have HF := Lib.hid hzz.2
                  clear hzz
                  go_wp2_with fail
                  try simp only [Exit.inBlock, Exit.then]
                  refine bodyPost_ret (by simp [results, Tryz.results7, go_sem, y0, y1, y2]; try rfl) rfl ?_
                  exact HF.out
                · have v1 : ((m : Int) == 0) = false := beq_eq_false_iff_ne.2 (by omega)
                  have HMT : Hid (m ≤ 8001) := by
                    have hTl := HTL.out
                    show _ ≤ _
                    rcases HAC.out with ⟨h, _⟩ | ⟨_, h2, r, h3⟩
                    · omega
                    · have hl := congrArg List.length h3
                      rw [List.length_append, List.length_map] at hl
                      omega
                  have HV2 : Hid (wrap64 ((m : Int) + 1) = (m : Int) + 1) := IntWalk.wrap64_in _ (by have := HMT.out; omega)
                  by_cases hmn : m = T.length
                  · obtain rfl : LW = m + 1 := by have := HLW.out; omega
                    have v3 : ((m : Int) + 1 == (((m + 1 : Nat) : Int))) = true := by simp
                    have v4 : ((m : Int) + 1 != (((m + 1 : Nat) : Int))) = false := by simp
                    have v2 := HV2.out
                    have HPI0 : Hid (PolI L k x []) := polI_first HX0.out HWS.out HAC.out hm0 (by rw [List.length_map]; exact hmn)
                    obtain ⟨a0, a1, _, _⟩ := row2 HAB.out
                    have HP0 := Lib.hid (PR.start HBC.out.1 HNUM.out.2.2.2.2 HBC.out.2 HGC.out k x)
                    clear hmn HPN HX0 HWS HAC HAB HGC HMT HV2
                    go_upto_region 12 with fail
                    clear a0 a1 v1 v2 v3 v4 q0
                    generalize wc.alloc (.cells #[.slice none 0 0, .int .i64 k, .int .i64 x] 27) = W9 at *
                    generalize wc.heap.size = q at *
                    have hn1 := HNUM.out.1.2.1
                    go_wp2_with fail
                    go_loopw [10] (fun iv wr => ∃ (i : Nat) (rs : List RuleD) (AO : Option Addr) (cO : Nat) (xs : List Value), i ≤ n ∧ iv = .int .i64 i ∧ Hid (i = rs.length + 1) ∧ Hid (PR w g S q wr rs k x AO cO xs) ∧ Hid (PolI L k x rs)) (fun iv _ => n - (intOf iv).toNat)
                    case atStart => exact ⟨1, [], none, 0, [], hn1, rfl, rfl, HP0, HPI0⟩
                    case round =>
                      clear HP0 HPI0 hn1
                      obtain ⟨i, rs, AO, cO, xs, hi, rfl, HIL, HPR, HPL⟩ := hrel
                      by_cases hin : i < n
                      · have z1 : (i : Int) < (n : Int) := by omega
                        have z0 : (0 : Int) ≤ (i : Int) := by omega
                        have hl1 := HNUM.out.2.2.2.1
                        have z2 : (i : Int) < (LN : Int) := by omega
                        have HI1 : Hid (1 ≤ i) := by show _ ≤ _; have := HIL.out; omega
                        have hls := HNUM.out.2.2.1
                        obtain ⟨li, hli⟩ : ∃ li, ls[i]? = some li := ⟨ls[i], by simp⟩
                        have k0 := HCL.out _ HPR.out.str i li hli
                        have HLL2 := Lib.hid (HLI.out i li hli)
                        have HLS2 : Hid (li.size ≤ 100000) := by
                          have h1 := HWZ.out li (List.mem_of_getElem? hli)
                          have h2 := HNUM.out.2.1
                          show _ ≤ _
                          omega
                        have HRL := Lib.hid (fun W => ruleOf_any li W HLS2.out)
                        clear hl1 hls hli
                        go_upto_region 16 with (go_at_call 27; refine cargs (by simp) ((HRL.out _).mono ?_); rintro e w5 ⟨hb5, nr, k5, x5, A5, n5, c5, ok, rfl, hyes, hno⟩)
                        have HP5 := Lib.hid (HPR.out.below hb5)
                        have HY5 := Lib.hid hyes
                        have HN5 := Lib.hid hno
                        have HSZ : Hid (w.heap.size + 1 ≤ wr.heap.size) := by
                          have h1 := HPR.out.big
                          have h2 := HPR.out.hgq
                          have h3 := HPR.out.hg
                          show _ ≤ _
                          omega
                        clear hb5 hyes hno k0 HRL HPR
                        cases ok with
                        | false =>
                          have HN : Hid (PolNo L) := polNo_rule HLL.out HI1.out hin HLL2.out (HN5.out rfl)
                          have HPA := Lib.hid (HP5.out.alloc (.cells #[.int .i64 nr, .slice A5 n5 c5, .int .i64 k5, .int .i64 x5] 73))
                          clear z1 z2 z0 hin hi
                          have hzz := HNO.out ⟨HPA.out.bel, HPA.out.res⟩ HN.out
                          obtain ⟨r0, r1, r2, rz0, rz1, rz2⟩ := prow3 HPA.out.res
                          obtain ⟨y0, y1, y2, _⟩ := prow3 hzz.1
                          have HF := Lib.hid hzz.2
                          clear hzz
                          go_wp2_with fail
                          try simp only [Exit.inBlock, Exit.then]
                          refine bodyPost_ret (by simp [results, Tryz.results7, go_sem, y0, y1, y2]; try rfl) rfl ?_
                          exact HF.out
                        | true =>
                          obtain ⟨conds, rfl, hco, hcf, hrd, hrw⟩ := HY5.out rfl
                          have HPI1 : Hid (PolI L k x (rs ++ [⟨nr, conds, k5, x5⟩])) := HPL.out.snoc (by rw [← HIL.out]; exact HLL2.out) hrw hrd hco.1
                          have HCO := Lib.hid (hco.kept (keptC_below ((Below.refl w5.heap.size w5).alloc (Nat.le_refl _) (.cells #[.int .i64 nr, .slice A5 conds.length c5, .int .i64 k5, .int .i64 x5] 73))))
                          have HCF := Lib.hid (hcf.mono HSZ.out)
                          have HPA := Lib.hid (HP5.out.alloc (.cells #[.int .i64 nr, .slice A5 conds.length c5, .int .i64 k5, .int .i64 x5] 73))
                          obtain ⟨b0, b1, b2, b3, _⟩ := rrow4 (heap_alloc_new w5 (.cells #[.int .i64 nr, .slice A5 conds.length c5, .int .i64 k5, .int .i64 x5] 73))
                          obtain ⟨d0, d1, d2, dz0, dz1, dz2⟩ := prow3 HPA.out.pol
                          have hi13 : i ≤ 13 := by have := HNUM.out.1.2.2; omega
                          have hrl : rs.length ≤ 1000000 := by have := HIL.out; have := HNUM.out.1.1; omega
                          clear hco hcf hrd hrw HY5 HN5 HP5 HLL2 HPL
                          generalize w5.alloc (.cells #[.int .i64 nr, .slice A5 conds.length c5, .int .i64 k5, .int .i64 x5] 73) = W6 at *
                          go_wp2_with (at_builtin; refine list_append_rule rfl _ _ rfl (w.heap.size + 1) _ rs.length (.slice AO rs.length cO) xs ⟨nr, conds, k5, x5⟩ A5 c5 rfl rfl (HPA.out.own.alloc _) (heap_alloc_new _ _) hrl (by have h1 := HPA.out.big; have h2 := HPA.out.hgq; have h3 := HPA.out.hg; simp; omega) ?_; intro g9 cap9 w9 ho9 hg9; have HP9 := Lib.hid (HPA.out.append ho9 hg9 HCO.out HCF.out); obtain ⟨n0, n1, n2, nz0, nz1, nz2⟩ := prow3 ((HPA.out.keptOwn hg9).2.2 q _ HPA.out.pol (fun cur e => by simp only [Obj.cells.injEq] at e; exact absurd e.2.1 (by decide))); clear ho9 hg9)
                          go_roundw
                          case rel =>
                            exact ⟨i + 1, _, _, _, _, by omega, by go_num, by show _ = _; rw [List.length_append, List.length_singleton, ← HIL.out], HP9, HPI1⟩
                          case measure => simp [intOf]; omega
                      · obtain rfl : i = n := by omega
                        have z1 : ¬ (i : Int) < (i : Int) := by omega
                        obtain ⟨d0, d1, d2, dz0, dz1, dz2⟩ := prow3 HPR.out.pol
                        have HGL : Hid (∀ r ∈ rs, (∀ cc ∈ r.conds, cc.glob.size ≤ 100000) ∧ r.conds.length ≤ 100000) := fun r hr => by
                          obtain ⟨j, hj⟩ := List.getElem?_of_mem hr
                          obtain ⟨y, h1, h2⟩ := HPL.out.rul j r hj
                          obtain ⟨lj, h3, rfl⟩ : ∃ lj, ls[j + 1]? = some lj ∧ bL lj = y := by
                            rw [← HLS.out, List.getElem?_map] at h1
                            exact Option.map_eq_some_iff.1 h1
                          have h4 := HWZ.out lj (List.mem_of_getElem? h3)
                          have h5 : (bL lj).length = lj.size := by unfold bL; simp
                          obtain ⟨h6, h7⟩ := glob_small (HPL.out.con r hr) h2.symm
                          have h8 := HNUM.out.2.1
                          exact ⟨fun cc hc => by have := h6 cc hc; omega, by omega⟩
                        have HPF : Hid (Calls Tryz.prog 13 #[.agg #[.slice AO rs.length cO, .int .i64 k, .int .i64 x]] wr fun e w' => e = .returned (.int .i64 (polF ⟨rs, k, x⟩)) ∧ Below wr.heap.size wr w') := polFault_any _ ⟨rs, k, x⟩ wr HPR.out.polAt (fun r hr => (HGL.out r hr).1) (by have h1 := HIL.out; have h2 := HNUM.out.1.1; show rs.length ≤ _; omega) (fun r hr => (HGL.out r hr).2)
                        have hge := polF_ge ⟨rs, k, x⟩
                        by_cases hpf : polF ⟨rs, k, x⟩ = 0
                        · have HRP : Hid (ReadP (bL s) (some ⟨rs, k, x⟩)) := HPI.out k x rs HPL.out HIL.out HZ0.out hpf
                          rw [hpf] at HPF
                          clear hpf hge HGL HIL
                          go_upto_region 21 with (go_at_call 13; refine cargs (by simp) (HPF.out.mono ?_); rintro e w8 ⟨rfl, hb8⟩; have HP8 := Lib.hid (HPR.out.below hb8); clear hb8)
                          clear d0 d1 d2 dz0 dz1 dz2 HPF HPR
                          obtain ⟨d0, d1, d2, dz0, dz1, dz2⟩ := prow3 HP8.out.pol
                          obtain ⟨r0, r1, r2, rz0, rz1, rz2⟩ := prow3 HP8.out.res
                          obtain ⟨hf1, hf2, hf3⟩ := HP8.out.fin (.slice AO rs.length cO) (.int .i64 k) (.int .i64 x)
                          obtain ⟨y0, y1, y2, _⟩ := prow3 hf2
                          have HF := Lib.hid (HYES.out _ _ _ hf1 HRP.out hf3)
                          clear hf1 hf2 hf3
                          go_wp2_with fail
                          try simp only [Exit.inBlock, Exit.then]
                          refine bodyPost_ret (by simp [results, Tryz.results7, go_sem, y0, y1, y2]; try rfl) rfl ?_
                          exact HF.out
                        · have HN : Hid (PolNo L) := HPL.out.no (by have h1 := HLL.out; have h2 := HIL.out; omega) hpf
                          have hpp : 0 < polF ⟨rs, k, x⟩ := by omega
                          have hpd : decide (0 < polF ⟨rs, k, x⟩) = true := by simp; omega
                          generalize polF ⟨rs, k, x⟩ = pf at *
                          clear hpf hge HGL HIL
                          go_upto_region 20 with (go_at_call 13; refine cargs (by simp) (HPF.out.mono ?_); rintro e w8 ⟨rfl, hb8⟩; have HP8 := Lib.hid (HPR.out.below hb8); clear hb8)
                          clear d0 d1 d2 dz0 dz1 dz2 HPF HPR
                          have hzz := HNO.out ⟨HP8.out.bel, HP8.out.res⟩ HN.out
                          obtain ⟨r0, r1, r2, rz0, rz1, rz2⟩ := prow3 HP8.out.res
                          obtain ⟨y0, y1, y2, _⟩ := prow3 hzz.1
                          have HF := Lib.hid hzz.2
                          clear hzz
                          go_wp2_with fail
                          try simp only [Exit.inBlock, Exit.then]
                          refine bodyPost_ret (by simp [results, Tryz.results7, go_sem, y0, y1, y2]; try rfl) rfl ?_
                          exact HF.out
                  · have hw := HLW.out
                    have v3 : ((m : Int) + 1 == (LW : Int)) = false := beq_eq_false_iff_ne.2 (by omega)
                    have v4 : ((m : Int) + 1 != (LW : Int)) = true := bne_iff_ne.2 (by omega)
                    have v5 : ¬ (m : Int) + 1 = (LW : Int) := by omega
                    clear hw
                    have HN := Lib.hid (HPN.out (.inr (.inr (by omega))))
                    clear hmn
                    have v2 := HV2.out
                    have hzz := HNO.out HBC.out HN.out
                    obtain ⟨r0, r1, r2, rz0, rz1, rz2⟩ := prow3 HBC.out.2
                    obtain ⟨y0, y1, y2, _⟩ := prow3 hzz.1
                    have HF := Lib.hid hzz.2
                    clear hzz
                    go_wp2_with fail
                    try simp only [Exit.inBlock, Exit.then]
                    refine bodyPost_ret (by simp [results, Tryz.results7, go_sem, y0, y1, y2]; try rfl) rfl ?_
                    exact HF.out
              · have ty : (y.toList == [101, 108, 115, 101]) = false := tl_ne hy
                have HN := Lib.hid (HPN.out (.inl (fun h => hy (bL_inj h))))
                clear hy
                have hzz := HNO.out HBC.out HN.out
                obtain ⟨r0, r1, r2, rz0, rz1, rz2⟩ := prow3 HBC.out.2
                obtain ⟨y0, y1, y2, _⟩ := prow3 hzz.1
                have HF := Lib.hid hzz.2
                clear hzz
                go_wp2_with fail
                try simp only [Exit.inBlock, Exit.then]
                refine bodyPost_ret (by simp [results, Tryz.results7, go_sem, y0, y1, y2]; try rfl) rfl ?_
                exact HF.out
      · have t3 : ¬ z.toList = [] := fun h => hze (by rw [tl_eq] at h; exact ba_ext h)
        have t4 : z.toList.isEmpty = false := by cases hq : z.toList with | nil => exact absurd hq t3 | cons _ _ => rfl
        have HN : Hid (PolNo L) := polNo_last HLL.out HZ.out (fun h => hze (ba_ext h))
        clear hze HZ
        have hzz := HNO.out HB1.out HN.out
        obtain ⟨r0, r1, r2, rz0, rz1, rz2⟩ := prow3 HB1.out.2
        obtain ⟨y0, y1, y2, _⟩ := prow3 hzz.1
        have HF := Lib.hid hzz.2
        clear hzz
        go_wp2_with fail
        try simp only [Exit.inBlock, Exit.then]
        refine bodyPost_ret (by simp [results, Tryz.results7, go_sem, y0, y1, y2]; try rfl) rfl ?_
        exact HF.out
end Go.Proofs.YtmgngapkgcofnaaGreatDoor
/- PolicyReads: the walk. -/
namespace Go.Proofs.YtmgngapkgcofnaaGreatDoor
open Go.RowKit Go.PlainAid

def zeroP : PolD := ⟨[], 0, 0⟩
/-- What a text is read as, and what is wrong with it. -/
def Outcome (s : ByteArray) (f : Int) (p : PolD) : Prop := (8000 < s.size ∧ f = 2 ∧ p = zeroP) ∨ (s.size ≤ 8000 ∧ ReadP (bL s) none ∧ f = 4 ∧ p = zeroP) ∨ (s.size ≤ 8000 ∧ ReadP (bL s) (some p) ∧ f = 0)
theorem Outcome.same {s : ByteArray} {f g : Int} {p q : PolD} (h : Outcome s f p) (k : Outcome s g q) : f = g ∧ p = q := by
  rcases h with ⟨h1, h2, h3⟩ | ⟨h1, h2, h3, h4⟩ | ⟨h1, h2, h3⟩ <;> rcases k with ⟨k1, k2, k3⟩ | ⟨k1, k2, k3, k4⟩ | ⟨k1, k2, k3⟩
  · exact ⟨by omega, by rw [h3, k3]⟩
  · omega
  · omega
  · omega
  · exact ⟨by omega, by rw [h4, k4]⟩
  · cases ReadP.same h2 k2
  · omega
  · cases ReadP.same h2 k2
  · cases ReadP.same h2 k2
    exact ⟨by omega, rfl⟩
theorem Outcome.few {s : ByteArray} {f : Int} {p : PolD} (h : Outcome s f p) : (p.rules.length ≤ 100000 ∧ ∀ r ∈ p.rules, r.conds.length ≤ 100000) ∧ 0 ≤ f := by
  rcases h with ⟨_, h2, h3⟩ | ⟨_, _, h3, h4⟩ | ⟨_, h2, h3⟩
  · subst h3; exact ⟨⟨by simp [zeroP], by simp [zeroP]⟩, by omega⟩
  · subst h4; exact ⟨⟨by simp [zeroP], by simp [zeroP]⟩, by omega⟩
  · obtain ⟨k1, _, k3⟩ := polF_zero h2.2.1
    exact ⟨⟨by omega, fun r hr => by have := (ruleF_zero (k3 r hr)).2.2.1; omega⟩, by omega⟩
theorem zeroP_at (w : World) (B : Nat) : PolAt w B (.agg #[.slice none 0 0, .int .i64 0, .int .i64 0]) zeroP := ⟨none, 0, rfl, none, 0, rfl, Or.inl rfl⟩
theorem parse_out (HN : NumSaid) (s : ByteArray) (w : World) (hs : s.size ≤ 1000000) (hG : Grd w) (htab : Lib.TabIs Tryz.prog w "internal/strconv.uint64pow10" .u64 Lib.pow10Tab) :
    Calls Tryz.prog 6 #[.string s] w fun e w' => ∃ (p : PolD) (A : Option Addr) (n c : Nat) (k x f : Int), e = .returned (.tuple #[.agg #[.slice A n c, .int .i64 k, .int .i64 x], errV f]) ∧ Hid (PolAt w' w'.heap.size (.agg #[.slice A n c, .int .i64 k, .int .i64 x]) p ∧ Outcome s f p) ∧ Below w.heap.size w w' :=
  (parse_any_pol HN s w hs hG htab).mono fun e w' h => by
    obtain ⟨h1, h2⟩ := h.at
    rcases h2 with ⟨h3, rfl⟩ | ⟨h2, h3, rfl⟩ | ⟨h2, p, A, c, h3, rfl, h5⟩
    · exact ⟨zeroP, none, 0, 0, 0, 0, 2, rfl, ⟨zeroP_at _ _, .inl ⟨h3, rfl, rfl⟩⟩, h1⟩
    · exact ⟨zeroP, none, 0, 0, 0, 0, 4, rfl, ⟨zeroP_at _ _, .inr (.inl ⟨h2, h3, rfl, rfl⟩)⟩, h1⟩
    · exact ⟨p, A, _, c, _, _, 0, rfl, ⟨h5, .inr (.inr ⟨h2, h3, rfl⟩)⟩, h1⟩
theorem policyOf_out (s : ByteArray) (w : World) (hs : s.size ≤ 100000) :
    Calls Tryz.prog 7 #[.string s] w fun e w' => ∃ (p : PolD) (A : Option Addr) (n c : Nat) (k x f : Int), e = .returned (.tuple #[.agg #[.slice A n c, .int .i64 k, .int .i64 x], .int .i64 f]) ∧ Hid (PolAt w' w'.heap.size (.agg #[.slice A n c, .int .i64 k, .int .i64 x]) p ∧ Outcome s f p) ∧ Below w.heap.size w w' :=
  (policyOf_any s w hs).mono fun e w' h => by
    obtain ⟨h1, h2⟩ := h
    rcases h2 with ⟨h3, rfl⟩ | ⟨h2, h3, rfl⟩ | ⟨h2, p, v, h3, rfl, h5⟩
    · exact ⟨zeroP, none, 0, 0, 0, 0, 2, rfl, ⟨zeroP_at _ _, .inl ⟨h3, rfl, rfl⟩⟩, h1⟩
    · exact ⟨zeroP, none, 0, 0, 0, 0, 4, rfl, ⟨zeroP_at _ _, .inr (.inl ⟨h2, h3, rfl, rfl⟩)⟩, h1⟩
    · have h6 := h5
      obtain ⟨A, c, rfl, _⟩ := h5
      exact ⟨p, A, _, c, _, _, 0, rfl, ⟨h6, .inr (.inr ⟨h2, h3, rfl⟩)⟩, h1⟩
theorem polAt_up {w w' : World} {v : Value} {p : PolD} (h : PolAt w w.heap.size v p) (hb : Below w.heap.size w w') : PolAt w' w'.heap.size v p := by
  obtain ⟨A, c, rfl, hr⟩ := h
  exact ⟨A, c, rfl, (hr.below hb (Nat.le_refl _)).mono hb.size⟩
/-- What the shelf reads stands in every world behind. -/
structure Shelf0 (w : World) : Prop where
  grd : Grd w
  tab : Lib.TabIs Tryz.prog w "internal/strconv.uint64pow10" .u64 Lib.pow10Tab
theorem Shelf0.up {w w' : World} (h : Shelf0 w) (hb : Below w.heap.size w w') : Shelf0 w' := ⟨h.grd.below hb (Nat.le_refl _), tab_below h.tab _ hb⟩
set_option linter.unusedSimpArgs false in
set_option maxRecDepth 100000 in
set_option maxHeartbeats 4000000 in
theorem policyReads_walk (HN : NumSaid) (s : ByteArray) (w : World) (hS : Shelf0 w) :
    Calls Tryz.prog 3 #[.string s] w fun e w' => e = .returned (.bool true) ∧ Below w.heap.size w w' := by
  have HLT := Lib.hid (lets_any HN w hS.grd hS.tab)
  by_cases h9 : 9000 < s.size
  · have t1 : decide (9000 < (s.size : Int)) = true := by simp; omega
    have t2 : 9000 < (s.size : Int) := by omega
    go_enter Tryz.func3, Tryz.ntmps3
    go_wp2_with (go_at_call 5; refine cargs (by simp [Act.eval]) (HLT.out.mono ?_); rintro e w1 ⟨rfl, hb1⟩)
    go_ret
    exact ⟨rfl, hb1⟩
  · have t1 : decide (9000 < (s.size : Int)) = false := by simp; omega
    have t2 : ¬ 9000 < (s.size : Int) := by omega
    have HP : Hid (∀ W, Below w.heap.size w W → Calls Tryz.prog 6 #[.string s] W fun e w' => ∃ (p : PolD) (A : Option Addr) (n c : Nat) (k x f : Int), e = .returned (.tuple #[.agg #[.slice A n c, .int .i64 k, .int .i64 x], errV f]) ∧ Hid (PolAt w' w'.heap.size (.agg #[.slice A n c, .int .i64 k, .int .i64 x]) p ∧ Outcome s f p) ∧ Below W.heap.size W w') := fun W hb => parse_out HN s W (by omega) (hS.up hb).grd (hS.up hb).tab
    have HO := Lib.hid (fun W => policyOf_out s W (by omega))
    clear hS h9
    go_enter Tryz.func3, Tryz.ntmps3
    go_upto_region 5 with (first
      | (go_at_call 5; refine cargs (by simp [Act.eval]) (HLT.out.mono ?_); rintro e w1 ⟨rfl, hb1⟩; have HB1 := Lib.hid hb1; clear hb1)
      | (go_at_call 6; refine cargs (by simp [Act.eval]) ((HP.out _ HB1.out).mono ?_); rintro e w2 ⟨p, A, n, c, k, x, f, rfl, hp2, hb2⟩; have HB2 := Lib.hid (HB1.out.trans (hb2.mono HB1.out.size)); clear hb2))
    have HT2 := Lib.hid (cell3 w2 (.slice A n c) (.int .i64 k) (.int .i64 x) 27)
    have HP3 : Hid (PolAt (w2.alloc (.cells #[.slice A n c, .int .i64 k, .int .i64 x] 27)) (w2.alloc (.cells #[.slice A n c, .int .i64 k, .int .i64 x] 27)).heap.size (.agg #[.slice A n c, .int .i64 k, .int .i64 x]) p) := polAt_up hp2.out.1 ((Below.refl _ _).alloc (Nat.le_refl _) _)
    have HO2 := Lib.hid hp2.out.2
    have HB3 : Hid (Below w.heap.size w (w2.alloc (.cells #[.slice A n c, .int .i64 k, .int .i64 x] 27))) := HB2.out.alloc HB2.out.size _
    clear hp2 HP HLT HB1 HB2
    generalize w2.alloc (.cells #[.slice A n c, .int .i64 k, .int .i64 x] 27) = W3 at *
    go_upto_region 6 with (go_at_call 7; refine cargs (by simp [Act.eval]) ((HO.out _).mono ?_); rintro e w4 ⟨p', A', n', c', k', x', f', rfl, hp4, hb4⟩; have HB4 := Lib.hid hb4; clear hb4)
    obtain ⟨rfl, rfl⟩ := HO2.out.same hp4.out.2
    have HF := Lib.hid HO2.out.few
    have HB5 : Hid (Below W3.heap.size W3 (w4.alloc (.cells #[.slice A' n' c', .int .i64 k', .int .i64 x'] 27))) := HB4.out.alloc HB4.out.size _
    obtain ⟨l0, l1, l2⟩ := cell3 w4 (.slice A' n' c') (.int .i64 k') (.int .i64 x') 27 _ (Below.refl _ _)
    obtain ⟨j0, j1, j2⟩ := HT2.out _ HB5.out
    have HPA := Lib.hid (polAt_up HP3.out HB5.out)
    have HPB : Hid (PolAt (w4.alloc (.cells #[.slice A' n' c', .int .i64 k', .int .i64 x'] 27)) (w4.alloc (.cells #[.slice A' n' c', .int .i64 k', .int .i64 x'] 27)).heap.size (.agg #[.slice A' n' c', .int .i64 k', .int .i64 x']) p) := polAt_up hp4.out.1 ((Below.refl _ _).alloc (Nat.le_refl _) _)
    have HBX : Hid (Below w.heap.size w (w4.alloc (.cells #[.slice A' n' c', .int .i64 k', .int .i64 x'] 27))) := HB3.out.trans (HB5.out.mono HB3.out.size)
    have HSA : Hid (∀ W : World, Calls Tryz.prog 8 #[errV f, .int .i64 f] W fun e w' => e = .returned (.bool true) ∧ W = w') := fun W => by
      have := same_any f f W HF.out.2
      simpa using this
    clear hp4 HO2 HP3 HT2 HB4 HB5 HB3 HO
    generalize w4.alloc (.cells #[.slice A' n' c', .int .i64 k', .int .i64 x'] 27) = W5 at *
    have HSP := Lib.hid (samePol_any _ _ p W5 HPA.out HPB.out HF.out.1.1 HF.out.1.2)
    clear HPA HPB HF
    generalize errV f = ev at *
    go_wp2_with (first
      | (go_at_call 8; refine cargs (by simp [Act.eval]) ((HSA.out _).mono ?_); rintro e w6 ⟨rfl, rfl⟩)
      | (go_at_call 9; refine cargs (by simp [Act.eval]) (HSP.out.mono ?_); rintro e w7 ⟨rfl, hb7⟩))
    go_ret
    exact ⟨rfl, HBX.out.trans (hb7.mono HBX.out.size)⟩
end Go.Proofs.YtmgngapkgcofnaaGreatDoor
/- For every text the law PolicyReads returns true, and it reads as it did; the card. The listed tables and errors hold what the program's text lays. No condition. -/
namespace Go.Proofs.YtmgngapkgcofnaaGreatDoor.policyReads
open Go.ChangeShapes Go.WideShapes Go.ChangeAt Go.RowKit
open Go.ChangeMaps (open_string shut_string)

theorem own : ownKnob Tryz.prog.godebug = none := by kernel_rfl
theorem laidOut : laidOutB Tryz.prog = true := by kernel_rfl
/-- The cells that a plain table's datum names, a table of pairs' too. -/
def rowOf : DataW Unit → Array Value
  | .agg ps => (ps.flatMap fun d => match d with | .lit (.int k i) => [Value.int k i] | .agg qs => (qs.map fun d => match d with | .lit (.int k i) => Value.int k i | _ => .nilIface) | _ => [.nilIface]).toArray
  | _ => #[]
def lay (r : Array Value) : Obj → Obj
  | .cells _ t frozen => .cells r t frozen
  | o => o
def args0 : Array Value := #[.string .empty]
def errAt (b : Nat) : Array Value := #[.iface 195 (.pointer (some ⟨b, 0, none⟩))]
/-- A world for the witness: the settled one, the listed variables holding what their initialisers lay. -/
noncomputable def laidWorld (os : Os) : World :=
  { World.holding Tryz.prog os ⟨#[], args0, []⟩ with heap := ((((((((World.holding Tryz.prog os ⟨#[], args0, []⟩).heap.modify 6 (lay (rowOf Rows.laid_math_bits_deBruijn32tab))).modify 7 (lay (rowOf Rows.laid_math_bits_deBruijn64tab))).modify 5 (lay (rowOf Rows.laid_internal_strconv_uint64pow10))).modify 2 (lay (rowOf Rows.laid_unicode_utf8_acceptRanges))).modify 1 (lay (rowOf Rows.laid_unicode_utf8_first))).modify 4 (lay (errAt (World.holding Tryz.prog os ⟨#[], args0, []⟩).heap.size))).modify 3 (lay (errAt ((World.holding Tryz.prog os ⟨#[], args0, []⟩).heap.size + 1)))
    |>.push (.cells #[.string ⟨#[118, 97, 108, 117, 101, 32, 111, 117, 116, 32, 111, 102, 32, 114, 97, 110, 103, 101]⟩] 197) |>.push (.cells #[.string ⟨#[105, 110, 118, 97, 108, 105, 100, 32, 115, 121, 110, 116, 97, 120]⟩] 197)) }
theorem laid_met (os : Os) : laidMet Tryz.prog Rows.policyReadsRow.laid ((laidWorld os).forCall (fun _ _ => 0) ⟨#[], args0, []⟩).memory :=
  laidMet_of_run3 8 (by kernel_rfl) (by kernel_rfl) (by kernel_rfl)
theorem reads (os : Os) {H : Type} (enc : TypeId × Value → H) : ∃ places, DataW.whole enc Tryz.prog ((laidWorld os).forCall (fun _ _ => 0) ⟨#[], args0, []⟩).memory Tryz.f3.params.toList Rows.policyReadsSpec.vars false args0.toList 8 = some ([.lit (.string [])], [], places) :=
  ⟨[], by kernel_rfl⟩
theorem tab_of {W : World} (hL : laidMetH Tryz.prog Rows.policyReadsRow.laid W) : Lib.TabIs Tryz.prog W "internal/strconv.uint64pow10" .u64 Lib.pow10Tab := by
  have h0 : laidMet Tryz.prog Rows.policyReadsRow.laid W := hL
  have h1 := laidMet.tail (laidMet.tail h0)
  have e : (Rows.laid_internal_strconv_uint64pow10 : DataW Unit) = Lib.tabData .u64 Lib.pow10Tab := by kernel_rfl
  rw [e] at h1
  exact Lib.tabIs_of_head (g := 5) (by kernel_rfl) (by kernel_rfl) Tryz.underlying191 Tryz.underlying38 (by kernel_rfl) (by kernel_rfl) h1
theorem star : "*" ++ "errors.errorString" = "*errors.errorString" := by decide
theorem names_err (u : TypeId) (h : Tryz.prog.typeName? 3 u = some "*errors.errorString") : u = 195 :=
  typeName_ptr_named (nm := "errors.errorString") (by rw [star]; kernel_rfl) (by kernel_rfl) (by decide) u (by rw [star]; exact h)
theorem gER : Tryz.prog.globalNamed "strconv.ErrRange" = some 4 := by kernel_rfl
theorem gES : Tryz.prog.globalNamed "strconv.ErrSyntax" = some 3 := by kernel_rfl
theorem gERt : (Tryz.prog.globals[4]?).map (·.type) = some 29 := by kernel_rfl
theorem gESt : (Tryz.prog.globals[3]?).map (·.type) = some 29 := by kernel_rfl
theorem cellsE : Tryz.prog.cellsOf 197 = 1 := by kernel_rfl
theorem cellsS : Tryz.prog.cellsOf 9 = 1 := by kernel_rfl
theorem shelf_of {W : World} (hL : laidMetH Tryz.prog Rows.policyReadsRow.laid W) (hsh : W.ShapedOpen Tryz.prog) : Shelf0 W := by
  have h0 : laidMet Tryz.prog Rows.policyReadsRow.laid W := hL
  have h4 := laidMet.tail (laidMet.tail (laidMet.tail (laidMet.tail h0)))
  obtain ⟨a0, s0, hv0, -, -, -⟩ := laid_sentinel h4 gER gERt Tryz.underlying29 names_err Tryz.underlying195 Tryz.underlying197 rfl rfl Tryz.underlying9 cellsE cellsS
  obtain ⟨a1, s1, hv1, -, -, -⟩ := laid_sentinel (laidMet.tail h4) gES gESt Tryz.underlying29 names_err Tryz.underlying195 Tryz.underlying197 rfl rfl Tryz.underlying9 cellsE cellsS
  exact ⟨⟨⟨_, by have h0 := World.var?_cell gES hv1 0; simpa using h0, Or.inr ⟨_, _, rfl⟩⟩, ⟨_, by have h0 := World.var?_cell gER hv0 0; simpa using h0, Or.inr ⟨_, _, rfl⟩⟩,
    Go.Proofs.cell_of_shapedOpen_int (zero := #[.int .i64 0]) (t := 3) hsh (of_decide_eq_true (by kernel_rfl)) (by kernel_rfl) rfl (by kernel_rfl) (by kernel_rfl) Tryz.underlying3⟩, tab_of hL⟩

set_option maxRecDepth 100000 in
theorem contract (H : Type) (enc : TypeId × Value → H) (W : World) (base : Nat) (args : Array Value) (ds gs : List (DataW H)) (before : List MemPlace)
    (hval0 : ∀ (j : Nat) t v, Tryz.f3.params[j]? = some t → args[j]? = some v → Value.okWide Tryz.prog W .any base t v)
    (hL : laidMetH Tryz.prog Rows.policyReadsRow.laid W) (hsh : W.ShapedOpen Tryz.prog)
    (hW : DataW.Whole enc Tryz.prog Tryz.f3.params.toList Rows.policyReadsSpec.vars false W args.toList ds gs before) :
    Calls Tryz.prog 3 args W fun e W' => ∃ v, e = .returned v ∧ Rows.policyReadsSpec.post enc Tryz.prog Tryz.f3 false true false false W args v W' := by
  have hval := hval0
  have hW' := hW
  obtain ⟨p, q, hA0, hV, rfl, hfz, hnd⟩ := hW
  have hA : DataW.TrodAll enc Tryz.prog W 0 (fun _ => true) true Tryz.f3.params.toList args.toList ds p := hA0
  rw [Tryz.params3] at hA hval
  obtain ⟨v0, d0, rfl, rfl, h0⟩ := trodAll_one hA
  obtain ⟨rfl, rfl⟩ := trodVars_none hV
  obtain ⟨s, rfl, rfl, rfl, _⟩ := open_string Tryz.underlying9 (hval 0 9 v0 rfl rfl) h0
  refine (policyReads_walk wordNum_any s W (shelf_of hL hsh)).mono fun e W' ⟨he, hb⟩ => ?_
  subst he
  exact ⟨_, rfl, law_post laidOut (by kernel_rfl) Tryz.underlying4 (by kernel_rfl) rfl hW' rfl hb⟩

set_option maxRecDepth 100000 in
theorem lifted (os : Os) (started : os.Started) (H : Type) (enc : TypeId × Value → H) (F : Stop.Interp) :
    ReturnsInHanded {} Tryz.checked os 3 .any ((OpenSpec.ofChange Rows.policyReadsSpec).preRow enc Tryz.prog Tryz.f3 Rows.policyReadsRow.domain false Rows.policyReadsRow.laid) (((OpenSpec.ofChange Rows.policyReadsSpec).at F).post enc Tryz.prog Tryz.f3 false true false false) := by
  obtain ⟨places, hx⟩ := reads os enc
  refine returnsInHanded_of_row (C := Tryz.checked) (s := OpenSpec.ofChange Rows.policyReadsSpec) own started (by kernel_rfl) Tryz.func3
    (witness_row_at (enc := enc) (C := Tryz.checked) false (laidWorld os) args0 rfl (by kernel_rfl) (by kernel_rfl) (by kernel_rfl)
      (OpenSpec.preRow_of_cond 8 hx (by kernel_rfl) (fun k hk => by cases hk) (by kernel_rfl) (laid_met os))) ?_
  intro W base args ds gs before hval hW _ _ _ hL hsh _
  exact contract H enc W base args ds gs before hval hL hsh hW

theorem said : Rows.PolicyReadsSaid :=
  OpenClaim.holds_of_cond 3 Tryz.f3 rfl rfl rfl rfl rfl rfl rfl ⟨rfl, rfl, rfl, rfl, rfl⟩ rfl rfl rfl rfl rfl (by kernel_rfl) Tryz.func3 (by kernel_rfl)
    (of_decide_eq_true (by kernel_rfl)) (by unfold Func.isWrapper; first | (rw [if_pos (by decide +kernel)]; kernel_rfl) | (rw [if_neg (by decide +kernel)]; exact ⟨rfl, rfl⟩))
    (fun os started H enc _ F => by rw [OpenClaim.pre_eq_preRow]; exact lifted os started H enc F)

theorem plain (f : FuncId) (fn : Func) (hf : Tryz.pinned.checked.prog.funcNamed "doorward/doorwardlaw.PolicyReads" = some f) (hfn : Tryz.pinned.checked.prog.funcs[f]? = some fn) :
    true = Tryz.pinned.checked.prog.looks [] ∧ ∀ (j : Nat) t, fn.params[j]? = some t → Tryz.pinned.checked.prog.wantsStandIn t = false := by
  obtain rfl : f = 3 := Option.some.inj ((show Tryz.prog.funcNamed "doorward/doorwardlaw.PolicyReads" = some 3 by kernel_rfl).symm.trans hf) |>.symm
  obtain rfl : fn = Tryz.f3 := (Option.some.inj (Tryz.func3.symm.trans hfn)).symm
  refine ⟨by kernel_rfl, fun j t ht => ?_⟩
  rw [Tryz.params3] at ht
  match j, ht with
  | 0, ht =>
    simp at ht
    subst ht
    exact (show Tryz.prog.wantsStandIn 9 = false by kernel_rfl)
  | j + 1, ht => simp at ht

/-- THE CARD. -/
theorem card : Rows.PolicyReadsCardSaid :=
  Claim7.holds_tied_plain_at .later [] _ _ _ _ said (fun _ h => by cases h) (by kernel_rfl) (fun _ h => by cases h) policyReads_row_tie rfl ⟨rfl, rfl⟩ (by kernel_rfl) rfl plain (by kernel_rfl)
end Go.Proofs.YtmgngapkgcofnaaGreatDoor.policyReads
