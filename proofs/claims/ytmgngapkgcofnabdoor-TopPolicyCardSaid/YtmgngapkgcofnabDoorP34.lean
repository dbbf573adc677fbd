/- A line's action: the walk. -/
import Derived.Test.YtmgngapkgcofnabDoorP33
import Derived.Laws.BitsAllLaws
namespace Go.Proofs.YtmgngapkgcofnabDoor
open Go.RowKit

theorem and255_big (n : Nat) (h : n < 18446744073709551616) : bits .and .u64 (n : Int) 255 = ((n % 256 : Nat) : Int) := by
  rw [show (255 : Int) = ((255 : Nat) : Int) from rfl, u64_and_nat _ _ (by omega) (by omega)]
  congr 1
  exact Nat.and_two_pow_sub_one_eq_mod n 8
theorem act_head {ws : List ByteArray} {k e : Int} {r : List (List UInt8)} (h : ActRd k e) (hw : ws.map bL = actW k e ++ r) :
    ∃ x ws', ws = x :: ws' ∧ ((k = 1 ∧ e = 0 ∧ bL x = wAllow ∧ ws'.map bL = r) ∨ (k = 3 ∧ e = 0 ∧ bL x = wKill ∧ ws'.map bL = r) ∨ (k = 2 ∧ 0 ≤ e ∧ e < 1000 ∧ bL x = wDeny ∧ ws'.map bL = Lib.decDigits e.toNat :: r)) := by
  cases ws with
  | nil => rcases h with ⟨rfl, rfl⟩ | ⟨rfl, rfl⟩ | ⟨rfl, _, _⟩ <;> simp [actW] at hw
  | cons x ws' =>
    refine ⟨x, ws', rfl, ?_⟩
    rcases h with ⟨rfl, rfl⟩ | ⟨rfl, rfl⟩ | ⟨rfl, h1, h2⟩ <;> simp [actW] at hw
    · exact .inl ⟨rfl, rfl, hw⟩
    · exact .inr (.inl ⟨rfl, rfl, hw⟩)
    · exact .inr (.inr ⟨rfl, h1, h2, hw⟩)
theorem bL_inj {a : ByteArray} {l : List UInt8} (h : bL a = l) : a = ⟨l.toArray⟩ := by
  subst h; unfold bL; simp
theorem act_fin {w W : World} {H b : Nat} {ws : List ByteArray} {bad : Bool} (c0 c1 : Value) (hH : H ≤ w.heap.size) (hW : WordsAt W H b ws bad) (hg : w.grownBy W (some b)) :
    WordsAt ((W.setCell ⟨w.heap.size, 0, none⟩ c0).setCell ⟨w.heap.size, 1, none⟩ c1) H b ws bad ∧ w.grownBy ((W.setCell ⟨w.heap.size, 0, none⟩ c0).setCell ⟨w.heap.size, 1, none⟩ c1) (some b) := by
  have h1 : Below w.heap.size W (W.setCell ⟨w.heap.size, 0, none⟩ c0) := (Below.refl w.heap.size W).setCell (p := ⟨w.heap.size, 0, none⟩) (Nat.le_refl _) c0
  have hb := h1.setCell (p := ⟨w.heap.size, 1, none⟩) (Nat.le_refl _) c1
  exact ⟨hW.below hb hH, growB hg hb⟩
theorem store2 {w : World} {b : Nat} {t : TypeId} {a0 a1 : Value} (h : w.heap[b]? = some (.cells #[a0, a1] t (0, 0))) (c0 c1 : Value) :
    ((w.setCell ⟨b, 0, none⟩ c0).setCell ⟨b, 1, none⟩ c1).cell? ⟨b, 0, none⟩ = some c0 ∧ ((w.setCell ⟨b, 0, none⟩ c0).setCell ⟨b, 1, none⟩ c1).cell? ⟨b, 1, none⟩ = some c1 := by
  have e1 : (w.setCell ⟨b, 0, none⟩ c0).heap[b]? = some (.cells #[c0, a1] t (0, 0)) := by
    have := heap_setCell_same w b 0 _ _ c0 h; simpa using this
  have e2 : ((w.setCell ⟨b, 0, none⟩ c0).setCell ⟨b, 1, none⟩ c1).heap[b]? = some (.cells #[c0, c1] t (0, 0)) := by
    have := heap_setCell_same _ b 1 _ _ c1 e1; simpa using this
  exact ⟨(cell_of_row _ _ _ _ _ _ e2).trans rfl, (cell_of_row _ _ _ _ _ _ e2).trans rfl⟩
theorem row2 {w : World} {b : Nat} {t : TypeId} {a0 a1 : Value} (h : w.heap[b]? = some (.cells #[a0, a1] t (0, 0))) : w.cell? ⟨b, 0, none⟩ = some a0 ∧ w.cell? ⟨b, 1, none⟩ = some a1 ∧ w.frozen? ⟨b, 0, none⟩ = false ∧ w.frozen? ⟨b, 1, none⟩ = false :=
  ⟨(cell_of_row _ _ _ _ _ _ h).trans rfl, (cell_of_row _ _ _ _ _ _ h).trans rfl, frozen_of_row _ _ _ _ _ h, frozen_of_row _ _ _ _ _ h⟩
theorem act_fwd {ws : List ByteArray} {k e : Int} {r : List (List UInt8)} (h : ActRd k e) (hw : ws.map bL = actW k e ++ r) :
    ws.isEmpty = false ∧ ((k = 1 ∧ e = 0 ∧ ws.headD ByteArray.empty = ⟨#[97, 108, 108, 111, 119]⟩ ∧ ws.tail.map bL = r) ∨ (k = 3 ∧ e = 0 ∧ ws.headD ByteArray.empty = ⟨#[107, 105, 108, 108]⟩ ∧ ws.tail.map bL = r) ∨ (k = 2 ∧ 0 ≤ e ∧ e < 1000 ∧ ws.headD ByteArray.empty = ⟨#[100, 101, 110, 121]⟩ ∧ ws.tail.map bL = Lib.decDigits e.toNat :: r)) := by
  obtain ⟨x, ws', rfl, h⟩ := act_head h hw
  refine ⟨rfl, ?_⟩
  rcases h with ⟨a, b, c, d⟩ | ⟨a, b, c, d⟩ | ⟨a, b, c, d, e⟩
  · exact .inl ⟨a, b, bL_inj c, d⟩
  · exact .inr (.inl ⟨a, b, bL_inj c, d⟩)
  · exact .inr (.inr ⟨a, b, c, bL_inj d, e⟩)
/-- What action answers. -/
def ActA (w : World) (H b : Nat) (ws : List ByteArray) (bad : Bool) (e : Ending) (w' : World) : Prop :=
  ∃ (k x : Int) (j : Nat) (bad' : Bool), e = .returned (.agg #[.int .i64 k, .int .i64 x]) ∧ WordsAt w' H b (ws.drop j) bad' ∧ w.grownBy w' (some b) ∧
    (∀ (k0 e0 : Int) (r : List (List UInt8)), bad = false → ActRd k0 e0 → e0 ≤ 255 → ws.map bL = actW k0 e0 ++ r → k = k0 ∧ x = e0 ∧ bad' = false ∧ (ws.drop j).map bL = r)

set_option linter.unusedSimpArgs false in
set_option maxHeartbeats 2000000 in
theorem action_any (HN : NumSaid) (w0 : World) (H b : Nat) (ws : List ByteArray) (bad : Bool) (w : World) (hG : Grd w0) (hB : Below w0.heap.size w0 w) (hb : w0.heap.size ≤ b) (hH : H ≤ w.heap.size) (h : WordsAt w H b ws bad) (hl : ws.length ≤ 1000000) (hs : ∀ x ∈ ws, x.size ≤ 1000000) :
    Calls Tryd.prog 35 #[.pointer (some ⟨b, 0, none⟩)] w (ActA w H b ws bad) := by
  have hbw : b < w.heap.size := Nat.lt_of_lt_of_le h.1 hH
  have HA := Lib.hid (fun k e r => act_fwd (ws := ws) (k := k) (e := e) (r := r))
  have HD1 : Hid (ws.drop 1 = ws.tail) := List.drop_one
  have HD2 : Hid (ws.drop 2 = ws.tail.tail) := by show _ = _; cases ws with | nil => rfl | cons x t => cases t <;> rfl
  obtain ⟨W0, hW0⟩ : ∃ W0, W0 = w.alloc (.cells #[.int .i64 0, .int .i64 0] 38) := ⟨_, rfl⟩
  have hb0 : Below w.heap.size w W0 := by rw [hW0]; exact (Below.refl _ _).alloc (Nat.le_refl _) _
  have hs0 : W0.heap.size = w.heap.size + 1 := by rw [hW0]; simp
  have hr0 : W0.heap[w.heap.size]? = some (.cells #[.int .i64 0, .int .i64 0] 38 (0, 0)) := by rw [hW0]; exact heap_alloc_new _ _
  have HK : Hid (∀ W1, W0.grownBy W1 (some b) → W1.heap[w.heap.size]? = some (.cells #[.int .i64 0, .int .i64 0] 38 (0, 0)) ∧ w.grownBy W1 (some b) ∧ Below w0.heap.size w0 W1) := fun W1 hg =>
    ⟨(hg.block _ (by omega) (by simp; omega)).trans hr0, grown_trans (grown_of_below hb0) hg, below_of_grown (hB.trans (hb0.mono (by have := hB.size; omega))) hg hb (by have := hB.size; omega)⟩
  have HNX := Lib.hid (next_any H b ws bad W0 (h.below hb0 hH) hl)
  have HNM := Lib.hid (fun W1 bad1 (hw1 : WordsAt W1 H b ws.tail bad1) (hg1 : W0.grownBy W1 (some b)) => HN w0 H b ws.tail bad1 W1 hG (HK.out W1 hg1).2.2 hb (Nat.le_trans hH (HK.out W1 hg1).2.1.size) hw1 (by simp; omega) (fun x hx => hs x (List.mem_of_mem_tail hx)))
  have HFIN := Lib.hid (fun W ws' bad' c0 c1 (h1 : WordsAt W H b ws' bad') (h2 : w.grownBy W (some b)) => act_fin (w := w) c0 c1 hH h1 h2)
  clear h hs hG hB hb hH hb0 hr0 HN
  generalize ws.headD ByteArray.empty = X at *
  generalize ws.isEmpty = E at *
  generalize ws.tail = T at *
  go_enter Tryd.func35, Tryd.ntmps35
  go_upto_region 2 with (go_at_call 34; rw [← hW0]; refine cargs (by simp [Act.eval]) (HNX.out.mono ?_); rintro e w1 ⟨rfl, hw1, hg1⟩; have HW1 := Lib.hid hw1; have HG1 := Lib.hid hg1; clear hw1 hg1)
  clear HNX hW0
  obtain ⟨hr1, hgw1, _⟩ := HK.out w1 HG1.out
  have HR1 := Lib.hid hr1
  have HGW1 := Lib.hid hgw1
  have hrow := row2 hr1
  clear hr1 hgw1
  by_cases ha : X = ⟨#[97, 108, 108, 111, 119]⟩
  · subst ha
    obtain ⟨r0, r1, z0, z1⟩ := hrow
    obtain ⟨y0, y1⟩ := store2 HR1.out (.int .i64 1) (.int .i64 0)
    have ta : ((⟨#[97, 108, 108, 111, 119]⟩ : ByteArray).toList == [97, 108, 108, 111, 119]) = true := by rw [tl_eq]; decide
    go_wp2_with fail
    try simp only [Exit.inBlock, Exit.then]
    refine bodyPost_ret (by simp [results, Tryd.results35, go_sem, y0, y1]; try rfl) rfl ?_
    obtain ⟨hf1, hf2⟩ := HFIN.out _ _ _ (.int .i64 1) (.int .i64 0) HW1.out HGW1.out
    refine ⟨1, 0, 1, _, rfl, by rw [HD1.out]; exact hf1, hf2, fun k0 e0 r hbad hrd he hws => ?_⟩
    obtain ⟨q0, ⟨q1, q2, _, q4⟩ | ⟨_, _, q3, _⟩ | ⟨_, _, _, q3, _⟩⟩ := HA.out k0 e0 r hrd hws
    · exact ⟨q1.symm, q2.symm, by rw [hbad, q0]; rfl, by rw [HD1.out]; exact q4⟩
    · exact absurd q3 (by decide)
    · exact absurd q3 (by decide)
  · have t1 : (X.toList == [97, 108, 108, 111, 119]) = false := tl_ne ha
    by_cases hk : X = ⟨#[107, 105, 108, 108]⟩
    · subst hk
      obtain ⟨r0, r1, z0, z1⟩ := hrow
      obtain ⟨y0, y1⟩ := store2 HR1.out (.int .i64 3) (.int .i64 0)
      go_wp2_with fail
      try simp only [Exit.inBlock, Exit.then]
      refine bodyPost_ret (by simp [results, Tryd.results35, go_sem, y0, y1]; try rfl) rfl ?_
      obtain ⟨hf1, hf2⟩ := HFIN.out _ _ _ (.int .i64 3) (.int .i64 0) HW1.out HGW1.out
      refine ⟨3, 0, 1, _, rfl, by rw [HD1.out]; exact hf1, hf2, fun k0 e0 r hbad hrd he hws => ?_⟩
      obtain ⟨q0, ⟨_, _, q3, _⟩ | ⟨q1, q2, _, q4⟩ | ⟨_, _, _, q3, _⟩⟩ := HA.out k0 e0 r hrd hws
      · exact absurd q3 (by decide)
      · exact ⟨q1.symm, q2.symm, by rw [hbad, q0]; rfl, by rw [HD1.out]; exact q4⟩
      · exact absurd q3 (by decide)
    · have t2 : (X.toList == [107, 105, 108, 108]) = false := tl_ne hk
      by_cases hd : X = ⟨#[100, 101, 110, 121]⟩
      · subst hd
        have HN1 := Lib.hid (HNM.out w1 _ HW1.out HG1.out)
        clear hrow HNM
        go_upto_region 8 with (go_at_call 50; refine cargs (by simp [Act.eval]) (HN1.out.mono ?_); rintro e w2 ⟨n, bad2, rfl, hn, hw2, hg2, hfw⟩; have HW2 := Lib.hid hw2; have HG2 := Lib.hid hg2; have HFW := Lib.hid hfw; clear hw2 hg2 hfw)
        obtain ⟨hr2, hgw2, _⟩ := HK.out w2 (grown_trans HG1.out HG2.out)
        have HR2 := Lib.hid hr2
        have HGW2 := Lib.hid hgw2
        obtain ⟨r0, r1, z0, z1⟩ := row2 (hr2)
        obtain ⟨_, _, _, b1, _, bz⟩ := HW2.out.cells
        obtain ⟨N, rfl⟩ : ∃ N : Nat, n = N := ⟨n.toNat, by omega⟩
        have hN : N < 18446744073709551616 := by omega
        have a5 := and255_big N hN
        have HM : Hid (N ≤ 255 → N % 256 = N) := fun h => by omega
        have hM : N % 256 ≤ 255 := by omega
        generalize N % 256 = M at *
        have HFN : Hid (∀ (W : World) (bad3 : Bool), W = w2.setCell ⟨b, 1, none⟩ (.bool bad3) → (bad2 = false → N ≤ 255 → bad3 = false) → ActA w H b ws bad (.returned (.agg #[.int .i64 2, .int .i64 M])) ((W.setCell ⟨w.heap.size, 0, none⟩ (.int .i64 2)).setCell ⟨w.heap.size, 1, none⟩ (.int .i64 M))) := fun W bad3 hW hb3 => by
          subst hW
          obtain ⟨hf1, hf2⟩ := HFIN.out _ _ _ (.int .i64 2) (.int .i64 M) (HW2.out.setBad bad3) (grown_trans HGW2.out (grown_set w2 b 1 (.bool bad3)))
          refine ⟨2, M, 2, bad3, rfl, by rw [HD2.out]; exact hf1, hf2, fun k0 e0 r hbad hrd he hws => ?_⟩
          obtain ⟨q0, ⟨_, _, q3, _⟩ | ⟨_, _, q3, _⟩ | ⟨q1, q2, q3, _, q5⟩⟩ := HA.out k0 e0 r hrd hws
          · exact absurd q3 (by decide)
          · exact absurd q3 (by decide)
          · obtain ⟨k1, k2⟩ := HFW.out e0.toNat r (by omega) q5
            have k3 := HM.out (by omega)
            refine ⟨q1.symm, by omega, hb3 (by rw [k2, hbad, q0]; rfl) (by omega), ?_⟩
            rw [HD2.out, List.map_tail, q5]; rfl
        have HY := Lib.hid (fun bad3 => store2 ((heap_setCell_other w2 ⟨b, 1, none⟩ w.heap.size (.bool bad3) (fun e => by simp at e; omega)).trans hr2) (.int .i64 2) (.int .i64 M))
        have HZ := Lib.hid (fun bad3 => row2 ((heap_setCell_other w2 ⟨b, 1, none⟩ w.heap.size (.bool bad3) (fun e => by simp at e; omega)).trans hr2))
        clear hr2 hgw2 HA HM
        cases bad2 with
        | true =>
          obtain ⟨y0, y1⟩ := HY.out true
          obtain ⟨r0', r1', z0', z1'⟩ := HZ.out true
          go_wp2_with fail
          try simp only [Exit.inBlock, Exit.then]
          refine bodyPost_ret (by simp [results, Tryd.results35, go_sem, y0, y1]; try rfl) rfl ?_
          exact HFN.out _ true rfl (fun h => by simp at h)
        | false =>
          by_cases hgt : 255 < N
          · have t5 : (255 : Int) < (N : Int) := by omega
            obtain ⟨y0, y1⟩ := HY.out true
            obtain ⟨r0', r1', z0', z1'⟩ := HZ.out true
            go_wp2_with fail
            try simp only [Exit.inBlock, Exit.then]
            refine bodyPost_ret (by simp [results, Tryd.results35, go_sem, y0, y1]; try rfl) rfl ?_
            exact HFN.out _ true rfl (fun _ h => by omega)
          · have t5 : ¬ (255 : Int) < (N : Int) := by omega
            obtain ⟨y0, y1⟩ := HY.out false
            obtain ⟨r0', r1', z0', z1'⟩ := HZ.out false
            go_wp2_with fail
            try simp only [Exit.inBlock, Exit.then]
            refine bodyPost_ret (by simp [results, Tryd.results35, go_sem, y0, y1]; try rfl) rfl ?_
            exact HFN.out _ false rfl (fun _ _ => rfl)
      · have t3 : (X.toList == [100, 101, 110, 121]) = false := tl_ne hd
        have HX := Lib.hid (And.intro ha (And.intro hk hd))
        clear hd hk ha
        obtain ⟨_, _, _, b1, _, bz⟩ := HW1.out.cells
        have HR2 := Lib.hid ((heap_setCell_other w1 ⟨b, 1, none⟩ w.heap.size (.bool true) (fun e => by simp at e; omega)).trans HR1.out)
        obtain ⟨r0, r1, z0, z1⟩ := row2 HR2.out
        obtain ⟨y0, y1⟩ := store2 HR2.out (.int .i64 0) (.int .i64 0)
        go_wp2_with fail
        try simp only [Exit.inBlock, Exit.then]
        refine bodyPost_ret (by simp [results, Tryd.results35, go_sem, y0, y1]; try rfl) rfl ?_
        obtain ⟨hf1, hf2⟩ := HFIN.out _ _ _ (.int .i64 0) (.int .i64 0) (HW1.out.setBad true) (grown_trans HGW1.out (grown_set w1 b 1 (.bool true)))
        refine ⟨0, 0, 1, _, rfl, by rw [HD1.out]; exact hf1, hf2, fun k0 e0 r hbad hrd he hws => ?_⟩
        exfalso
        obtain ⟨q0, ⟨_, _, q3, _⟩ | ⟨_, _, q3, _⟩ | ⟨_, _, _, q3, _⟩⟩ := HA.out k0 e0 r hrd hws
        · exact HX.out.1 q3
        · exact HX.out.2.1 q3
        · exact HX.out.2.2 q3
end Go.Proofs.YtmgngapkgcofnabDoor
