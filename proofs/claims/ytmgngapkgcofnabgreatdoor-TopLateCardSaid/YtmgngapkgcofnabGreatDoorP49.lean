/- ward.New: the walk. -/
import Derived.Test.YtmgngapkgcofnabGreatDoorP46
import Derived.Test.YtmgngapkgcofnabGreatDoorP35
import Derived.Test.YtmgngapkgcofnabGreatDoorP12
namespace Go.Proofs.YtmgngapkgcofnabGreatDoor
open Go.RowKit Go.PlainAid
theorem comp_okW {v : Value} {p : PolD} {w : World} (hp : polF p = 0) (hr : RightP p) (hc : Calls Tryz.prog 35 #[v] w (CompR p w)) : Calls Tryz.prog 35 #[v] w fun e w' => ∃ A c, e = .returned (.tuple #[.slice A (progL p).length c, .nilIface]) ∧ Hid (InsSl w' w'.heap.size (.slice A (progL p).length c) (progL p)) ∧ Below w.heap.size w w' :=
 hc.mono fun e w' ⟨h1, h2⟩ => by
  rw [if_pos hp] at h2; obtain ⟨u, B, rfl, _, ho⟩ := h2; obtain ⟨A, c, rfl⟩ := own_form2 ho; exact ⟨A, c, rfl, insSl_of_own ho (prog_right hr).1, h1⟩
theorem comp_badW {v : Value} {p : PolD} {w : World} (hp : polF p ≠ 0) (hc : Calls Tryz.prog 35 #[v] w (CompR p w)) : Calls Tryz.prog 35 #[v] w fun e w' => e = .returned (.tuple #[.slice none 0 0, .iface 105 (.int .i64 (polF p))]) ∧ Below w.heap.size w w' :=
 hc.mono fun e w' ⟨h1, h2⟩ => by
  rw [if_neg hp, errV_pos hp] at h2; exact ⟨h2, h1⟩
def newCells (hd : List Value) : List Value := hd ++ (zeroThr.toList ++ (zeroThr.toList ++ (zeroThr.toList ++ [.slice none 0 0])))
theorem newCells_at (a b c d e : Value) : ∀ i, i < 90 → wardCell [a, b, c, d, e] (.slice none 0 0) (fun _ => ThrS.zero) (fun _ => .slice none 0 0) (fun _ => .slice none 0 0) i = (newCells [a, b, c, d, e]).getD i undef := by
 have hz : zeroThr.toList.length = 28 := rfl; intro i hi; unfold newCells; rw [List.getD_eq_getElem?_getD]
 by_cases h5 : i < 5
 ·rw [List.getElem?_append_left (by simpa using h5)]; unfold wardCell; rw [if_pos h5, List.getD_eq_getElem?_getD]
 ·rw [List.getElem?_append_right (by simp; omega)]
  by_cases h89 : i < 89
  ·obtain ⟨n, j, hn, hj, rfl⟩ : ∃ n j, n < 3 ∧ j < 28 ∧ i = 5 + n * 28 + j := ⟨(i - 5) / 28, (i - 5) % 28, by omega, by omega, by omega⟩
   rw [wardCell_thr _ _ _ _ _ hn hj, zeroThr_is, List.getD_eq_getElem?_getD]; have e5 : ([a, b, c, d, e] : List Value).length = 5 := rfl; rw [e5]; have h3 : n = 0 ∨ n = 1 ∨ n = 2 := by omega
   rcases h3 with rfl | rfl | rfl
   ·rw [List.getElem?_append_left (by rw [hz]; omega)]; rw [show 5 + 0 * 28 + j - 5 = j from by omega]
   ·rw [List.getElem?_append_right (by rw [hz]; omega), List.getElem?_append_left (by rw [hz]; omega), hz]; rw [show 5 + 1 * 28 + j - 5 - 28 = j from by omega]
   ·rw [List.getElem?_append_right (by rw [hz]; omega), List.getElem?_append_right (by rw [hz]; omega), List.getElem?_append_left (by rw [hz]; omega), hz]; rw [show 5 + 2 * 28 + j - 5 - 28 - 28 = j from by omega]
  ·obtain rfl : i = 89 := by omega
   rfl
theorem wardNew_ok : WardS.new.ok := ⟨fun _ => zeroT_ok, by show ([] : List EntD).length ≤ _; simp⟩
theorem newW_cells (a b c d e : Value) : ((((Tryz.zeroCells102.setIfInBounds 0 a).setIfInBounds 1 b).setIfInBounds 2 c).setIfInBounds 3 d).setIfInBounds 4 e = (newCells [a, b, c, d, e]).toArray := by
 have h : Tryz.zeroCells102 = (newCells [.slice none 0 0, .int .i64 0, .int .i64 0, .slice none 0 0, .pointer none]).toArray := by kernel_rfl
 rw [h]; rfl
set_option linter.unusedSimpArgs false in
set_option maxRecDepth 100000 in
set_option maxHeartbeats 8000000 in
theorem wardNew_any (HN : NumSaid) (v : Value) (p : PolD) (w : World) (h : PolAt w w.heap.size v p) (hS : Shelf0 w) (hg : ∀ r ∈ p.rules, ∀ c ∈ r.conds, c.glob.size ≤ 4096) (hl : p.rules.length ≤ 4096) (hcl : ∀ r ∈ p.rules, r.conds.length ≤ 4096) :
  Calls Tryz.prog 12 #[v] w fun e w' => Below w.heap.size w w' ∧ ((polF p ≠ 0 ∧ e = .returned (.tuple #[.pointer none, errV (polF p)])) ∨ (polF p = 0 ∧ ∃ g H, e = .returned (.tuple #[.pointer (some ⟨g, 0, none⟩), .nilIface]) ∧ w.heap.size ≤ H ∧ WardAt w' H (fun k => H ≤ k) g p WardS.new)) := by
 have hpol := h; obtain ⟨A, cp, rfl, _⟩ := h; have hb1 : Below w.heap.size w (w.alloc (.cells #[.slice A p.rules.length cp, .int .i64 p.kind, .int .i64 p.errno] 26)) := (Below.refl _ _).alloc (Nat.le_refl _) _; have HT0 := Lib.hid (cell3 w (.slice A p.rules.length cp) (.int .i64 p.kind) (.int .i64 p.errno) 26)
 have HUP := Lib.hid (fun W (hb : Below (w.alloc (.cells #[.slice A p.rules.length cp, .int .i64 p.kind, .int .i64 p.errno] 26)).heap.size (w.alloc (.cells #[.slice A p.rules.length cp, .int .i64 p.kind, .int .i64 p.errno] 26)) W) => hb1.trans (hb.mono hb1.size)); have HPP := Lib.hid (fun W (hb : Below w.heap.size w W) => polAt_up hpol hb)
 have HCO : Hid (∀ W, Below w.heap.size w W → Calls Tryz.prog 35 #[.agg #[.slice A p.rules.length cp, .int .i64 p.kind, .int .i64 p.errno]] W (CompR p W)) := fun W hb => compile_any _ _ W (HPP.out W hb) (fun r hr c hc => by have := hg r hr c hc; omega) (by omega) (fun r hr => by have := hcl r hr; omega)
 by_cases hf : polF p = 0
 ·have hR := rightP_of hpol hf; have hok := polOk_of hpol
  have HC1 : Hid (∀ W, Below w.heap.size w W → Calls Tryz.prog 35 #[.agg #[.slice A p.rules.length cp, .int .i64 p.kind, .int .i64 p.errno]] W fun e w' => ∃ A c, e = .returned (.tuple #[.slice A (progL p).length c, .nilIface]) ∧ Hid (InsSl w' w'.heap.size (.slice A (progL p).length c) (progL p)) ∧ Below W.heap.size W w') := fun W hb => comp_okW hf hR (HCO.out W hb)
  have HTX : Hid (∀ W, Below w.heap.size w W → Calls Tryz.prog 36 #[.agg #[.slice A p.rules.length cp, .int .i64 p.kind, .int .i64 p.errno]] W fun e w' => e = .returned (.tuple #[.string ⟨(polT p).toArray⟩, .nilIface]) ∧ Below W.heap.size W w') := fun W hb => by
   have := polText_any _ _ W (HPP.out W hb) (fun r hr c hc => by have := hg r hr c hc; omega) (by omega) (fun r hr => by have := hcl r hr; omega) (hS.up hb).tab; rw [if_pos hf, hf, errV_zero] at this; exact this
  have HPA : Hid (∀ W, Below w.heap.size w W → Calls Tryz.prog 37 #[.string ⟨(polT p).toArray⟩] W fun e w' => ∃ (A4 : Option Addr) (c4 : Nat), e = .returned (.tuple #[.agg #[.slice A4 p.rules.length c4, .int .i64 p.kind, .int .i64 p.errno], .nilIface]) ∧ PolAt w' w'.heap.size (.agg #[.slice A4 p.rules.length c4, .int .i64 p.kind, .int .i64 p.errno]) p ∧ Below W.heap.size W w') := fun W hb => parse_text HN p W hok hf (hS.up hb)
  have HFIN : Hid (∀ (W w5 : World) (A4 : Option Addr) (c4 : Nat) (Ap : Option Addr) (cpp : Nat), w.heap.size ≤ W.heap.size → PolAt W W.heap.size (.agg #[.slice A4 p.rules.length c4, .int .i64 p.kind, .int .i64 p.errno]) p → InsSl W W.heap.size (.slice Ap (progL p).length cpp) (progL p) → w5.heap.size = W.heap.size + 1 → (∀ B : Nat → Prop, B W.heap.size → MemAt w5 B W.heap.size MemS.new) → Below W.heap.size W w5 →
    ∀ w6, w6 = w5.alloc (.cells (newCells [.slice A4 p.rules.length c4, .int .i64 p.kind, .int .i64 p.errno, .slice Ap (progL p).length cpp, .pointer (some ⟨W.heap.size, 0, none⟩)]).toArray 102) → WardAt w6 W.heap.size (fun k => W.heap.size ≤ k) w5.heap.size p WardS.new ∧ Below W.heap.size W w6) := by
   intro W w5 A4 c4 Ap cpp hW hp5 hi5 hsz hm hb w6 h6; subst h6; have hb6 : Below w5.heap.size w5 (w5.alloc (.cells (newCells [.slice A4 p.rules.length c4, .int .i64 p.kind, .int .i64 p.errno, .slice Ap (progL p).length cpp, .pointer (some ⟨W.heap.size, 0, none⟩)]).toArray 102)) := (Below.refl _ _).alloc (Nat.le_refl _) _; have hbW := hb.trans (hb6.mono hb.size)
   refine ⟨⟨by show W.heap.size ≤ w5.heap.size; omega, fun k hk => hk, wardNew_ok, A4, c4, Ap, cpp, W.heap.size, .slice none 0 0, fun _ => .slice none 0 0, fun _ => .slice none 0 0, ⟨?_, hp5.low hbW, hi5.below hbW, (hm (fun k => W.heap.size ≤ k) (Nat.le_refl _)).grown (growBl (r := none) hb6) (fun b e => by cases e), by omega, fun n hn => RowB.nil _ _ _ _, fun n hn => RowB.nil _ _ _ _, RowB.nil _ _ _ _, fun n k _ _ _ => .inl rfl, fun n k _ _ _ => .inl rfl⟩⟩, hbW⟩
   have hnew := heap_alloc_new w5 (.cells (newCells [.slice A4 p.rules.length c4, .int .i64 p.kind, .int .i64 p.errno, .slice Ap (progL p).length cpp, .pointer (some ⟨W.heap.size, 0, none⟩)]).toArray 102)
   have hr : rowOf 90 (fun i => ((newCells [.slice A4 p.rules.length c4, .int .i64 p.kind, .int .i64 p.errno, .slice Ap (progL p).length cpp, .pointer (some ⟨W.heap.size, 0, none⟩)]).toArray).getD i undef) = (newCells [.slice A4 p.rules.length c4, .int .i64 p.kind, .int .i64 p.errno, .slice Ap (progL p).length cpp, .pointer (some ⟨W.heap.size, 0, none⟩)]).toArray := rowOf_of _
   have hblk : BlkAt (w5.alloc (.cells (newCells [.slice A4 p.rules.length c4, .int .i64 p.kind, .int .i64 p.errno, .slice Ap (progL p).length cpp, .pointer (some ⟨W.heap.size, 0, none⟩)]).toArray 102)) w5.heap.size 102 90 (fun i => ((newCells [.slice A4 p.rules.length c4, .int .i64 p.kind, .int .i64 p.errno, .slice Ap (progL p).length cpp, .pointer (some ⟨W.heap.size, 0, none⟩)]).toArray).getD i undef) := by
    unfold BlkAt; rw [hr]; exact hnew
   refine hblk.same (fun i hi => ?_); have := newCells_at (.slice A4 p.rules.length c4) (.int .i64 p.kind) (.int .i64 p.errno) (.slice Ap (progL p).length cpp) (.pointer (some ⟨W.heap.size, 0, none⟩)) i hi; show _ = wardCell _ _ (fun _ => ThrS.zero) _ _ i; rw [this, Array.getD_eq_getD_getElem?, List.getD_eq_getElem?_getD, List.getElem?_toArray]
  have HB0 : Hid (Below (w.alloc (.cells #[.slice A p.rules.length cp, .int .i64 p.kind, .int .i64 p.errno] 26)).heap.size (w.alloc (.cells #[.slice A p.rules.length cp, .int .i64 p.kind, .int .i64 p.errno] 26)) (w.alloc (.cells #[.slice A p.rules.length cp, .int .i64 p.kind, .int .i64 p.errno] 26))) := Below.refl _ _; have HWF := Lib.hid hf; obtain ⟨b0, b1, b2⟩ := HT0.out _ HB0.out
  clear hpol hS hg hl hcl hR hok hf HCO HPP hb1; generalize (⟨(polT p).toArray⟩ : ByteArray) = S at *
  obtain ⟨LP, hLP⟩ : ∃ LP, (progL p).length = LP := ⟨_, rfl⟩
  rw [hLP] at HC1 HFIN; go_enter Tryz.func12, Tryz.ntmps12; go_upto_region 1 with fail; generalize w.alloc (.cells #[.slice A p.rules.length cp, .int .i64 p.kind, .int .i64 p.errno] 26) = W0 at *
  have HBW := Lib.hid (HUP.out W0 HB0.out)
  go_upto_region 4 with (first | (go_at_call 35; refine cargs (by simp [Act.eval]) ((HC1.out _ HBW.out).mono ?_); rintro e w1 ⟨Ap, cpp, rfl, hi1, hb1⟩; have HI1 := hi1; have HB1 := Lib.hid hb1; have HW1 := Lib.hid (HUP.out w1 (HB0.out.trans hb1)); obtain ⟨b0, b1, b2⟩ := HT0.out w1 (HB0.out.trans hb1); clear hi1 hb1) | fail)
  go_upto_region 7 with (first | (go_at_call 36; refine cargs (by simp [Act.eval]) ((HTX.out _ HW1.out).mono ?_); rintro e w2 ⟨rfl, hb2⟩; have HI2 := Lib.hid (HI1.out.below hb2); have HZ2 := Lib.hid hb2.size; have HW2 := Lib.hid (HW1.out.trans (hb2.mono HW1.out.size)); clear hb2) | fail)
  go_upto_region 10 with (first | (go_at_call 37; refine cargs (by simp [Act.eval]) ((HPA.out _ HW2.out).mono ?_); rintro e w3 ⟨A4, c4, rfl, hp3, hb3⟩; have HI3 := Lib.hid (HI2.out.below (hb3.mono HZ2.out)); have HZ3 := Lib.hid (Nat.le_trans HZ2.out hb3.size); have HP3 := Lib.hid hp3; have HW3 := Lib.hid (HW2.out.trans (hb3.mono HW2.out.size)); clear hb3 hp3) | fail)
  have HS4 : Hid ((w3.alloc (.cells #[.slice A4 p.rules.length c4, .int .i64 p.kind, .int .i64 p.errno] 26)).heap.size = w3.heap.size + 1) := by show _ = _; simp
  have HT4 := Lib.hid (cell3 w3 (.slice A4 p.rules.length c4) (.int .i64 p.kind) (.int .i64 p.errno) 26); have HP4 := Lib.hid (polAt_up HP3.out (Below.alloc (Below.refl w3.heap.size w3) (Nat.le_refl _) (.cells #[.slice A4 p.rules.length c4, .int .i64 p.kind, .int .i64 p.errno] 26)))
  have HI4 := Lib.hid ((HI3.out.below (Below.alloc (Below.refl w1.heap.size w3) HZ3.out (.cells #[.slice A4 p.rules.length c4, .int .i64 p.kind, .int .i64 p.errno] 26))).mono (Nat.le_trans HZ3.out (Below.alloc (Below.refl w3.heap.size w3) (Nat.le_refl _) (.cells #[.slice A4 p.rules.length c4, .int .i64 p.kind, .int .i64 p.errno] 26)).size))
  have HW4 := Lib.hid (HW3.out.alloc HW3.out.size (.cells #[.slice A4 p.rules.length c4, .int .i64 p.kind, .int .i64 p.errno] 26)); generalize w3.alloc (.cells #[.slice A4 p.rules.length c4, .int .i64 p.kind, .int .i64 p.errno] 26) = W4 at *
  generalize w3.heap.size = N3 at *
  have HFF := Lib.hid (fun w5 => HFIN.out W4 w5 A4 c4 Ap cpp HW4.out.size HP4.out HI4.out); have HMN : Hid (∀ W, Below W4.heap.size W4 W → W.heap.size = W4.heap.size → True) := fun _ _ _ => trivial; clear HFIN HPA HTX HC1 HI1 HI2 HI3 HI4 HP3 HP4 HW1 HW2 HW3 HZ2 HZ3 HUP HB0 HT0 b0 b1 b2 HBW HB1 HMN; obtain ⟨t0, t1, t2⟩ := HT4.out W4 (Below.refl _ _)
  go_region_held3 (fun W : World => W.cell? ⟨N3, 0, none⟩ = some (.slice A4 p.rules.length c4) ∧ W.cell? ⟨N3, 1, none⟩ = some (.int .i64 p.kind) ∧ W.cell? ⟨N3, 2, none⟩ = some (.int .i64 p.errno)) (first | exact HT4.out _ ((Below.refl _ _).trans ⟨rfl, rfl, rfl, Nat.le_refl _, fun _ _ => rfl⟩) | exact HT4.out _ ⟨hb5.os, hb5.tape, hb5.output, hb5.size, hb5.block⟩ | exact HT4.out _ ((show Below W4.heap.size W4 w5 from ⟨hb5.os, hb5.tape, hb5.output, hb5.size, hb5.block⟩).alloc hb5.size _)) (first
   | (go_at_call 38; refine cargs (by simp [Act.eval]) ((memNew_any _).mono ?_); rintro e w5 ⟨rfl, hsz5, hm5, hb5⟩))
  all_goals
   obtain ⟨f1, f2⟩ := HFF.out w5 hsz5 hm5 (show Below W4.heap.size W4 w5 from ⟨hb5.os, hb5.tape, hb5.output, hb5.size, hb5.block⟩) _ rfl; have hN : W4.heap.size + 1 = w5.heap.size := hsz5.symm; rw [newW_cells]; have HFX : Hid (_ ∧ _) := ⟨f1, f2⟩
   clear f1 f2 hm5 hsz5
   go_wp2_with fail
   go_returns
   refine ⟨HW4.out.trans (HFX.out.2.mono HW4.out.size), .inr ⟨HWF.out, w5.heap.size, W4.heap.size, ?_, HW4.out.size, HFX.out.1⟩⟩; simp [go_sem, hN]
   try rfl
 ·have HC1 : Hid (∀ W, Below w.heap.size w W → Calls Tryz.prog 35 #[.agg #[.slice A p.rules.length cp, .int .i64 p.kind, .int .i64 p.errno]] W fun e w' => e = .returned (.tuple #[.slice none 0 0, .iface 105 (.int .i64 (polF p))]) ∧ Below W.heap.size W w') := fun W hb => comp_badW hf (HCO.out W hb)
  have HB0 : Hid (Below (w.alloc (.cells #[.slice A p.rules.length cp, .int .i64 p.kind, .int .i64 p.errno] 26)).heap.size (w.alloc (.cells #[.slice A p.rules.length cp, .int .i64 p.kind, .int .i64 p.errno] 26)) (w.alloc (.cells #[.slice A p.rules.length cp, .int .i64 p.kind, .int .i64 p.errno] 26))) := Below.refl _ _
  have HFN : Hid (∀ W, Below w.heap.size w W → Below w.heap.size w W ∧ ((polF p ≠ 0 ∧ Ending.returned (.tuple #[.pointer none, .iface 105 (.int .i64 (polF p))]) = .returned (.tuple #[.pointer none, errV (polF p)])) ∨ (polF p = 0 ∧ ∃ g H, Ending.returned (.tuple #[.pointer none, .iface 105 (.int .i64 (polF p))]) = .returned (.tuple #[.pointer (some ⟨g, 0, none⟩), .nilIface]) ∧ w.heap.size ≤ H ∧ WardAt W H (fun k => H ≤ k) g p WardS.new))) := fun W hb => ⟨hb, .inl ⟨hf, by rw [errV_pos hf]⟩⟩
  obtain ⟨b0, b1, b2⟩ := HT0.out _ HB0.out; clear hpol hS hg hl hcl HCO HPP hb1; generalize polF p = fx at HC1 HFN ⊢; go_enter Tryz.func12, Tryz.ntmps12; go_upto_region 1 with fail; generalize w.alloc (.cells #[.slice A p.rules.length cp, .int .i64 p.kind, .int .i64 p.errno] 26) = W0 at *
  have HBW := Lib.hid (HUP.out W0 HB0.out)
  go_wp2_with (first | (go_at_call 35; refine cargs (by simp [Act.eval]) ((HC1.out _ HBW.out).mono ?_); rintro e w1 ⟨rfl, hb1⟩; have HW1 := Lib.hid (HBW.out.trans (hb1.mono HBW.out.size)); clear hb1) | fail)
  go_returns
  exact HFN.out _ HW1.out
end Go.Proofs.YtmgngapkgcofnabGreatDoor
