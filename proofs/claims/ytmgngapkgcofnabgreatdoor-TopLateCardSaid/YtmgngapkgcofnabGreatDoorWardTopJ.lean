/- What an act does to a ward: the walk of did. -/
import Derived.Test.YtmgngapkgcofnabGreatDoorP47
import Derived.Test.YtmgngapkgcofnabGreatDoorP32
import Derived.Test.YtmgngapkgcofnabGreatDoorP36
import Derived.Test.YtmgngapkgcofnabGreatDoorP41
import Derived.Test.YtmgngapkgcofnabGreatDoorP49
import Derived.Test.YtmgngapkgcofnabGreatDoorP11
import Derived.Test.YtmgngapkgcofnabGreatDoorP25
import Derived.Test.YtmgngapkgcofnabGreatDoorP48
namespace Go.Proofs.YtmgngapkgcofnabGreatDoor
open Go.RowKit Go.PlainAid
def stepsS (p : PolD) (S : WardS) (n : Int) : Nat → WardS
 | 0 => S
 | k + 1 => stepS p (stepsS p S n k) n
def didS (p : PolD) (S : WardS) (a : ActD) : WardS :=
 if (a.kind.toList == ([109, 97, 112] : List UInt8)) = true then S.setM (mapS S.m a.n a.wr)
 else if (a.kind.toList == ([117, 110, 109, 97, 112] : List UInt8)) = true then S.setM (unmapS S.m a.n)
 else if (a.kind.toList == ([112, 117, 116] : List UInt8)) = true then S.setM (putS S.m a.a.toNat a.s)
 else if (a.kind.toList == ([101, 110, 116, 101, 114] : List UInt8)) = true then enterS S a.n a.call
 else if (a.kind.toList == ([115, 116, 101, 112, 115] : List UInt8)) = true then stepsS p S a.n (min a.a.toNat 90)
 else stepS p S a.n
structure GoodS (S : WardS) (L : Nat) : Prop where
 thr : ∀ k, GoodT (S.t k)
 few : S.log.length ≤ L
theorem GoodS.mono {S : WardS} {L L' : Nat} (h : GoodS S L) (hl : L ≤ L') : GoodS S L' := ⟨h.thr, Nat.le_trans h.few hl⟩
theorem GoodS.inv {S : WardS} {L : Nat} (h : GoodS S L) : ∀ k, InvT (S.t k) := fun k => (h.thr k).inv
theorem good_new : GoodS WardS.new 0 := ⟨fun _ => good_zero, Nat.le_refl _⟩
theorem stepT_rest {p : PolD} {S : WardS} {n : Nat} (h : (S.t n).phase = 0 ∨ (S.t n).phase = 6) : stepT p S n = S := by
 unfold stepT; rw [if_neg (by omega), if_neg (by omega), if_neg (by omega), if_neg (by omega), if_neg (by omega)]
theorem good_step {p : PolD} (hf : polF p = 0) {S : WardS} {L : Nat} (h : GoodS S L) (n : Int) : GoodS (stepS p S n) (L + 1) := by
 unfold stepS; split
 ·exact h.mono (by omega)
 ·by_cases h0 : (S.t n.toNat).phase = 0 ∨ (S.t n.toNat).phase = 6
  ·rw [stepT_rest h0]; exact h.mono (by omega)
  ·obtain ⟨k1, k2, _, k4⟩ := goes_step hf S n.toNat (h.thr _) (fun e => h0 (.inl e)) (fun e => h0 (.inr e)); refine ⟨fun k => ?_, ?_⟩
   ·by_cases e : k = n.toNat
    ·rw [e]; exact k2
    ·rw [k1 k e]; exact h.thr k
   ·have := h.few; rcases k4 with ⟨e, _⟩ | ⟨e, he, _⟩
    ·rw [e]; omega
    ·rw [he]; simp; omega
theorem good_steps {p : PolD} (hf : polF p = 0) {S : WardS} {L : Nat} (h : GoodS S L) (n : Int) : ∀ k, GoodS (stepsS p S n k) (L + k)
 | 0 => h
 | k + 1 => good_step hf (good_steps hf h n k) n
theorem good_enterS {S : WardS} {L : Nat} (h : GoodS S L) (n : Int) (c : CallD) : GoodS (enterS S n c) L := by
 unfold enterS; split
 ·refine ⟨fun k => ?_, h.few⟩; show GoodT (if k = n.toNat then _ else S.t k); split
  ·exact good_enter c
  ·exact h.thr k
 ·exact h
theorem good_setM {S : WardS} {L : Nat} (h : GoodS S L) (M : MemS) : GoodS (S.setM M) L := ⟨h.thr, h.few⟩
theorem good_did {p : PolD} (hf : polF p = 0) {S : WardS} {L : Nat} (h : GoodS S L) (a : ActD) : GoodS (didS p S a) (L + 90) := by
 unfold didS; split
 ·exact (good_setM h _).mono (by omega)
 ·split
  ·exact (good_setM h _).mono (by omega)
  ·split
   ·exact (good_setM h _).mono (by omega)
   ·split
    ·exact (good_enterS h _ _).mono (by omega)
    ·split
     ·exact (good_steps hf h _ _).mono (by omega)
     ·exact (good_step hf h _).mono (by omega)
set_option linter.unusedSimpArgs false in
set_option maxRecDepth 100000 in
set_option maxHeartbeats 8000000 in
theorem did_any (H : Nat) (B : Nat → Prop) (g : Nat) (p : PolD) (S : WardS) (L : Nat) (a : ActD) (w : World) (h : WardAt w H B g p S) (hf : polF p = 0) (hG : GoodS S L) (hL : L + 91 < 1000000) (hBs : ∀ k, w.heap.size ≤ k → B k) (ha : a.ok) (hs : a.s.size ≤ 4096) :
  Calls Tryz.prog 27 #[.pointer (some ⟨g, 0, none⟩), .agg a.row.toArray] w fun e w' => e = .returned (.tuple #[]) ∧ WardAt w' H B g p (didS p S a) ∧ Frame B w w' := by
 obtain ⟨kind, n, x, s, wr, ⟨arch, nr, a0, a1, a2, a3⟩⟩ := a; obtain ⟨hn, ⟨hx0, hx1⟩, hc, hss, hks⟩ := ha; obtain ⟨x, rfl⟩ : ∃ m : Nat, x = m := ⟨x.toNat, by simp only at hx0; omega⟩
 simp only [ActD.row] at hs hc hx1 ⊢; obtain ⟨R, hR⟩ : ∃ R : Array Value, #[.string kind, .int .i64 n, .int .u64 (x : Int), .string s, .bool wr, .int .u32 arch, .int .u32 nr, .int .u64 a0, .int .u64 a1, .int .u64 a2, .int .u64 a3] = R := ⟨_, rfl⟩
 obtain ⟨N, hN⟩ : ∃ N, w.heap.size = N := ⟨_, rfl⟩
 obtain ⟨B1, hB1⟩ : ∃ B1 : Nat → Prop, B1 = fun k => B k ∧ k ≠ N := ⟨_, rfl⟩
 have hlow := h.low; have h1 : WardAt w H B1 g p S := h.rebase (fun k hk hb => by rw [hB1]; exact ⟨hb, by omega⟩) (fun k hk => by rw [hB1] at hk; exact hlow k hk.1)
 have HDE : Hid (∀ S' w', WardAt w' H B1 g p S' → Frame B1 (w.alloc (.cells R 54)) w' → WardAt w' H B g p S' ∧ Frame B w w') := fun S' w' h2 hf2 => by
  refine ⟨h2.rebase (fun k _ hk => by rw [hB1] at hk; exact hk.1) hlow, (Frame.of_below (((Below.refl _ _).alloc (Nat.le_refl _) _))).trans ⟨hf2.os, hf2.tape, hf2.output, hf2.size, fun k hk hb => hf2.block k hk (fun hk1 => hb (by rw [hB1] at hk1; exact hk1.1))⟩⟩
 have HW0 := Lib.hid (h1.below (((Below.refl w.heap.size w).alloc (Nat.le_refl _) (.cells R 54)))); have hsz0 : (w.alloc (.cells R 54)).heap.size = N + 1 := by rw [← hN]; simp
 have HBS : Hid (∀ k, (w.alloc (.cells R 54)).heap.size ≤ k → B1 k) := fun k hk => by rw [hB1]; exact ⟨hBs k (by omega), by omega⟩
 have HNEW : Hid (∀ W, Frame B1 (w.alloc (.cells R 54)) W → W.heap[N]? = some (.cells R 54 (0, 0))) := fun W hf2 => by
  rw [hf2.block N (by omega) (fun hb => by rw [hB1] at hb; exact hb.2 rfl), ← hN]; exact heap_alloc_new w (.cells R 54)
 have HCL : Hid (∀ W, Frame B1 (w.alloc (.cells R 54)) W → W.cell? ⟨N, 0, none⟩ = some (.string kind) ∧ W.cell? ⟨N, 1, none⟩ = some (.int .i64 n) ∧ W.cell? ⟨N, 2, none⟩ = some (.int .u64 (x : Int)) ∧ W.cell? ⟨N, 3, none⟩ = some (.string s) ∧ W.cell? ⟨N, 4, none⟩ = some (.bool wr) ∧ W.cell? ⟨N, 5, none⟩ = some (.int .u32 arch) ∧ W.cell? ⟨N, 6, none⟩ = some (.int .u32 nr) ∧ W.cell? ⟨N, 7, none⟩ = some (.int .u64 a0) ∧ W.cell? ⟨N, 8, none⟩ = some (.int .u64 a1) ∧ W.cell? ⟨N, 9, none⟩ = some (.int .u64 a2) ∧ W.cell? ⟨N, 10, none⟩ = some (.int .u64 a3)) := fun W hf2 => by
  have hh := HNEW.out W hf2; subst hR
  exact ⟨(cell_of_row _ _ _ _ _ _ hh).trans rfl, (cell_of_row _ _ _ _ _ _ hh).trans rfl, (cell_of_row _ _ _ _ _ _ hh).trans rfl, (cell_of_row _ _ _ _ _ _ hh).trans rfl, (cell_of_row _ _ _ _ _ _ hh).trans rfl, (cell_of_row _ _ _ _ _ _ hh).trans rfl, (cell_of_row _ _ _ _ _ _ hh).trans rfl, (cell_of_row _ _ _ _ _ _ hh).trans rfl, (cell_of_row _ _ _ _ _ _ hh).trans rfl, (cell_of_row _ _ _ _ _ _ hh).trans rfl, (cell_of_row _ _ _ _ _ _ hh).trans rfl⟩
 obtain ⟨D, hD⟩ : ∃ D, didS p S ⟨kind, n, (x : Int), s, wr, ⟨arch, nr, a0, a1, a2, a3⟩⟩ = D := ⟨_, rfl⟩
 have hD2 := hD; unfold didS at hD2; simp only [Int.toNat_natCast] at hD2; rw [hD]; have HCN := HCL.out _ (Frame.refl _ _); clear hD h1 h hlow HNEW hBs; have HF0 : Hid (Frame B1 (w.alloc (.cells R 54)) (w.alloc (.cells R 54))) := Frame.refl _ _; obtain ⟨c0, c1, c2, c3, c4, c5, c6, c7, c8, c9, c10⟩ := HCN
 cases q0 : (kind.toList == ([109, 97, 112] : List UInt8)) with
 | true =>
  as_aux_lemma =>
   have HD : Hid (S.setM (mapS S.m n wr) = D) := by rw [q0] at hD2; exact hD2
   have HC := Lib.hid (wardMap_any H B1 g p S n wr _ HW0.out); clear hD2 HCL HBS; go_enter Tryz.func27, Tryz.ntmps27
   go_wp2_with (first | (go_at_call 17; refine cargs (by simp [Act.eval]) (HC.out.mono ?_); rintro e w5 ⟨rfl, hx⟩; have HX := Lib.hid (HDE.out _ _ hx.1 hx.2); clear hx) | fail)
   go_returns
   exact ⟨rfl, by rw [← HD.out]; exact HX.out.1, HX.out.2⟩
 | false =>
  cases q1 : (kind.toList == ([117, 110, 109, 97, 112] : List UInt8)) with
  | true =>
   as_aux_lemma =>
    have HD : Hid (S.setM (unmapS S.m n) = D) := by rw [q0, q1] at hD2; exact hD2
    have HC := Lib.hid (wardUnmap_any H B1 g p S n _ HW0.out); clear hD2 HCL HBS; go_enter Tryz.func27, Tryz.ntmps27
    go_wp2_with (first | (go_at_call 49; refine cargs (by simp [Act.eval]) (HC.out.mono ?_); rintro e w5 ⟨rfl, hx⟩; have HX := Lib.hid (HDE.out _ _ hx.1 hx.2); clear hx) | fail)
    go_returns
    exact ⟨rfl, by rw [← HD.out]; exact HX.out.1, HX.out.2⟩
  | false =>
   cases q2 : (kind.toList == ([112, 117, 116] : List UInt8)) with
   | true =>
    as_aux_lemma =>
     have HD : Hid (S.setM (putS S.m x s) = D) := by rw [q0, q1, q2] at hD2; exact hD2
     have HC := Lib.hid (wardPut_any H B1 g p S x s _ HW0.out hs); clear hD2 HCL HBS; go_enter Tryz.func27, Tryz.ntmps27
     go_wp2_with (first | (go_at_call 51; refine cargs (by simp [Act.eval]) (HC.out.mono ?_); rintro e w5 ⟨rfl, hx⟩; have HX := Lib.hid (HDE.out _ _ hx.1 hx.2); clear hx) | fail)
     go_returns
     exact ⟨rfl, by rw [← HD.out]; exact HX.out.1, HX.out.2⟩
   | false =>
    cases q3 : (kind.toList == ([101, 110, 116, 101, 114] : List UInt8)) with
    | true =>
     as_aux_lemma =>
      have HD : Hid (enterS S n ⟨arch, nr, a0, a1, a2, a3⟩ = D) := by rw [q0, q1, q2, q3] at hD2; exact hD2
      have HC := Lib.hid (wardEnter_any H B1 g p S n ⟨arch, nr, a0, a1, a2, a3⟩ _ HW0.out hc); clear hD2 HCL HBS; unfold CallD.v at HC; simp only at HC; go_enter Tryz.func27, Tryz.ntmps27
      go_wp2_with (first | (go_at_call 18; refine cargs (by simp [Act.eval]) (HC.out.mono ?_); rintro e w5 ⟨rfl, hx⟩; have HX := Lib.hid (HDE.out _ _ hx.1 hx.2); clear hx) | fail)
      go_returns
      exact ⟨rfl, by rw [← HD.out]; exact HX.out.1, HX.out.2⟩
    | false =>
     cases q4 : (kind.toList == ([115, 116, 101, 112, 115] : List UInt8)) with
     | true =>
      as_aux_lemma =>
       have HD : Hid (stepsS p S n (min x 90) = D) := by rw [q0, q1, q2, q3, q4] at hD2; exact hD2
       have HGI : Hid (∀ k, k < 91 → GoodS (stepsS p S n k) (L + 90)) := fun k hk => (good_steps hf hG n k).mono (by omega); have HFL := Lib.hid (And.intro hf hL); clear hD2 c0 c1 c2 c3 c4 c5 c6 c7 c8 c9 c10 hs hc hG; have HCN := HCL.out _ HF0.out; obtain ⟨c0, c1, c2, c3, c4, c5, c6, c7, c8, c9, c10⟩ := HCN; go_enter Tryz.func27, Tryz.ntmps27
       go_wp2_with fail; clear c0 c1 c2 c3 c4 c5 c6 c7 c8 c9 c10
       go_loopw [4] (fun iv wr => ∃ i : Nat, i ≤ min x 90 ∧ iv = .int .u64 i ∧ Hid (WardAt wr H B1 g p (stepsS p S n i)) ∧ Hid (Frame B1 (w.alloc (.cells R 54)) wr)) (fun iv _ => min x 90 - (intOf iv).toNat)
       case atStart => exact ⟨0, Nat.zero_le _, rfl, HW0, HF0⟩
       case round =>
        obtain ⟨i, hi, rfl, HI, HFI⟩ := hrel; obtain ⟨c0, c1, c2, c3, c4, c5, c6, c7, c8, c9, c10⟩ := HCL.out _ HFI.out; obtain ⟨M, hM⟩ : ∃ M, min x 90 = M := ⟨_, rfl⟩
        have hM9 : M ≤ 90 := by omega
        by_cases hlt : i < M
        ·have x1 : (i : Int) < min (x : Int) 90 := by omega
         rw [hM] at hi HD ⊢; have HS1 := Lib.hid (wardStep_any H B1 g p (stepsS p S n i) n wr HI.out HFL.out.1 (HGI.out i (by omega)).inv (fun k hk => HBS.out k (Nat.le_trans HFI.out.size hk)) (by have := (HGI.out i (by omega)).few; have := HFL.out.2; omega))
         have HG2 : Hid (∀ w5, WardAt w5 H B1 g p (stepS p (stepsS p S n i) n) → Frame B1 wr w5 → Hid (WardAt w5 H B1 g p (stepsS p S n (i + 1))) ∧ Hid (Frame B1 (w.alloc (.cells R 54)) w5)) := fun w5 k1 k2 => ⟨k1, HFI.out.trans k2⟩
         generalize errV (stepE (stepsS p S n i) n) = ev at *
         generalize stepB (stepsS p S n i) n = bv at *
         clear hM hx0 hx1 hn hss hks
         go_wp2_with (first | (go_at_call 19; refine cargs (by simp [Act.eval]) (HS1.out.mono ?_); rintro e w5 ⟨rfl, hx⟩; have HX := Lib.hid (HG2.out _ hx.1 hx.2); clear hx) | fail)
         go_roundw
         case rel => exact ⟨i + 1, by omega, by go_num, HX.out.1, HX.out.2⟩
         case measure => simp [intOf]; omega
        ·have x1 : ¬ (i : Int) < min (x : Int) 90 := by omega
         obtain rfl : i = min x 90 := by omega
         have HX := Lib.hid (HDE.out _ _ HI.out HFI.out); clear hM hx0 hx1 hn hss hks hlt hM9 hi
         go_wp2_with fail
         go_returns
         exact ⟨rfl, by rw [← HD.out]; exact HX.out.1, HX.out.2⟩
     | false =>
      as_aux_lemma =>
       have HD : Hid (stepS p S n = D) := by rw [q0, q1, q2, q3, q4] at hD2; exact hD2
       have HC := Lib.hid (wardStep_any H B1 g p S n _ HW0.out hf hG.inv HBS.out (by have := hG.few; omega)); clear hD2 HCL HBS; generalize errV (stepE S n) = ev at *
       generalize stepB S n = bv at *
       go_enter Tryz.func27, Tryz.ntmps27
       go_wp2_with (first | (go_at_call 19; refine cargs (by simp [Act.eval]) (HC.out.mono ?_); rintro e w5 ⟨rfl, hx⟩; have HX := Lib.hid (HDE.out _ _ hx.1 hx.2); clear hx) | fail)
       go_returns
       exact ⟨rfl, by rw [← HD.out]; exact HX.out.1, HX.out.2⟩
end Go.Proofs.YtmgngapkgcofnabGreatDoor
namespace Go.Proofs.YtmgngapkgcofnabGreatDoor
end Go.Proofs.YtmgngapkgcofnabGreatDoor
