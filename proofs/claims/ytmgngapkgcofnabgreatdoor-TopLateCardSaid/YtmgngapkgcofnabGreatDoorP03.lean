/- Package mem: Unmap, at, Byte: the walks. -/
import Derived.Test.YtmgngapkgcofnabGreatDoorP02
import Derived.PlainAid
namespace Go.Proofs.YtmgngapkgcofnabGreatDoor
open Go.RowKit
def pageZero : Array Value := rowOf 66 fun i => if i < 64 then .int .u8 0 else .bool false
theorem pageZero_at (j : Nat) : pageZero.toList.getD j undef = if j < 64 then .int .u8 0 else if j < 66 then .bool false else undef := by
 rw [List.getD_eq_getElem?_getD, Array.getElem?_toList]
 by_cases h : j < 66
 ·unfold pageZero; rw [rowOf_at _ h]
  by_cases h2 : j < 64
  ·simp [h2]
  ·simp [h2, h]
 ·rw [Array.getElem?_eq_none (by unfold pageZero; rw [rowOf_size]; omega), if_neg (by omega), if_neg h]; rfl
theorem pageZero_len : pageZero.toList.length = 66 := by rw [Array.length_toList]; exact rowOf_size _ _
theorem pageZero_one : pageZero.all (·.oneCell') = true := by
 rw [Array.all_eq_true]; intro i hi; simp only [pageZero, rowOf, Array.getElem_map, Array.getElem_range]; split <;> rfl
theorem page_info : (Tryz.prog.info? 156).map (·.size) = some 66 := by kernel_rfl
theorem memCell_unmap {S : MemS} {sp : Nat → Option Nat} {C : Nat → Value} (hC : ∀ i, i < 532 → C i = memCell S sp i) {k : Nat} (hk : k < 8) :
  ∀ i, i < 532 → setVs C (k * 66) pageZero.toList i = memCell (S.unmap k) sp i := by
 intro i hi; unfold setVs; rw [pageZero_len]
 by_cases h6 : k * 66 ≤ i ∧ i < k * 66 + 66
 ·rw [if_pos h6, pageZero_at]; unfold memCell MemS.unmap; rw [if_pos (show i < 528 by omega)]; have h4 : i / 66 = k := by omega
  have h5 : i % 66 = i - k * 66 := by omega
  rw [h4, h5]
  by_cases h7 : i - k * 66 < 64
  ·simp [h7]
  ·rw [if_neg h7, if_neg h7, if_pos (by omega)]; split <;> simp
 ·rw [if_neg h6, hC i hi]; unfold memCell MemS.unmap
  by_cases h3 : i < 528
  ·rw [if_pos h3, if_pos h3]; have h4 : i / 66 ≠ k := by omega
   simp [h4]
  ·rw [if_neg h3, if_neg h3]
theorem unmap_ok {S : MemS} (h : S.ok) (k : Nat) : (S.unmap k).ok := by
 refine ⟨fun n j => ?_, h.2⟩; unfold MemS.unmap; simp only; split
 ·simp
 ·exact h.1 n j
def unmapB (S : MemS) (n : Int) : Bool := decide (0 ≤ n ∧ n < 8) && (S.p n.toNat).read
def unmapE (S : MemS) (n : Int) : Int := if unmapB S n then 0 else 5
def unmapS (S : MemS) (n : Int) : MemS := if unmapB S n then S.unmap n.toNat else S
set_option linter.unusedSimpArgs false in
set_option maxRecDepth 100000 in
set_option maxHeartbeats 2000000 in
theorem memUnmap_any (m : Nat) (B : Nat → Prop) (S : MemS) (n : Int) (w : World) (h : MemAt w B m S) :
  Calls Tryz.prog 103 #[.pointer (some ⟨m, 0, none⟩), .int .i64 n] w fun e w' => e = .returned (errV (unmapE S n)) ∧ MemAt w' B m (unmapS S n) ∧ But m w w' := by
 by_cases h1 : 0 ≤ n ∧ n < 8
 ·obtain ⟨k, rfl⟩ : ∃ k : Nat, n = k := ⟨n.toNat, by omega⟩
  have hk : k < 8 := by omega
  have y1 : ¬ (k : Int) < 0 := by omega
  have y2 : ¬ (8 : Int) ≤ (k : Int) := by omega
  have y3 : (0 : Int) ≤ (k : Int) := by omega
  have y4 : (k : Int) < 8 := by omega
  have hB := h.base; have hok := h.ok; obtain ⟨C, sp, hblk, hC, hse⟩ := h.rep; have c1 := hblk.cell (i := k * 66 + 64) (by omega); rw [hC _ (by omega), memCell_read hk] at c1; have hu : unmapB S k = (S.p k).read := by unfold unmapB; rw [decide_eq_true h1]; simp
  cases hr : (S.p k).read with
  | true =>
   rw [hr] at c1; have HE : Hid (errV (unmapE S k) = .nilIface) := by show _ = _; unfold unmapE; rw [hu, hr]; rfl
   have HS : Hid (unmapS S k = S.unmap k) := by show _ = _; unfold unmapS; rw [hu, hr]; simp
   have hth := hblk.there (o := k * 66) (k := 66) (by omega); have g0 := BlkAt.sets pageZero.toList hblk (k * 66); have g2 := memCell_unmap hC hk; have g3 : But m w (w.setCells m (k * 66) pageZero.toList) := (But.refl m w).setCells _ _; have HF : Hid (MemAt (w.setCells m (k * 66) pageZero.toList) B m (S.unmap k)) := ⟨hB, unmap_ok hok k, _, sp, g0, g2, fun i hi => (hse i hi).but g3⟩
   have HG := Lib.hid g3; have HTH := Lib.hid hth; clear g0 g2 g3 hse hC hblk hok hr hth hu h h1; go_enter Tryz.func103, Tryz.ntmps103
   go_upto_region 4 with (first
    | (refine wpList_buildTo rfl _ _ rfl (some 24) rfl pageZero (by kernel_rfl) ?_)
    | (refine wpList_store_mid rfl 156 (.tmp 27) (.tmp 24) rfl m (k * 66) pageZero (by simp [Act.eval]) (by simp [Act.eval]) (by rw [← Array.length_toList, pageZero_len]; exact HTH.out) (by rw [← Array.length_toList, pageZero_len]; exact page_info) pageZero_one ?_))
   generalize w.setCells m (k * 66) pageZero.toList = W1 at *
   go_wp2_with fail; go_ret; exact ⟨by rw [HE.out]; rfl, by rw [HS.out]; exact HF.out, HG.out⟩
  | false =>
   rw [hr] at c1; have HE : Hid (errV (unmapE S k) = .iface 105 (.int .i64 5)) := by show _ = _; unfold unmapE; rw [hu, hr]; rfl
   have HS : Hid (unmapS S k = S) := by show _ = _; unfold unmapS; rw [hu, hr]; simp
   have H := Lib.hid h; clear hse hC hblk hok hr hu h h1; go_enter Tryz.func103, Tryz.ntmps103
   go_wp2_with fail; go_ret; exact ⟨by rw [HE.out]; rfl, by rw [HS.out]; exact H.out, But.refl _ _⟩
 ·have hu : unmapB S n = false := by unfold unmapB; rw [decide_eq_false h1]; rfl
  have HE : Hid (errV (unmapE S n) = .iface 105 (.int .i64 5)) := by show _ = _; unfold unmapE; rw [hu]; rfl
  have HS : Hid (unmapS S n = S) := by show _ = _; unfold unmapS; rw [hu]; simp
  have H := Lib.hid h; clear h hu
  by_cases h2 : n < 0
  ·clear h1; go_enter Tryz.func103, Tryz.ntmps103
   go_wp2_with fail; go_ret; exact ⟨by rw [HE.out]; rfl, by rw [HS.out]; exact H.out, But.refl _ _⟩
  ·have h3 : 8 ≤ n := by omega
   clear h1; go_enter Tryz.func103, Tryz.ntmps103
   go_wp2_with fail; go_ret; exact ⟨by rw [HE.out]; rfl, by rw [HS.out]; exact H.out, But.refl _ _⟩
def byteS (S : MemS) (a : Nat) : Option Int :=
 if a < 512 then (if (S.p (a / 64)).read then some ((S.p (a / 64)).b (a % 64)) else none)
 else if a < 768 then (S.sl (a / 64 - 8)).map fun f => f (a % 64) else none
def AtR (S : MemS) (a : Nat) (w : World) (e : Ending) (w' : World) : Prop := w = w' ∧ match byteS S a with
 | some v => ∃ g k, e = .returned (.pointer (some ⟨g, k, none⟩)) ∧ w.cell? ⟨g, k, none⟩ = some (.int .u8 v)
 | none => e = .returned (.pointer none)
set_option linter.unusedSimpArgs false in
set_option maxRecDepth 100000 in
set_option maxHeartbeats 2000000 in
theorem memAt_any (m : Nat) (B : Nat → Prop) (S : MemS) (a : Nat) (w : World) (h : MemAt w B m S) (ha : a < 18446744073709551616) :
  Calls Tryz.prog 146 #[.pointer (some ⟨m, 0, none⟩), .int .u64 a] w (AtR S a w) := by
 obtain ⟨C, sp, hblk, hC, hse⟩ := h.rep
 by_cases h1 : a < 768
 ·obtain ⟨q, hq⟩ : ∃ q, q = a / 64 := ⟨_, rfl⟩
  obtain ⟨k, hk⟩ : ∃ k, k = a % 64 := ⟨_, rfl⟩
  have hq1 : q < 12 := by omega
  have hk1 : k < 64 := by omega
  have e1 : (a : Int) / 64 = (q : Int) := by omega
  have e2 : (a : Int) % 64 = (k : Int) := by omega
  have x1 : ¬ (768 : Int) ≤ (a : Int) := by omega
  have x2 : (0 : Int) ≤ (q : Int) := by omega
  have x3 : (0 : Int) ≤ (k : Int) := by omega
  have x4 : (k : Int) < 64 := by omega
  by_cases h8 : q < 8
  ·have y1 : ¬ (8 : Int) ≤ (q : Int) := by omega
   have y2 : (q : Int) < 8 := by omega
   have c1 := hblk.cell (i := q * 66 + 64) (by omega); have c2 := hblk.cell (i := q * 66 + k) (by omega); rw [hC _ (by omega), memCell_read h8] at c1; rw [hC _ (by omega), memCell_byte h8 hk1] at c2; have hb : byteS S a = if (S.p q).read then some ((S.p q).b k) else none := by unfold byteS; rw [if_pos (by omega), ← hq, ← hk]
   cases hr : (S.p q).read with
   | true =>
    rw [hr] at c1 hb; have HB := Lib.hid hb; have HC2 := Lib.hid c2; clear hb hr hse hC hblk h c2 hq hk h1; go_enter Tryz.func146, Tryz.ntmps146
    go_wp2_with fail; go_ret; refine ⟨rfl, ?_⟩; rw [HB.out]; exact ⟨m, q * 66 + k, rfl, HC2.out⟩
   | false =>
    rw [hr] at c1 hb; have HB := Lib.hid hb; clear hb hr hse hC hblk h c2 hq hk h1; go_enter Tryz.func146, Tryz.ntmps146
    go_wp2_with fail; go_ret; refine ⟨rfl, ?_⟩; rw [HB.out]; rfl
  ·obtain ⟨i, rfl⟩ : ∃ i, q = i + 8 := ⟨q - 8, by omega⟩
   have hi : i < 4 := by omega
   have y1 : (8 : Int) ≤ ((i + 8 : Nat) : Int) := by omega
   have y2 : ((i + 8 : Nat) : Int) - 8 = (i : Int) := by omega
   have y3 : (i : Int) < 4 := by omega
   have y4 : (0 : Int) ≤ (i : Int) := by omega
   have c1 := hblk.cell (i := 528 + i) (by omega); rw [hC _ (by omega), memCell_seal hi] at c1; have hb : byteS S a = (S.sl i).map fun f => f k := by unfold byteS; rw [if_neg (by omega), if_pos h1, ← hq, ← hk]; rfl
   have hs := hse i hi
   cases hsl : S.sl i with
   | none =>
    cases hsp : sp i with
    | some g => rw [hsp, hsl] at hs; exact hs.elim
    | none =>
     rw [hsp] at c1; rw [hsl] at hb; have HB := Lib.hid hb; clear hb hs hsl hsp hse hC hblk h hq hk h1 h8; go_enter Tryz.func146, Tryz.ntmps146
     go_wp2_with fail; go_ret; refine ⟨rfl, ?_⟩; rw [HB.out]; rfl
   | some f =>
    cases hsp : sp i with
    | none => rw [hsp, hsl] at hs; exact hs.elim
    | some g =>
     rw [hsp] at c1; rw [hsl] at hb; rw [hsp, hsl] at hs; have HC2 := Lib.hid (hs.2.2.cell (i := k) hk1); have HB := Lib.hid hb; clear hb hs hsl hsp hse hC hblk h hq hk h1 h8; go_enter Tryz.func146, Tryz.ntmps146
     go_wp2_with fail; go_ret; refine ⟨rfl, ?_⟩; rw [HB.out]; exact ⟨g, k, rfl, HC2.out⟩
 ·have x1 : (768 : Int) ≤ (a : Int) := by omega
  have HB : Hid (byteS S a = none) := by show _ = _; unfold byteS; rw [if_neg (by omega), if_neg h1]
  clear hse hC hblk h h1; go_enter Tryz.func146, Tryz.ntmps146
  go_wp2_with fail; go_ret; refine ⟨rfl, ?_⟩; rw [HB.out]; rfl
def byteV (S : MemS) (a : Nat) : Value := match byteS S a with
 | some v => .tuple #[.int .u8 v, .nilIface]
 | none => .tuple #[.int .u8 0, .iface 105 (.int .i64 5)]
set_option linter.unusedSimpArgs false in
set_option maxHeartbeats 2000000 in
theorem memByte_any (m : Nat) (B : Nat → Prop) (S : MemS) (a : Nat) (w : World) (h : MemAt w B m S) (ha : a < 18446744073709551616) :
  Calls Tryz.prog 95 #[.pointer (some ⟨m, 0, none⟩), .int .u64 a] w fun e w' => e = .returned (byteV S a) ∧ w = w' := by
 have hat := memAt_any m B S a w h ha
 cases hb : byteS S a with
 | none =>
  have HA : Hid (Calls Tryz.prog 146 #[.pointer (some ⟨m, 0, none⟩), .int .u64 a] w fun e w' => e = .returned (.pointer none) ∧ w = w') := hat.mono fun e w' h1 => by
   unfold AtR at h1; rw [hb] at h1; exact ⟨h1.2, h1.1⟩
  have HV : Hid (byteV S a = .tuple #[.int .u8 0, .iface 105 (.int .i64 5)]) := by show _ = _; unfold byteV; rw [hb]
  clear hat hb h; go_enter Tryz.func95, Tryz.ntmps95
  go_wp2_with (go_at_call 146; refine HA.out.mono ?_; rintro e w1 ⟨rfl, rfl⟩)
  go_ret2
  exact ⟨by rw [HV.out]; rfl, rfl⟩
 | some v =>
  have HA : Hid (Calls Tryz.prog 146 #[.pointer (some ⟨m, 0, none⟩), .int .u64 a] w fun e w' => ∃ g k, e = .returned (.pointer (some ⟨g, k, none⟩)) ∧ w.cell? ⟨g, k, none⟩ = some (.int .u8 v) ∧ w = w') := hat.mono fun e w' h1 => by
   unfold AtR at h1; rw [hb] at h1; obtain ⟨h2, g, k, h3, h4⟩ := h1; exact ⟨g, k, h3, h4, h2⟩
  have HV : Hid (byteV S a = .tuple #[.int .u8 v, .nilIface]) := by show _ = _; unfold byteV; rw [hb]
  clear hat hb h; go_enter Tryz.func95, Tryz.ntmps95
  go_wp2_with (go_at_call 146; refine HA.out.mono ?_; rintro e w1 ⟨g, k, rfl, hc, rfl⟩)
  go_ret2
  exact ⟨by rw [HV.out]; rfl, rfl⟩
end Go.Proofs.YtmgngapkgcofnabGreatDoor
