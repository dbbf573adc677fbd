/- Package mem: New, Free, Sealed: the walks. -/
import Derived.Test.YtmgngapkgcofnaaMemGet
namespace Go.Proofs.Ytmgngapkgcofnaa
open Go.RowKit Go.PlainAid

def freeB (S : MemS) (a : Nat) : Bool := decide (a % 64 = 0 ∧ 512 ≤ a ∧ a < 768) && (S.sl (a / 64 - 8)).isSome
def MemS.free (S : MemS) (i : Nat) : MemS := ⟨S.p, fun j => if j = i then none else S.sl j⟩
def freeS (S : MemS) (a : Nat) : MemS := if freeB S a then S.free (a / 64 - 8) else S
def freeE (S : MemS) (a : Nat) : Int := if freeB S a then 0 else 8
theorem free_ok {S : MemS} (h : S.ok) (i : Nat) : (S.free i).ok := by
  refine ⟨h.1, fun j f hf => ?_⟩
  unfold MemS.free at hf
  simp only at hf
  split at hf
  · simp at hf
  · exact h.2 j f hf
theorem memCell_free {S : MemS} {sp : Nat → Option Nat} {C : Nat → Value} (hC : ∀ i, i < 532 → C i = memCell S sp i) {i : Nat} (hi : i < 4) :
    ∀ j, j < 532 → setV C (528 + i) (.pointer none) j = memCell (S.free i) (fun k => if k = i then none else sp k) j := by
  intro j hj
  unfold setV
  by_cases h : j = 528 + i
  · subst h; rw [if_pos rfl, memCell_seal hi]; simp
  · rw [if_neg h, hC j hj]
    unfold memCell MemS.free
    by_cases h3 : j < 528
    · rw [if_pos h3, if_pos h3]
    · rw [if_neg h3, if_neg h3]; simp only; rw [if_neg (by omega)]
set_option linter.unusedSimpArgs false in
set_option maxRecDepth 100000 in
set_option maxHeartbeats 2000000 in
theorem memFree_any (m : Nat) (B : Nat → Prop) (S : MemS) (a : Nat) (w : World) (h : MemAt w B m S) (ha : a < 18446744073709551616) :
    Calls Try.prog 44 #[.pointer (some ⟨m, 0, none⟩), .int .u64 a] w fun e w' => e = .returned (errV (freeE S a)) ∧ MemAt w' B m (freeS S a) ∧ But m w w' := by
  obtain ⟨q, hq⟩ : ∃ q, q = a / 64 := ⟨_, rfl⟩
  obtain ⟨k, hk⟩ : ∃ k, k = a % 64 := ⟨_, rfl⟩
  have e1 : (a : Int) / 64 = (q : Int) := by omega
  have e2 : (a : Int) % 64 = (k : Int) := by omega
  have x0 : (0 : Int) ≤ (q : Int) := by omega
  have x00 : (q : Int) ≤ 300000000000000000 := by omega
  by_cases hg : a % 64 = 0 ∧ 512 ≤ a ∧ a < 768
  · obtain ⟨i, rfl⟩ : ∃ i, q = i + 8 := ⟨q - 8, by omega⟩
    have hi : i < 4 := by omega
    have hk0 : k = 0 := by omega
    subst hk0
    have x1 : ¬ (768 : Int) ≤ (a : Int) := by omega
    have x2 : ((i + 8 : Nat) : Int) - 8 = (i : Int) := by omega
    have x3 : (i : Int) < 4 := by omega
    have x4 : (0 : Int) ≤ (i : Int) := by omega
    have x5 : ¬ (i : Int) < 0 := by omega
    have hqi : a / 64 - 8 = i := by omega
    have hB := h.base
    have hok := h.ok
    obtain ⟨C, sp, hblk, hC, hse⟩ := h.rep
    have c1 := hblk.cell (i := 528 + i) (by omega)
    have f1 := hblk.frozen (528 + i)
    rw [hC _ (by omega), memCell_seal hi] at c1
    have hs := hse i hi
    cases hsl : S.sl i with
    | none =>
      have hb : freeB S a = false := by unfold freeB; rw [hqi, hsl]; simp
      have HE : Hid (errV (freeE S a) = .iface 114 (.int .i64 8)) := by show _ = _; unfold freeE; rw [hb]; rfl
      have HS : Hid (freeS S a = S) := by show _ = _; unfold freeS; rw [hb]; simp
      have H := Lib.hid h
      cases hsp : sp i with
      | some g => rw [hsp, hsl] at hs; exact hs.elim
      | none =>
        rw [hsp] at c1
        clear hb hs hsl hsp hse hC hblk h hok hg hq hk hqi
        go_enter Try.func44, Try.ntmps44
        go_wp2_with fail
        go_ret
        exact ⟨by rw [HE.out]; rfl, by rw [HS.out]; exact H.out, But.refl _ _⟩
    | some f =>
      have hb : freeB S a = true := by unfold freeB; rw [hqi, hsl, decide_eq_true hg]; rfl
      have HE : Hid (errV (freeE S a) = .nilIface) := by show _ = _; unfold freeE; rw [hb]; rfl
      have HS : Hid (freeS S a = S.free i) := by show _ = _; unfold freeS; rw [hb, hqi]; simp
      cases hsp : sp i with
      | none => rw [hsp, hsl] at hs; exact hs.elim
      | some g =>
        rw [hsp] at c1
        have g1 := hblk.set (528 + i) (.pointer none)
        have g2 := memCell_free hC hi
        have g3 : But m w (w.setCell ⟨m, 528 + i, none⟩ (.pointer none)) := (But.refl m w).setCell _ _
        have HF : Hid (MemAt (w.setCell ⟨m, 528 + i, none⟩ (.pointer none)) B m (S.free i)) := by
          refine ⟨hB, free_ok hok i, _, _, g1, g2, fun j hj => ?_⟩
          by_cases e : j = i
          · subst e; simp [MemS.free, SealAt]
          · simp only [MemS.free, if_neg e]; exact (hse j hj).but g3
        have HG := Lib.hid g3
        clear g1 g2 g3 hb hs hsl hsp hse hC hblk h hok hg hq hk hqi
        go_enter Try.func44, Try.ntmps44
        go_wp2_with fail
        go_ret
        exact ⟨by rw [HE.out]; rfl, by rw [HS.out]; exact HF.out, HG.out⟩
  · have hb : freeB S a = false := by unfold freeB; rw [decide_eq_false hg]; rfl
    have HE : Hid (errV (freeE S a) = .iface 114 (.int .i64 8)) := by show _ = _; unfold freeE; rw [hb]; rfl
    have HS : Hid (freeS S a = S) := by show _ = _; unfold freeS; rw [hb]; simp
    have H := Lib.hid h
    by_cases h0 : 0 < k
    · have x1 : (0 : Int) < (k : Int) := by omega
      clear hb h hg hq hk
      go_enter Try.func44, Try.ntmps44
      go_wp2_with fail
      go_ret
      exact ⟨by rw [HE.out]; rfl, by rw [HS.out]; exact H.out, But.refl _ _⟩
    · obtain rfl : k = 0 := by omega
      by_cases h2 : 768 ≤ a
      · have x1 : (768 : Int) ≤ (a : Int) := by omega
        clear hb h hg hq hk
        go_enter Try.func44, Try.ntmps44
        go_wp2_with fail
        go_ret
        exact ⟨by rw [HE.out]; rfl, by rw [HS.out]; exact H.out, But.refl _ _⟩
      · have x1 : ¬ (768 : Int) ≤ (a : Int) := by omega
        have x2 : (q : Int) - 8 < 0 := by omega
        clear hb h hg hq hk
        go_enter Try.func44, Try.ntmps44
        go_wp2_with fail
        go_ret
        exact ⟨by rw [HE.out]; rfl, by rw [HS.out]; exact H.out, But.refl _ _⟩

/-- How many pages are sealed. -/
def cntSl (S : MemS) : Nat → Nat
  | 0 => 0
  | k + 1 => cntSl S k + if (S.sl k).isSome then 1 else 0
theorem cntSl_le (S : MemS) : ∀ k, cntSl S k ≤ k := by
  intro k
  induction k with
  | zero => exact Nat.le_refl _
  | succ k ih => simp only [cntSl]; split <;> omega
def ptrV (x : Option Nat) : Value := .pointer (x.map fun g => ⟨g, 0, none⟩)
theorem run_index4 (w : World) (sp : Nat → Option Nat) (k : Nat) (hk : k < 4) : (Instr.index 138 (.agg #[ptrV (sp 0), ptrV (sp 1), ptrV (sp 2), ptrV (sp 3)]) (.int .i64 k)).run Try.prog w = .ok (ptrV (sp k)) w := by
  have h : k = 0 ∨ k = 1 ∨ k = 2 ∨ k = 3 := by omega
  have hi : (Try.prog.info? 137).map (fun i => i.size) = some 1 := by kernel_rfl
  clear hk
  rcases h with rfl | rfl | rfl | rfl <;> simp [Instr.index, run_underlying Try.underlying138, asIntOf, go_sem]
set_option linter.unusedSimpArgs false in
set_option maxRecDepth 100000 in
set_option maxHeartbeats 2000000 in
theorem memSealed_any (m : Nat) (B : Nat → Prop) (S : MemS) (w : World) (h : MemAt w B m S) :
    Calls Try.prog 58 #[.pointer (some ⟨m, 0, none⟩)] w fun e w' => e = .returned (.int .i64 (cntSl S 4)) ∧ w = w' := by
  obtain ⟨C, sp, hblk, hC, hse⟩ := h.rep
  have c0 : w.cell? ⟨m, 528, none⟩ = some (ptrV (sp 0)) := by rw [hblk.cell (i := 528) (by omega), hC _ (by omega)]; exact congrArg some (memCell_seal (i := 0) (by omega))
  have c1 : w.cell? ⟨m, 529, none⟩ = some (ptrV (sp 1)) := by rw [hblk.cell (i := 529) (by omega), hC _ (by omega)]; exact congrArg some (memCell_seal (i := 1) (by omega))
  have c2 : w.cell? ⟨m, 530, none⟩ = some (ptrV (sp 2)) := by rw [hblk.cell (i := 530) (by omega), hC _ (by omega)]; exact congrArg some (memCell_seal (i := 2) (by omega))
  have c3 : w.cell? ⟨m, 531, none⟩ = some (ptrV (sp 3)) := by rw [hblk.cell (i := 531) (by omega), hC _ (by omega)]; exact congrArg some (memCell_seal (i := 3) (by omega))
  have HI : Hid (∀ (w : World) (k : Nat), k < 4 → (Instr.index 138 (.agg #[ptrV (sp 0), ptrV (sp 1), ptrV (sp 2), ptrV (sp 3)]) (.int .i64 k)).run Try.prog w = .ok (ptrV (sp k)) w) := fun w k hk => run_index4 w sp k hk
  have HSE : Hid (∀ k, k < 4 → (sp k).isSome = (S.sl k).isSome) := by
    intro k hk
    have := hse k hk
    unfold SealAt at this
    split at this
    · rename_i e1 e2; rw [e1, e2]; rfl
    · rename_i e1 e2; rw [e1, e2]; rfl
    · exact this.elim
  clear hblk hC hse h
  generalize ptrV (sp 0) = P0 at *
  generalize ptrV (sp 1) = P1 at *
  generalize ptrV (sp 2) = P2 at *
  generalize ptrV (sp 3) = P3 at *
  have hle := Lib.hid (cntSl_le S)
  go_enter Try.func58, Try.ntmps58
  go_wp2_with fail
  go_loop [3, 10] (fun nv iv => ∃ k : Nat, k ≤ 4 ∧ iv = .int .i64 k ∧ nv = .int .i64 (cntSl S k)) (fun _ iv => 4 - (intOf iv).toNat)
  case atStart => exact ⟨0, Nat.zero_le _, rfl, rfl⟩
  case round =>
    obtain ⟨k, hk, rfl, rfl⟩ := hrel
    by_cases hlt : k < 4
    · have x1 : (k : Int) < 4 := by omega
      have x2 : (0 : Int) ≤ (k : Int) := by omega
      have hix := fun w : World => HI.out w k hlt
      have hl := hle.out k
      have hse := HSE.out k hlt
      cases hsp : sp k with
      | none =>
        rw [hsp] at hix hse
        have hc : Hid (cntSl S (k + 1) = cntSl S k) := by show _ = _; rw [cntSl, ← hse]; rfl
        clear hse hsp
        simp only [ptrV, Option.map_none] at hix
        generalize cntSl S k = N at *
        go_wp2_with fail
        go_round
        case rel => exact ⟨k + 1, by omega, by go_num, by rw [hc.out]⟩
        case measure => simp [intOf]; omega
      | some g =>
        rw [hsp] at hix hse
        have hc : Hid (cntSl S (k + 1) = cntSl S k + 1) := by show _ = _; rw [cntSl, ← hse]; rfl
        clear hse hsp
        simp only [ptrV, Option.map_some] at hix
        generalize cntSl S k = N at *
        go_wp2_with fail
        go_round
        case rel => exact ⟨k + 1, by omega, by go_num, by rw [hc.out]; go_num⟩
        case measure => simp [intOf]; omega
    · obtain rfl : k = 4 := by omega
      go_wp2_with fail
      go_ret
      exact ⟨rfl, rfl⟩

end Go.Proofs.Ytmgngapkgcofnaa
