/- Names, the walk: the numbers, the errors, the forms. -/
import Derived.Test.YtmgngapkgcofnaaDoorNamesW
import Derived.Test.YtmgngapkgcofnaaDoorForms
import Derived.Deep.RegionWith
namespace Go.Proofs.YtmgngapkgcofnaaDoor
open Go.RowKit

def numsL : List Int := [4, 24, 40, 64, 8, 4, 4096, 12, 4, 255, 3, 40, 8000, 120, 300, 16, 9, 1, 2, 3, 1, 2, 3, 4, 5, 6, 7, 8, 1, 2, 3, 4, 1, 2, 3, 4, 5, 6, 7, 8, 9, 1, 2, 3, 14, 36, 22, 12, 38]
def numsRow : Array Value := #[.int .i64 4, .int .i64 24, .int .i64 40, .int .i64 64, .int .i64 8, .int .i64 4, .int .i64 4096, .int .i64 12, .int .i64 4, .int .i64 255, .int .i64 3, .int .i64 40, .int .i64 8000, .int .i64 120, .int .i64 300, .int .i64 16, .int .i64 9, .int .i64 1, .int .i64 2, .int .i64 3, .int .i64 1, .int .i64 2, .int .i64 3, .int .i64 4, .int .i64 5, .int .i64 6, .int .i64 7, .int .i64 8, .int .i64 1, .int .i64 2, .int .i64 3, .int .i64 4, .int .i64 1, .int .i64 2, .int .i64 3, .int .i64 4, .int .i64 5, .int .i64 6, .int .i64 7, .int .i64 8, .int .i64 9, .int .i64 1, .int .i64 2, .int .i64 3, .int .i64 14, .int .i64 36, .int .i64 22, .int .i64 12, .int .i64 38]
def errsRow : Array Value := #[.iface 23 (.int .i64 1), .iface 23 (.int .i64 2), .iface 23 (.int .i64 3), .iface 23 (.int .i64 4), .iface 23 (.int .i64 5), .iface 23 (.int .i64 6), .iface 23 (.int .i64 7), .iface 23 (.int .i64 8), .iface 23 (.int .i64 9)]
theorem build_to {P : Program} {ops : Array Oper} {rest : List Oper} {o : Oper} {a : Act} {w : World} {Q : Exit → Act → World → Prop} (hg : o.guard = none) (t e : TypeId) (len : Nat) (parts : Array (Nat × Operand)) (ho : o.op = .buildSlice t len parts)
    (d : Option Tmp) (hd : o.dst = d) (cells : Array Value) (z : Value) (size : Nat) (hu : P.underlying t = some (.slice e)) (hinfo : (P.info? e).map (fun i => (i.zero, i.size)) = some (some z, size)) (hsmall : ¬ len * size > 2 ^ 24) (hpos : ¬ len * size = 0)
    (hf : Instr.fill (fun i => some (i * size, size)) ((Array.range (len * size)).map (z.cells[· % z.cells.size]!)) (parts.map fun (i, x) => (i, a.eval x)).toList = some cells)
    (h : wpList P ops Q rest (a.put d (.slice (some ⟨w.heap.size, 0, none⟩) len len)) (w.alloc (.cells cells e))) : wpList P ops Q (o :: rest) a w := by
  subst hd
  cases hq : P.info? e with
  | none => simp [hq] at hinfo
  | some ie =>
    simp only [hq, Option.map_some, Option.some.injEq, Prod.mk.injEq] at hinfo
    obtain ⟨hz, rfl⟩ := hinfo
    exact wpList_buildSlice hg t e len parts ho cells ie z hu hq hz hsmall hpos hf h
theorem nums_row : numsRow = (numsL.map (Value.int .i64)).toArray := rfl
theorem intRow_of {w : World} {g : Nat} {t : TypeId} {l : List Int} (h : w.heap[g]? = some (.cells (l.map (Value.int .i64)).toArray t (0, 0))) : IntRow w g 0 l := by
  intro i x hx
  rw [cell_of_row w g _ _ _ _ h]
  simp [hx]
theorem errs_at (k : Nat) (hk : k < 9) : errsRow[k]? = some (errV ((k : Int) + 1)) := by
  have h : k = 0 ∨ k = 1 ∨ k = 2 ∨ k = 3 ∨ k = 4 ∨ k = 5 ∨ k = 6 ∨ k = 7 ∨ k = 8 := by omega
  rcases h with rfl | rfl | rfl | rfl | rfl | rfl | rfl | rfl | rfl <;> rfl
theorem forms_at (i k : Nat) (hi : i < 9) (hk : k < 4) : formsRow[i * 5 + 1 + k]? = some (.int .i64 (kindF i k)) := by
  have h : i = 0 ∨ i = 1 ∨ i = 2 ∨ i = 3 ∨ i = 4 ∨ i = 5 ∨ i = 6 ∨ i = 7 ∨ i = 8 := by omega
  have h2 : k = 0 ∨ k = 1 ∨ k = 2 ∨ k = 3 := by omega
  rcases h with rfl | rfl | rfl | rfl | rfl | rfl | rfl | rfl | rfl <;> rcases h2 with rfl | rfl | rfl | rfl <;> rfl
theorem same_refl (n : Int) (hn : 0 ≤ n) (w : World) : Calls Tryd.prog 5 #[errV n, .int .i64 n] w fun e w' => e = .returned (.bool true) ∧ w = w' :=
  (same_any n n w hn).mono fun e w' ⟨h1, h2⟩ => ⟨by rw [h1, decide_eq_true rfl], h2⟩

set_option maxRecDepth 100000 in
set_option maxHeartbeats 4000000 in
theorem names_any (w : World) : Calls Tryd.prog 3 #[] w fun e w' => e = .returned (.bool true) ∧ Below w.heap.size w w' := by
  go_enter Tryd.func3, Tryd.ntmps3
  go_upto_region 4 with (first
    | (refine build_to rfl _ 3 49 _ rfl (some 12) rfl numsRow (.int .i64 0) 1 Tryd.underlying22 (by kernel_rfl) (by decide) (by decide) (by kernel_rfl) ?_)
    | (refine build_to rfl _ 3 49 _ rfl (some 13) rfl numsRow (.int .i64 0) 1 Tryd.underlying22 (by kernel_rfl) (by decide) (by decide) (by kernel_rfl) ?_)
    | (refine build_to rfl _ 27 9 _ rfl (some 23) rfl errsRow .nilIface 1 Tryd.underlying24 (by kernel_rfl) (by decide) (by decide) (by kernel_rfl) ?_))
  have r1 : (((w.alloc (.cells numsRow 3)).alloc (.cells numsRow 3)).alloc (.cells errsRow 27)).heap[w.heap.size]? = some (.cells numsRow 3 (0, 0)) := by
    rw [Below.heap_alloc _ _ _ (by simp; omega), Below.heap_alloc _ _ _ (by simp)]; exact heap_alloc_new _ _
  have r2 : (((w.alloc (.cells numsRow 3)).alloc (.cells numsRow 3)).alloc (.cells errsRow 27)).heap[w.heap.size + 1]? = some (.cells numsRow 3 (0, 0)) := by
    rw [Below.heap_alloc _ _ _ (by simp)]; exact heap_alloc2_new _ _ _
  have r3 : (((w.alloc (.cells numsRow 3)).alloc (.cells numsRow 3)).alloc (.cells errsRow 27)).heap[w.heap.size + 1 + 1]? = some (.cells errsRow 27 (0, 0)) := by
    have := heap_alloc_new ((w.alloc (.cells numsRow 3)).alloc (.cells numsRow 3)) (.cells errsRow 27)
    simpa using this
  have rb : Below w.heap.size w (((w.alloc (.cells numsRow 3)).alloc (.cells numsRow 3)).alloc (.cells errsRow 27)) := by go_grown
  have rz : (((w.alloc (.cells numsRow 3)).alloc (.cells numsRow 3)).alloc (.cells errsRow 27)).heap.size = w.heap.size + 1 + 1 + 1 := by simp
  generalize ((w.alloc (.cells numsRow 3)).alloc (.cells numsRow 3)).alloc (.cells errsRow 27) = W at *
  obtain ⟨N, hN⟩ : ∃ N, N = w.heap.size := ⟨_, rfl⟩
  have R1 := Lib.hid r1
  have R2 := Lib.hid r2
  have R3 : Hid (∀ k : Nat, k < 9 → W.cell? ⟨w.heap.size + 1 + 1, k, none⟩ = some (errV ((k : Int) + 1))) := fun k hk => by rw [cell_of_row W _ _ _ _ _ r3]; exact errs_at k hk
  have RZ := Lib.hid rz
  clear r1 r2 r3 rz hN N
  go_wp2_with fail
  go_loop [4] (fun i => ∃ k : Nat, k ≤ 9 ∧ i = .int .i64 k) (fun i => 9 - (intOf i).toNat)
  case atStart => exact ⟨0, Nat.zero_le _, rfl⟩
  case round =>
    obtain ⟨k, hk, rfl⟩ := hrel
    by_cases hlt : k < 9
    · have g := R3.out k hlt
      go_wp2_with (go_at_call 5; refine (same_refl _ (by omega) _).mono ?_; rintro e w9 ⟨rfl, rfl⟩)
      go_round
      case rel => exact ⟨k + 1, by omega, by go_num⟩
      case measure => simp [intOf]; omega
    · obtain rfl : k = 9 := by omega
      clear R3
      go_upto_region 10 with (first
        | (go_at_call 6; refine (forms_any _).mono ?_; rintro e w1 ⟨rfl, hb1⟩; have hsz := hb1.size)
        | (refine wpList_store_rowTo rfl _ _ _ rfl rfl w1.heap.size formsRow (by kernel_rfl) rfl 31 formsZero (heap_alloc_new _ _) (by kernel_rfl) rfl (by kernel_rfl) ?_))
      have s1 : ((w1.alloc (.cells formsZero 31)).setRow w1.heap.size formsRow).heap[w1.heap.size]? = some (.cells formsRow 31 (0, 0)) := heap_setRow_same (heap_alloc_new _ _)
      have s2 : Below W.heap.size W ((w1.alloc (.cells formsZero 31)).setRow w1.heap.size formsRow) := below_setRow (hb1.alloc hsz _) hsz _
      have s3 : w1.heap.size < ((w1.alloc (.cells formsZero 31)).setRow w1.heap.size formsRow).heap.size := by simp
      unfold formsZero at s1 s2 s3
      generalize ((w1.alloc (.cells _ 31)).setRow w1.heap.size formsRow) = W2 at *
      have rz := RZ.out
      have n1 : IntRow W2 w.heap.size 0 numsL := intRow_of (t := 3) ((s2.block _ (by omega)).trans R1.out)
      have n2 : IntRow W2 (w.heap.size + 1) 0 numsL := intRow_of (t := 3) ((s2.block _ (by omega)).trans R2.out)
      have N1 : Hid (∀ wx, Below W2.heap.size W2 wx → IntRow wx w.heap.size 0 numsL) := fun wx hb i x hx => (hb.cell (p := ⟨_, _, none⟩) (by have := s2.size; simp only; omega)).trans (n1 i x hx)
      have N2 : Hid (∀ wx, Below W2.heap.size W2 wx → IntRow wx (w.heap.size + 1) 0 numsL) := fun wx hb i x hx => (hb.cell (p := ⟨_, _, none⟩) (by have := s2.size; simp only; omega)).trans (n2 i x hx)
      have HF : Hid (∀ wx (i k : Nat), i < 9 → k < 4 → Below W2.heap.size W2 wx → wx.cell? ⟨w1.heap.size, i * 5 + 1 + k, none⟩ = some (.int .i64 (kindF i k))) := fun wx i k hi hk hb => (hb.cell (p := ⟨w1.heap.size, _, none⟩) s3).trans (by rw [cell_of_row W2 _ _ _ _ _ s1]; exact forms_at i k hi hk)
      have HN : Hid (∀ wx, Below W2.heap.size W2 wx → wx.cell? ⟨w1.heap.size, 40, none⟩ = some (.string ⟨#[115, 101, 110, 100]⟩)) := fun wx hb => (hb.cell (p := ⟨w1.heap.size, _, none⟩) s3).trans (by rw [cell_of_row W2 _ _ _ _ _ s1]; rfl)
      have hbW2 : Below w.heap.size w W2 := rb.trans (s2.mono (by omega))
      have hsW2 := hbW2.size
      have HB2 := Lib.hid hbW2
      clear s1 s2 s3 n1 n2 rz R1 R2 RZ hb1 hsz rb hbW2
      go_wp2_with fail
      go_loopw [6] (fun iv wr => ∃ i : Nat, i ≤ 9 ∧ iv = .int .i64 i ∧ Below W2.heap.size W2 wr) (fun iv _ => 9 - (intOf iv).toNat)
      case atStart => exact ⟨0, Nat.zero_le _, rfl, Below.refl _ _⟩
      case round =>
        obtain ⟨i, hi, rfl, hb⟩ := hrel
        by_cases hi9 : i < 9
        · go_wp2_with fail
          obtain ⟨wo, rfl⟩ : ∃ wo : World, wo = wr := ⟨_, rfl⟩
          go_loopw [7] (fun kv wi => ∃ k : Nat, k ≤ 4 ∧ kv = .int .i64 k ∧ Below W2.heap.size W2 wi) (fun kv _ => 4 - (intOf kv).toNat)
          case atStart => exact ⟨0, Nat.zero_le _, rfl, hb⟩
          case round =>
            obtain ⟨k, hk, rfl, hb3⟩ := hrel
            by_cases hk4 : k < 4
            · have g := HF.out _ i k hi9 hk4 hb3
              have HG : Hid (∀ wx, Below wr.drew.heap.size wr.drew wx → wx.cell? ⟨w1.heap.size, i * 5 + 1 + k, none⟩ = some (.int .i64 (kindF i k))) := fun wx hx => HF.out _ i k hi9 hk4 (below_then hb3.drew (Nat.le_refl _) hx)
              have HK := Lib.hid (fun w => kind_any i k w hi9 hk4)
              generalize kindF i k = z at *
              have x1 : (i : Int) < 9 := by omega
              have x2 : (0 : Int) ≤ (i : Int) := by omega
              have x3 : (k : Int) < 4 := by omega
              have x4 : (0 : Int) ≤ (k : Int) := by omega
              go_upto_region 16 with fail
              go_region_with (go_at_call 7; refine (HK.out _).mono ?_; rintro e w5 ⟨rfl, hb5⟩; have g5 := HG.out _ hb5)
              all_goals
                go_wp2
                go_roundw
                case rel =>
                  have H : Below W2.heap.size W2 w5 := by first | exact below_then hb3.drew (by omega) hb5 | exact hb3.drew.trans (hb5.mono (by have := hb3.size; simpa using this))
                  first
                    | exact ⟨k + 1, by omega, by go_num, H⟩
                    | (simp only [decide_eq_true x1]
                       repeat apply Exists.intro
                       refine (and_comm).mp ⟨rfl, ?_⟩
                       exact ⟨k + 1, by omega, by go_num, H⟩)
                case measure => simp [intOf]; omega
            · obtain rfl : k = 4 := by omega
              go_wp2_with fail
              go_roundw
              case rel => exact ⟨i + 1, by omega, by go_num, hb3⟩
              case measure => simp [intOf]; omega
        · obtain rfl : i = 9 := by omega
          have gN := HN.out _ hb
          have HS := Lib.hid (sameN_any w.heap.size 0 49 (w.heap.size + 1) 0 49 numsL)
          clear HF HN
          go_wp2_with (first
            | (go_at_call 8; refine (HS.out _ (N1.out _ hb) (N2.out _ hb) (by decide)).mono ?_; rintro e w6 ⟨rfl, hb6⟩; have hbb := below_then hb (Nat.le_refl _) hb6; have gN2 := (hb6.cell (p := ⟨w1.heap.size, 40, none⟩) (by exact block_lt_of_cell gN)).trans gN; clear gN)
            | (go_at_call 9; refine (errno_text _).mono ?_; rintro e w7 ⟨rfl, hb7⟩; have hbc := below_then hbb (Nat.le_refl _) hb7))
          go_ret
          exact ⟨rfl, HB2.out.trans (hbc.mono (by omega))⟩

end Go.Proofs.YtmgngapkgcofnaaDoor
