/- glob.any: the walk; one part in a block of its own. -/
import Derived.Test.YtmgngapkgcofnabPart
import Derived.Deep.RegionWith
import Derived.Deep.CutRange
namespace Go.Proofs.Ytmgngapkgcofnab
open Go.RowKit

theorem Part.row_set (p : Part) (k : Nat) (v : Bool) (hk : k < 256) : p.row.setIfInBounds k (.bool v) = (⟨upd p.has k v, p.many⟩ : Part).row := by
  apply Array.ext (by simp [Part.row])
  intro i h1 h2
  have h3 : i < 257 := by simpa [Part.row] using h2
  rw [Array.getElem_setIfInBounds (by simpa [Part.row] using h1)]
  simp only [Part.row, Array.getElem_push, Array.size_map, Array.size_range, Array.getElem_map, Array.getElem_range, upd]
  by_cases h : i = k
  · subst h; simp [hk]
  · rw [if_neg (by omega)]
    split
    · first | rfl | rw [if_neg h]
    · rfl

/-- A block that holds one part. -/
def PartAt (w : World) (b : Nat) (p : Part) : Prop := w.heap[b]? = some (.cells p.row 94 (0, 0))
theorem PartAt.frozen {w : World} {b : Nat} {p : Part} (h : PartAt w b p) (i : Nat) : w.frozen? ⟨b, i, none⟩ = false := by
  have h' : w.heap[b]? = some (.cells p.row 94 (0, 0)) := h
  simp [World.frozen?, h']
theorem PartAt.set {w : World} {b : Nat} {p : Part} (h : PartAt w b p) {i : Nat} (hi : i < 256) (v : Bool) : PartAt (w.setCell ⟨b, i, none⟩ (.bool v)) b ⟨upd p.has i v, p.many⟩ := by
  have h' : w.heap[b]? = some (.cells p.row 94 (0, 0)) := h
  show _ = _
  rw [← Part.row_set _ _ _ hi]
  simp [World.setCell, Array.getElem?_modify, h']
theorem PartAt.at {w : World} {b : Nat} {p : Part} (h : PartAt w b p) {i : Nat} (hi : i < 256) : w.cell? ⟨b, i, none⟩ = some (.bool (p.has i)) := by
  rw [cell_of_row w _ _ _ _ _ h]; exact p.row_at hi
theorem PartAt.mark {w : World} {b : Nat} {p : Part} (h : PartAt w b p) : w.cell? ⟨b, 256, none⟩ = some (.bool p.many) := by
  rw [cell_of_row w _ _ _ _ _ h]; exact p.row_many
theorem PartAt.all {w : World} {b : Nat} {p : Part} (h : PartAt w b p) : ∀ j v, p.row[j]? = some v → w.cell? ((⟨b, 0, none⟩ : Addr).add j) = some v := fun j v hv => by
  rw [add_plain, cell_of_row w _ _ _ _ _ h]; simpa using hv

/-- What any makes. -/
def anyK (slash many : Bool) (k : Nat) : Part := ⟨fun i => decide (i < k) && (slash || i != 47), many⟩
theorem anyK_step (slash many : Bool) (k : Nat) : (⟨upd (anyK slash many k).has k (slash || k != 47), many⟩ : Part) = anyK slash many (k + 1) := by
  unfold anyK upd
  congr 1
  funext i
  by_cases h : i = k
  · subst h; simp
  · rw [if_neg h]
    have e : decide (i < k) = decide (i < k + 1) := by rw [decide_eq_decide]; omega
    rw [← e]
theorem anyK_full (slash many : Bool) : (anyK slash many 256).row = (anyP slash many).row := by
  unfold anyK anyP Part.row
  congr 1
  apply Array.ext (by simp)
  intro i h1 h2
  have : i < 256 := by simpa using h1
  simp [this]

set_option maxRecDepth 100000 in
set_option maxHeartbeats 1000000 in
theorem any_any (slash many : Bool) (w : World) :
    Calls Try.prog 32 #[.bool slash, .bool many] w fun e w' => e = .returned (.agg (anyP slash many).row) ∧ Below w.heap.size w w' := by
  have hz : (anyK slash many 0) = ⟨fun _ => false, many⟩ := by unfold anyK; simp
  go_enter Try.func32, Try.ntmps32
  go_upto_region 2 with (first
    | (refine wpList_buildTo rfl _ _ rfl (some 8) rfl (⟨fun _ => false, many⟩ : Part).row (by cases many <;> kernel_rfl) ?_)
    | (refine part_store rfl (.tmp 5) (.tmp 8) rfl rfl (w.heap.size + 1) ⟨fun _ => false, many⟩ (by simp [Act.eval]) (by simp [Act.eval]) Try.zeroCells94 (by simpa using heap_alloc_new (w.alloc _) _) Try.zeroCells94_size ?_))
  have s1 : PartAt (((w.alloc (.cells Try.zeroCells94 94)).alloc (.cells Try.zeroCells94 94)).setRow (w.heap.size + 1) (⟨fun _ => false, many⟩ : Part).row) (w.heap.size + 1) (anyK slash many 0) := by
    rw [hz]; exact heap_setRow_at (by simpa using heap_alloc_new (w.alloc _) _)
  have s2 : Below (w.heap.size + 1) (w.alloc (.cells Try.zeroCells94 94)) (((w.alloc (.cells Try.zeroCells94 94)).alloc (.cells Try.zeroCells94 94)).setRow (w.heap.size + 1) (⟨fun _ => false, many⟩ : Part).row) :=
    below_setRow_at ((Below.refl _ _).alloc (by simp) _) (Nat.le_refl _) _
  generalize ((w.alloc (.cells Try.zeroCells94 94)).alloc (.cells Try.zeroCells94 94)).setRow (w.heap.size + 1) (⟨fun _ => false, many⟩ : Part).row = W0 at *
  generalize (⟨fun _ => false, many⟩ : Part).row = R at *
  have s0 : (w.alloc (.cells Try.zeroCells94 94)).heap[w.heap.size]? = some (.cells Try.zeroCells94 94 (0, 0)) := heap_alloc_new _ _
  have sB : Below w.heap.size w (w.alloc (.cells Try.zeroCells94 94)) := (Below.refl _ _).alloc (Nat.le_refl _) _
  have sS : (w.alloc (.cells Try.zeroCells94 94)).heap.size = w.heap.size + 1 := by simp
  generalize w.alloc (.cells Try.zeroCells94 94) = V at *
  go_wp2_with fail
  go_loopw [9] (fun i wr => ∃ k : Nat, k ≤ 256 ∧ i = .int .i64 k ∧ PartAt wr (w.heap.size + 1) (anyK slash many k) ∧ Below (w.heap.size + 1) V wr) (fun i _ => 256 - (intOf i).toNat)
  case atStart => exact ⟨0, Nat.zero_le _, rfl, s1, s2⟩
  case round =>
    obtain ⟨k, hk, rfl, hp, hb⟩ := hrel
    clear s1 s2
    by_cases hlt : k < 256
    · have f1 := hp.frozen k
      have f2 := hp.at hlt
      have f3 : Hid (PartAt (wr.setCell ⟨w.heap.size + 1, k, none⟩ (.bool (slash || k != 47))) (w.heap.size + 1) ⟨upd (anyK slash many k).has k (slash || k != 47), many⟩) := hp.set hlt (slash || k != 47)
      have f4 : Hid (Below (w.heap.size + 1) V (wr.setCell ⟨w.heap.size + 1, k, none⟩ (.bool (slash || k != 47)))) := hb.setCell (Nat.le_refl _) _
      have f5 := Lib.hid (anyK_step slash many k)
      generalize (anyK slash many k).has k = v0 at *
      have x1 : (k : Int) < 256 := by omega
      have x2 : (0 : Int) ≤ (k : Int) := by omega
      cases slash with
      | true =>
        go_wp2_with fail
        go_roundw
        case rel => exact ⟨k + 1, by omega, by go_num, by have := f3.out; rw [← f5.out]; simpa using this, by simpa using f4.out⟩
        case measure => simp [intOf]; omega
      | false =>
        by_cases h47 : k = 47
        · subst h47
          go_wp2_with fail
          go_roundw
          case rel => exact ⟨48, by omega, by go_num, by have := f3.out; rw [← f5.out]; simpa using this, by simpa using f4.out⟩
          case measure => simp [intOf]
        · have h47' : ((k : Int) != 47) = true := by simp; omega
          have h47n : (k != 47) = true := by simpa using h47
          rw [h47n] at f3 f4 f5
          go_wp2_with fail
          go_roundw
          case rel => exact ⟨k + 1, by omega, by go_num, by have := f3.out; rw [← f5.out]; simpa using this, by simpa using f4.out⟩
          case measure => simp [intOf]; omega
    · obtain rfl : k = 256 := by omega
      have e0 : wr.heap[w.heap.size]? = some (.cells Try.zeroCells94 94 (0, 0)) := (hb.block _ (by omega)).trans s0
      have hsz := hb.size
      have HA := Lib.hid hp.all
      go_wp2_with (first
        | (refine part_load rfl (.tmp 5) rfl (some 21) rfl ⟨w.heap.size + 1, 0, none⟩ (by simp [Act.eval]) (anyK slash many 256) HA.out ?_)
        | (refine part_store rfl (.tmp 4) (.tmp 21) rfl rfl w.heap.size (anyK slash many 256) (by simp [Act.eval, Act.put]) (by simp [Act.eval, Act.put]) Try.zeroCells94 e0 Try.zeroCells94_size ?_))
      refine bodyPost_ret (results_cell_row rfl _ _ w.heap.size 94 (anyK slash many 256).row (0, 0) _ (by simp [Act.put]) (heap_setRow_at e0) Try.underlying94 rfl (by rw [Part.row_size]; exact part_info)) (by rfl) ?_
      exact ⟨by rw [anyK_full], below_setRow_at (sB.trans (hb.mono (by omega))) (Nat.le_refl _) _⟩

end Go.Proofs.Ytmgngapkgcofnab
