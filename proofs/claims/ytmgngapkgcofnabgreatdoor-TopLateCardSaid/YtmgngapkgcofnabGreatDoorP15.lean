/- glob.skip: the walk. -/
import Derived.Test.YtmgngapkgcofnabGreatDoorP13
import Derived.Deep.RegionWith
import Derived.Deep.CutRange
namespace Go.Proofs.YtmgngapkgcofnabGreatDoor
open Go.RowKit
def boolRow (n : Nat) (f : Nat → Bool) : Array Value := (Array.range n).map fun i => Value.bool (f i)
theorem boolRow_size (n : Nat) (f : Nat → Bool) : (boolRow n f).size = n := by simp [boolRow]
theorem boolRow_at {n : Nat} (f : Nat → Bool) {i : Nat} (h : i < n) : (boolRow n f)[i]? = some (.bool (f i)) := by simp [boolRow, h]
theorem boolRow_set (n : Nat) (f : Nat → Bool) (k : Nat) (v : Bool) : (boolRow n f).setIfInBounds k (.bool v) = boolRow n (upd f k v) := by
 have hs : (boolRow n f).size = n := boolRow_size n f; apply Array.ext (by simp [boolRow]); intro i h1 h2; rw [Array.getElem_setIfInBounds (by simpa [boolRow] using h1)]; simp only [boolRow, Array.getElem_map, Array.getElem_range, upd]
 by_cases h : i = k
 ·subst h; simp
 ·rw [if_neg (by omega), if_neg h]
def BoolsAt (w : World) (b n : Nat) (f : Nat → Bool) : Prop := w.heap[b]? = some (.cells (boolRow n f) 4 (0, 0))
theorem BoolsAt.frozen {w : World} {b n : Nat} {f : Nat → Bool} (h : BoolsAt w b n f) (i : Nat) : w.frozen? ⟨b, i, none⟩ = false := by
 have h' : w.heap[b]? = some (.cells (boolRow n f) 4 (0, 0)) := h; simp [World.frozen?, h']
theorem BoolsAt.set {w : World} {b n : Nat} {f : Nat → Bool} (h : BoolsAt w b n f) (i : Nat) (v : Bool) : BoolsAt (w.setCell ⟨b, i, none⟩ (.bool v)) b n (upd f i v) := by
 have h' : w.heap[b]? = some (.cells (boolRow n f) 4 (0, 0)) := h; show _ = _; rw [← boolRow_set]; simp [World.setCell, Array.getElem?_modify, h']
theorem BoolsAt.at {w : World} {b n : Nat} {f : Nat → Bool} (h : BoolsAt w b n f) {i : Nat} (hi : i < n) : w.cell? ⟨b, i, none⟩ = some (.bool (f i)) := by
 rw [cell_of_row w _ _ _ _ _ h]; exact boolRow_at f hi
set_option maxRecDepth 100000 in
set_option maxHeartbeats 1000000 in
theorem skip_any (pb cp b : Nat) (l : List Part) (f : Nat → Bool) (w : World) (hp : PartsAt w pb 0 l) (hpb : pb < b) (hlen : l.length ≤ 4096) (hb : BoolsAt w b (l.length + 1) f) :
  Calls Tryz.prog 173 #[.slice (some ⟨pb, 0, none⟩) l.length cp, .slice (some ⟨b, 0, none⟩) (l.length + 1 : Nat) (l.length + 1 : Nat)] w fun e w' => e = .returned (.tuple #[]) ∧ BoolsAt w' b (l.length + 1) (skipF l f l.length) ∧ Below b w w' := by
 have HP := Lib.hid hp; clear hp
 have hbsz : b < w.heap.size := by
  rcases Nat.lt_or_ge b w.heap.size with h | h
  ·exact h
  ·simp [BoolsAt, Array.getElem?_eq_none h] at hb
 go_enter Tryz.func173, Tryz.ntmps173
 go_wp2_with fail
 go_loopw [8] (fun i wr => ∃ k : Nat, k ≤ l.length ∧ i = .int .i64 k ∧ BoolsAt wr b (l.length + 1) (skipF l f k) ∧ Below b w wr) (fun i _ => l.length - (intOf i).toNat)
 case atStart => exact ⟨0, Nat.zero_le _, rfl, hb, Below.refl _ _⟩
 case round =>
  obtain ⟨k, hk, rfl, hbo, hbl⟩ := hrel
  by_cases hlt : k < l.length
  ·have hP : PartsAt wr pb 0 l := HP.out.below hbl hpb; have hl : l[k]? = some l[k] := by simp
   have HY := Lib.hid (fun h1 h2 => skipF_yes (f := f) hl h1 h2); have HN := Lib.hid (fun h1 => skipF_no (f := f) hl h1); have hc := hP k l[k] hl; generalize l[k] = p at *
   have hsz := hbl.size; generalize skipF l f k = g at *
   have g0 : wr.cell? ⟨b, k, none⟩ = some (.bool (g k)) := by rw [cell_of_row wr _ _ _ _ _ hbo]; exact boolRow_at g (by omega)
   have x1 : (k : Int) < (l.length : Int) := by omega
   have x2 : (0 : Int) ≤ (k : Int) := by omega
   have HC : Hid (∀ j v, p.row[j]? = some v → wr.cell? ((⟨pb, k * 257, none⟩ : Addr).add j) = some v) := fun j v hv => by
    rw [add_plain]; simpa using hc j v hv
   clear hc; obtain ⟨W2, hW2, c1, c2, c3⟩ := part_copy wr p; have c4 : Below b w W2 := hbl.trans (c2.mono (by omega)); have c5 : BoolsAt W2 b (l.length + 1) g := (c2.block b (by omega)).trans hbo; have c6 : b < W2.heap.size := by omega
   have c7 : W2.cell? ⟨wr.heap.size, 256, none⟩ = some (.bool p.many) := by rw [cell_of_row W2 _ _ _ _ _ c1]; exact p.row_many
   have c8 : W2.cell? ⟨b, k, none⟩ = some (.bool (g k)) := by rw [cell_of_row W2 _ _ _ _ _ c5]; exact boolRow_at g (by omega)
   have c9 : W2.cell? ⟨b, k + 1, none⟩ = some (.bool (g (k + 1))) := by rw [cell_of_row W2 _ _ _ _ _ c5]; exact boolRow_at g (by omega)
   clear hP hbo
   go_upto_region 3 with (first
    | (refine part_load rfl (.tmp 11) rfl (some 12) rfl ⟨pb, k * 257, none⟩ (by simp [Act.eval]) p HC.out ?_)
    | (refine part_store rfl (.tmp 5) (.tmp 12) rfl rfl wr.heap.size p (by simp [Act.eval]) (by simp [Act.eval]) Tryz.zeroCells275 (heap_alloc_new _ _) Tryz.zeroCells275_size ?_))
   rw [hW2]; clear hW2 HC; generalize p.row = R at *
   cases hgk : g k with
   | false =>
    rw [hgk] at c8; rw [← HN.out (Or.inl hgk)] at c5
    go_wp2_with fail; go_roundw
    case rel => exact ⟨k + 1, by omega, by go_num, c5, c4⟩
    case measure => simp [intOf]; omega
   | true =>
    rw [hgk] at c8
    cases hm : p.many with
    | false =>
     rw [hm] at c7; rw [← HN.out (Or.inr hm)] at c5
     go_wp2_with fail; go_roundw
     case rel => exact ⟨k + 1, by omega, by go_num, c5, c4⟩
     case measure => simp [intOf]; omega
    | true =>
     rw [hm] at c7; have c10 := c5.frozen (k + 1); have c11 := Lib.hid (c5.set (k + 1) true); have c12 : Hid (Below b w (W2.setCell ⟨b, k + 1, none⟩ (.bool true))) := c4.setCell (Nat.le_refl _) _
     go_wp2_with fail; go_roundw
     case rel => exact ⟨k + 1, by omega, by go_num, by rw [HY.out hgk hm]; exact c11.out, c12.out⟩
     case measure => simp [intOf]; omega
  ·obtain rfl : k = l.length := by omega
   go_wp2_with fail
   go_end0
   exact ⟨rfl, hbo, hbl⟩
end Go.Proofs.YtmgngapkgcofnabGreatDoor
