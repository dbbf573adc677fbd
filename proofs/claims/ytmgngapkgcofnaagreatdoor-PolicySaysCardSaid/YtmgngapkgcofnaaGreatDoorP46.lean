/- Addresses as bytes: addr.Bytes, addr.Read; the reference's AddrBytes, AddrOf: the walks. -/
import Derived.Test.YtmgngapkgcofnaaGreatDoorP29
import Derived.Deep.RegionLaw
import Derived.Laws.MakeOwn
namespace Go.Proofs.YtmgngapkgcofnaaGreatDoor
open Go.RowKit Go.PlainAid

def head8 (ip port : Nat) : List UInt8 := [2, 0, UInt8.ofNat (port / 256), UInt8.ofNat (port % 256), UInt8.ofNat (ip / 16777216), UInt8.ofNat (ip / 65536 % 256), UInt8.ofNat (ip / 256 % 256), UInt8.ofNat (ip % 256)]
theorem bytesA_eq (ip port : Nat) : bytesA ip port = head8 ip port ++ [0, 0, 0, 0, 0, 0, 0, 0] := rfl
/-- The eight cells ahead. -/
def cells8A (ip port : Nat) : Array Value := #[.int .u8 2, .int .u8 0, .int .u8 ((port / 256 : Nat) : Int), .int .u8 ((port % 256 : Nat) : Int), .int .u8 ((ip / 16777216 : Nat) : Int), .int .u8 ((ip / 65536 % 256 : Nat) : Int), .int .u8 ((ip / 256 % 256 : Nat) : Int), .int .u8 ((ip % 256 : Nat) : Int)]

theorem ofNat_255 {n : Nat} (h : n < 256) : ((UInt8.ofNat n).toNat : Int) = (n : Int) := by simp; omega
theorem add_plainA (b o j : Nat) : (⟨b, o, none⟩ : Addr).add j = ⟨b, o + j, none⟩ := by unfold Addr.add; split <;> simp_all
theorem conv8 (W : World) (b c : Nat) (l : List UInt8) (cs : Array Value) (hc : W.heap[b]? = some (.cells cs 5 (0, 0))) (hcs : ∀ (j : Nat) (hj : j < l.length), cs[j]? = some (.int .u8 (l[j].toNat : Int))) :
    (convert 88 9 (.slice (some ⟨b, 0, none⟩) l.length c)).run Tryz.prog W = .ok (.string ⟨l.toArray⟩) W := by
  refine run_convert_bytes_back W 88 9 5 ⟨b, 0, none⟩ c l Tryz.underlying88 Tryz.underlying5 Tryz.underlying9 (fun j hj => ?_)
  rw [add_plainA, Nat.zero_add, cell_of_row _ _ _ _ _ _ hc]
  exact hcs j hj

def rw16 (a b : Nat) (xs : List Nat) : Array Value := #[.int .u8 2, .int .u8 0, .int .u8 (a : Int), .int .u8 (b : Int), .int .u8 (xs.getD 0 0 : Nat), .int .u8 (xs.getD 1 0 : Nat), .int .u8 (xs.getD 2 0 : Nat), .int .u8 (xs.getD 3 0 : Nat), .int .u8 0, .int .u8 0, .int .u8 0, .int .u8 0, .int .u8 0, .int .u8 0, .int .u8 0, .int .u8 0]
theorem rw16_set (a b : Nat) (xs : List Nat) (x : Nat) (h : xs.length < 4) : (rw16 a b xs).setIfInBounds (4 + xs.length) (.int .u8 (x : Int)) = rw16 a b (xs ++ [x]) := by
  match xs, h with
  | [], _ => rfl
  | [p], _ => rfl
  | [p, q], _ => rfl
  | [p, q, r], _ => rfl
theorem rw16_store {w : World} {g a b : Nat} {xs : List Nat} (h : w.heap[g]? = some (.cells (rw16 a b xs) 5 (0, 0))) (j : Nat) (hj : j < 16) : (∃ v, w.cell? ⟨g, j, none⟩ = some v) ∧ w.frozen? ⟨g, j, none⟩ = false := by
  refine ⟨?_, frozen_of_row _ _ _ _ _ h⟩
  rw [cell_of_row _ _ _ _ _ _ h]
  exact ⟨_, Array.getElem?_eq_getElem (by simp [rw16]; omega)⟩
theorem rw16_put {w : World} {g a b : Nat} {xs : List Nat} (h : w.heap[g]? = some (.cells (rw16 a b xs) 5 (0, 0))) (hl : xs.length < 4) (x : Nat) : (w.setCell ⟨g, 4 + xs.length, none⟩ (.int .u8 (x : Int))).heap[g]? = some (.cells (rw16 a b (xs ++ [x])) 5 (0, 0)) := by
  rw [heap_setCell_same w _ _ _ _ _ h, rw16_set a b xs x hl]
theorem run_make16 (w : World) : (Instr.makeSlice 88 (.int .i64 16) (.int .i64 16)).run Tryz.prog w = .ok (.slice (some ⟨w.heap.size, 0, none⟩) 16 16) (w.alloc (.cells #[.int .u8 0, .int .u8 0, .int .u8 0, .int .u8 0, .int .u8 0, .int .u8 0, .int .u8 0, .int .u8 0, .int .u8 0, .int .u8 0, .int .u8 0, .int .u8 0, .int .u8 0, .int .u8 0, .int .u8 0, .int .u8 0] 5)) := by
  obtain ⟨i0, hi, hz0, hz1, hz2⟩ := info_parts (show (Tryz.prog.info? 5).map (fun i => (i.zero, i.size, i.bytes)) = some (some (.int .u8 0), 1, 1) by kernel_rfl)
  have := run_make w 88 5 i0 (.int .u8 0) Tryz.underlying88 hi hz0 .i64 .i64 16 16 (by omega) (by omega) (by rw [hz2]; omega) (by omega)
  have hm : madeCells (Value.int .u8 0).cells 16 = #[.int .u8 0, .int .u8 0, .int .u8 0, .int .u8 0, .int .u8 0, .int .u8 0, .int .u8 0, .int .u8 0, .int .u8 0, .int .u8 0, .int .u8 0, .int .u8 0, .int .u8 0, .int .u8 0, .int .u8 0, .int .u8 0] := by kernel_rfl
  rw [this, hz1, show (16 : Int).toNat * 1 = 16 from rfl, hm]
  rfl

end Go.Proofs.YtmgngapkgcofnaaGreatDoor
