/- Addresses as bytes: addr.Bytes, addr.Read; the reference's AddrBytes, AddrOf: the walks. -/
import Derived.Test.YtmgngapkgcofnabDoorNetHas
import Derived.Deep.RegionLaw
import Derived.Laws.MakeOwn
namespace Go.Proofs.YtmgngapkgcofnabDoor
open Go.RowKit Go.PlainAid

def head8 (ip port : Nat) : List UInt8 := [2, 0, UInt8.ofNat (port / 256), UInt8.ofNat (port % 256), UInt8.ofNat (ip / 16777216), UInt8.ofNat (ip / 65536 % 256), UInt8.ofNat (ip / 256 % 256), UInt8.ofNat (ip % 256)]
theorem bytesA_eq (ip port : Nat) : bytesA ip port = head8 ip port ++ [0, 0, 0, 0, 0, 0, 0, 0] := rfl
/-- The eight cells ahead. -/
def cells8 (ip port : Nat) : Array Value := #[.int .u8 2, .int .u8 0, .int .u8 ((port / 256 : Nat) : Int), .int .u8 ((port % 256 : Nat) : Int), .int .u8 ((ip / 16777216 : Nat) : Int), .int .u8 ((ip / 65536 % 256 : Nat) : Int), .int .u8 ((ip / 256 % 256 : Nat) : Int), .int .u8 ((ip % 256 : Nat) : Int)]

theorem ofNat_255 {n : Nat} (h : n < 256) : ((UInt8.ofNat n).toNat : Int) = (n : Int) := by simp; omega
theorem add_plain (b o j : Nat) : (⟨b, o, none⟩ : Addr).add j = ⟨b, o + j, none⟩ := by unfold Addr.add; split <;> simp_all
theorem conv8 (W : World) (b c : Nat) (l : List UInt8) (cs : Array Value) (hc : W.heap[b]? = some (.cells cs 5 (0, 0))) (hcs : ∀ (j : Nat) (hj : j < l.length), cs[j]? = some (.int .u8 (l[j].toNat : Int))) :
    (convert 66 9 (.slice (some ⟨b, 0, none⟩) l.length c)).run Tryd.prog W = .ok (.string ⟨l.toArray⟩) W := by
  refine run_convert_bytes_back W 66 9 5 ⟨b, 0, none⟩ c l Tryd.underlying66 Tryd.underlying5 Tryd.underlying9 (fun j hj => ?_)
  rw [add_plain, Nat.zero_add, cell_of_row _ _ _ _ _ _ hc]
  exact hcs j hj

set_option linter.unusedSimpArgs false in
set_option maxRecDepth 100000 in
set_option maxHeartbeats 4000000 in
theorem bytes_any (ip : Nat) (port : Int) (w : World) (hip : ip < 4294967296) :
    Calls Tryd.prog 5 #[.int .u32 ip, .int .i64 port] w fun e w' => e = .returned (if port < 0 ∨ 65535 < port then .tuple #[.string ⟨#[]⟩, .iface 64 (.int .i64 1)] else .tuple #[.string ⟨(bytesA ip port.toNat).toArray⟩, .nilIface]) ∧ Below w.heap.size w w' := by
  by_cases h0 : port < 0
  · rw [if_pos (Or.inl h0)]
    go_enter Tryd.func5, Tryd.ntmps5
    go_wp2_with fail
    go_returns
    exact ⟨rfl, Below.refl _ _⟩
  · by_cases h1 : 65535 < port
    · rw [if_pos (Or.inr h1)]
      go_enter Tryd.func5, Tryd.ntmps5
      go_wp2_with fail
      go_returns
      exact ⟨rfl, Below.refl _ _⟩
    · rw [if_neg (by omega)]
      obtain ⟨p, rfl⟩ : ∃ p : Nat, port = p := ⟨port.toNat, by omega⟩
      rw [Int.toNat_natCast]
      have hp : p < 65536 := by omega
      have HRP : Hid (∀ w, Calls Tryd.prog 20 #[.string ⟨#[0]⟩, .int .i64 8] w fun e w' => e = .returned (.string ⟨#[0, 0, 0, 0, 0, 0, 0, 0]⟩) ∧ Below w.heap.size w w') := fun w => Tryd.repeat_any ⟨#[0]⟩ 8 w (by omega) (by decide)
      obtain ⟨n2, N2⟩ : ∃ n : Nat, Hid (n = p / 256) := ⟨p / 256, rfl⟩
      obtain ⟨n3, N3⟩ : ∃ n : Nat, Hid (n = p % 256) := ⟨p % 256, rfl⟩
      obtain ⟨n4, N4⟩ : ∃ n : Nat, Hid (n = ip / 16777216) := ⟨ip / 16777216, rfl⟩
      obtain ⟨n5, N5⟩ : ∃ n : Nat, Hid (n = ip / 65536 % 256) := ⟨ip / 65536 % 256, rfl⟩
      obtain ⟨n6, N6⟩ : ∃ n : Nat, Hid (n = ip / 256 % 256) := ⟨ip / 256 % 256, rfl⟩
      obtain ⟨n7, N7⟩ : ∃ n : Nat, Hid (n = ip % 256) := ⟨ip % 256, rfl⟩
      have v2 : IntKind.u8.wrap ((p : Int) / 256) = (n2 : Int) := by simp only [IntKind.wrap_u8]; have := N2.out; omega
      have v3 : IntKind.u8.wrap (p : Int) = (n3 : Int) := by simp only [IntKind.wrap_u8]; have := N3.out; omega
      have v4 : IntKind.u8.wrap ((ip : Int) / 16777216) = (n4 : Int) := by simp only [IntKind.wrap_u8]; have := N4.out; omega
      have v5 : IntKind.u8.wrap ((ip : Int) / 65536) = (n5 : Int) := by simp only [IntKind.wrap_u8]; have := N5.out; omega
      have v6 : IntKind.u8.wrap ((ip : Int) / 256) = (n6 : Int) := by simp only [IntKind.wrap_u8]; have := N6.out; omega
      have v7 : IntKind.u8.wrap (ip : Int) = (n7 : Int) := by simp only [IntKind.wrap_u8]; have := N7.out; omega
      have HBY : Hid (bytesA ip p = [2, 0, UInt8.ofNat n2, UInt8.ofNat n3, UInt8.ofNat n4, UInt8.ofNat n5, UInt8.ofNat n6, UInt8.ofNat n7] ++ [0, 0, 0, 0, 0, 0, 0, 0]) := by
        show _ = _
        rw [N2.out, N3.out, N4.out, N5.out, N6.out, N7.out]; rfl
      have b2 : n2 < 256 := by have := N2.out; omega
      have b3 : n3 < 256 := by have := N3.out; omega
      have b4 : n4 < 256 := by have := N4.out; omega
      have b5 : n5 < 256 := by have := N5.out; omega
      have b6 : n6 < 256 := by have := N6.out; omega
      have b7 : n7 < 256 := by have := N7.out; omega
      have HCV : Hid (∀ (W : World) (b : Nat), W.heap[b]? = some (.cells #[.int .u8 2, .int .u8 0, .int .u8 (n2 : Int), .int .u8 (n3 : Int), .int .u8 (n4 : Int), .int .u8 (n5 : Int), .int .u8 (n6 : Int), .int .u8 (n7 : Int)] 5 (0, 0)) → (convert 66 9 (.slice (some ⟨b, 0, none⟩) 8 8)).run Tryd.prog W = .ok (.string ⟨[2, 0, UInt8.ofNat n2, UInt8.ofNat n3, UInt8.ofNat n4, UInt8.ofNat n5, UInt8.ofNat n6, UInt8.ofNat n7].toArray⟩) W) := fun W b h => conv8 W b 8 [2, 0, UInt8.ofNat n2, UInt8.ofNat n3, UInt8.ofNat n4, UInt8.ofNat n5, UInt8.ofNat n6, UInt8.ofNat n7] _ h (fun j hj => by
        have hj8 : j = 0 ∨ j = 1 ∨ j = 2 ∨ j = 3 ∨ j = 4 ∨ j = 5 ∨ j = 6 ∨ j = 7 := by simp at hj; omega
        rcases hj8 with rfl | rfl | rfl | rfl | rfl | rfl | rfl | rfl
        · rfl
        · rfl
        · exact congrArg (fun z => some (Value.int .u8 z)) (ofNat_255 b2).symm
        · exact congrArg (fun z => some (Value.int .u8 z)) (ofNat_255 b3).symm
        · exact congrArg (fun z => some (Value.int .u8 z)) (ofNat_255 b4).symm
        · exact congrArg (fun z => some (Value.int .u8 z)) (ofNat_255 b5).symm
        · exact congrArg (fun z => some (Value.int .u8 z)) (ofNat_255 b6).symm
        · exact congrArg (fun z => some (Value.int .u8 z)) (ofNat_255 b7).symm)
      obtain ⟨H8, HH8⟩ : ∃ H, Hid ([2, 0, UInt8.ofNat n2, UInt8.ofNat n3, UInt8.ofNat n4, UInt8.ofNat n5, UInt8.ofNat n6, UInt8.ofNat n7] = H) := ⟨_, rfl⟩
      rw [HH8.out] at HBY HCV
      have hcv0 : ∀ W : World, (convert 66 9 (.slice (some ⟨W.heap.size, 0, none⟩) 8 8)).run Tryd.prog (W.alloc (.cells #[.int .u8 2, .int .u8 0, .int .u8 (n2 : Int), .int .u8 (n3 : Int), .int .u8 (n4 : Int), .int .u8 (n5 : Int), .int .u8 (n6 : Int), .int .u8 (n7 : Int)] 5)) = .ok (.string ⟨H8.toArray⟩) (W.alloc (.cells #[.int .u8 2, .int .u8 0, .int .u8 (n2 : Int), .int .u8 (n3 : Int), .int .u8 (n4 : Int), .int .u8 (n5 : Int), .int .u8 (n6 : Int), .int .u8 (n7 : Int)] 5)) := fun W => HCV.out _ _ (heap_alloc_new W _)
      have hcv1 : ∀ W : World, (convert 66 9 (.slice (some ⟨W.heap.size, 0, none⟩) 8 8)).run Tryd.prog (W.alloc (.cells #[.int .u8 2, .int .u8 0, .int .u8 (n2 : Int), .int .u8 (n3 : Int), .int .u8 (n4 : Int), .int .u8 (n5 : Int), .int .u8 (n6 : Int), .int .u8 (n7 : Int)] 5)).drew = .ok (.string ⟨H8.toArray⟩) (W.alloc (.cells #[.int .u8 2, .int .u8 0, .int .u8 (n2 : Int), .int .u8 (n3 : Int), .int .u8 (n4 : Int), .int .u8 (n5 : Int), .int .u8 (n6 : Int), .int .u8 (n7 : Int)] 5)).drew := fun W => HCV.out _ _ (heap_alloc_new W _)
      have hl8 : H8.length = 8 := by rw [← HH8.out]; rfl
      have g1 : ¬ 9223372036854775807 < H8.length + 8 := by omega
      clear b2 b3 b4 b5 b6 b7 hp hip
      go_enter Tryd.func5, Tryd.ntmps5
      go_wp2_with fail
      go_region_with (first
        | (go_at_call 20; refine cargs (by simp [Act.eval]) ((HRP.out _).mono ?_); rintro e w1 ⟨rfl, hb1⟩; have hc2 := HCV.out w1 w.heap.size ((hb1.block _ (by simp)).trans (heap_alloc_new w _)); have HB1 : Hid (Below w.heap.size w w1) := below_q hb1 ((Below.refl _ _).alloc (Nat.le_refl _) _) (fun k hk => Nat.lt_of_lt_of_le hk (by simp)) rfl rfl rfl rfl; clear hb1)
        | (go_at_call 20; refine cargs (by simp [Act.eval]) ((HRP.out _).mono ?_); rintro e w1 ⟨rfl, hb1⟩; have HB1 : Hid (Below w.heap.size w w1) := below_q hb1 (Below.refl _ _) (fun k hk => hk) rfl rfl rfl rfl; clear hb1))
      all_goals
        go_wp2_with fail
        go_returns
        have hstr : ((⟨H8.toArray⟩ : ByteArray) ++ (⟨#[0, 0, 0, 0, 0, 0, 0, 0]⟩ : ByteArray)) = ⟨(bytesA ip p).toArray⟩ := by
          rw [HBY.out, ← bstr_app]
        refine ⟨congrArg (fun s => Ending.returned (Value.tuple #[Value.string s, .nilIface])) hstr, ?_⟩
        first | exact HB1.out | exact HB1.out.alloc HB1.out.size _ | exact (HB1.out.alloc HB1.out.size _).drew

def rw16 (a b : Nat) (xs : List Nat) : Array Value := #[.int .u8 2, .int .u8 0, .int .u8 (a : Int), .int .u8 (b : Int), .int .u8 (xs.getD 0 0 : Nat), .int .u8 (xs.getD 1 0 : Nat), .int .u8 (xs.getD 2 0 : Nat), .int .u8 (xs.getD 3 0 : Nat), .int .u8 0, .int .u8 0, .int .u8 0, .int .u8 0, .int .u8 0, .int .u8 0, .int .u8 0, .int .u8 0]
theorem rw16_set (a b : Nat) (xs : List Nat) (x : Nat) (h : xs.length < 4) : (rw16 a b xs).setIfInBounds (4 + xs.length) (.int .u8 (x : Int)) = rw16 a b (xs ++ [x]) := by
  match xs, h with
  | [], _ => rfl
  | [p], _ => rfl
  | [p, q], _ => rfl
  | [p, q, r], _ => rfl
theorem rw16_store {w : World} {g a b : Nat} {xs : List Nat} (h : w.heap[g]? = some (.cells (rw16 a b xs) 5 (0, 0))) (j : Nat) (hj : j < 16) : (∃ v, w.cell? ⟨g, j, none⟩ = some v) ∧ w.frozen? ⟨g, j, none⟩ = false := by
  refine ⟨?_, frozen_of_row _ _ _ _ _ h⟩
  rw [cell_of_row _ _ _ _ _ _ h]
  exact ⟨_, Array.getElem?_eq_getElem (by simp [rw16]; omega)⟩
theorem rw16_put {w : World} {g a b : Nat} {xs : List Nat} (h : w.heap[g]? = some (.cells (rw16 a b xs) 5 (0, 0))) (hl : xs.length < 4) (x : Nat) : (w.setCell ⟨g, 4 + xs.length, none⟩ (.int .u8 (x : Int))).heap[g]? = some (.cells (rw16 a b (xs ++ [x])) 5 (0, 0)) := by
  rw [heap_setCell_same w _ _ _ _ _ h, rw16_set a b xs x hl]
theorem run_make16 (w : World) : (Instr.makeSlice 66 (.int .i64 16) (.int .i64 16)).run Tryd.prog w = .ok (.slice (some ⟨w.heap.size, 0, none⟩) 16 16) (w.alloc (.cells #[.int .u8 0, .int .u8 0, .int .u8 0, .int .u8 0, .int .u8 0, .int .u8 0, .int .u8 0, .int .u8 0, .int .u8 0, .int .u8 0, .int .u8 0, .int .u8 0, .int .u8 0, .int .u8 0, .int .u8 0, .int .u8 0] 5)) := by
  obtain ⟨i0, hi, hz0, hz1, hz2⟩ := info_parts (show (Tryd.prog.info? 5).map (fun i => (i.zero, i.size, i.bytes)) = some (some (.int .u8 0), 1, 1) by kernel_rfl)
  have := run_make w 66 5 i0 (.int .u8 0) Tryd.underlying66 hi hz0 .i64 .i64 16 16 (by omega) (by omega) (by rw [hz2]; omega) (by omega)
  have hm : madeCells (Value.int .u8 0).cells 16 = #[.int .u8 0, .int .u8 0, .int .u8 0, .int .u8 0, .int .u8 0, .int .u8 0, .int .u8 0, .int .u8 0, .int .u8 0, .int .u8 0, .int .u8 0, .int .u8 0, .int .u8 0, .int .u8 0, .int .u8 0, .int .u8 0] := by kernel_rfl
  rw [this, hz1, show (16 : Int).toNat * 1 = 16 from rfl, hm]
  rfl

end Go.Proofs.YtmgngapkgcofnabDoor
