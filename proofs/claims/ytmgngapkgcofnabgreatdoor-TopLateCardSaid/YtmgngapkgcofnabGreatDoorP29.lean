/- Addresses as bytes: addr.Bytes, addr.Read; the reference's AddrBytes, AddrOf: the walks. -/
import Derived.Test.YtmgngapkgcofnabGreatDoorP23
import Derived.Deep.RegionLaw
import Derived.Laws.MakeOwn
import Derived.Test.YtmgngapkgcofnabGreatDoorP27
import Derived.Test.YtmgngapkgcofnabGreatDoorP28
import Derived.Test.YtmgngapkgcofnabGreatDoorP10
import Derived.Test.YtmgngapkgcofnabGreatDoorP19
namespace Go.Proofs.YtmgngapkgcofnabGreatDoor
open Go.RowKit Go.PlainAid
theorem ofNat_255 {n : Nat} (h : n < 256) : ((UInt8.ofNat n).toNat : Int) = (n : Int) := by simp; omega
theorem add_plainA (b o j : Nat) : (⟨b, o, none⟩ : Addr).add j = ⟨b, o + j, none⟩ := by unfold Addr.add; split <;> simp_all
theorem conv8 (W : World) (b c : Nat) (l : List UInt8) (cs : Array Value) (hc : W.heap[b]? = some (.cells cs 5 (0, 0))) (hcs : ∀ (j : Nat) (hj : j < l.length), cs[j]? = some (.int .u8 (l[j].toNat : Int))) :
  (convert 96 9 (.slice (some ⟨b, 0, none⟩) l.length c)).run Tryz.prog W = .ok (.string ⟨l.toArray⟩) W := by
 refine run_convert_bytes_back W 96 9 5 ⟨b, 0, none⟩ c l Tryz.underlying96 Tryz.underlying5 Tryz.underlying9 (fun j hj => ?_); rw [add_plainA, Nat.zero_add, cell_of_row _ _ _ _ _ _ hc]; exact hcs j hj
set_option linter.unusedSimpArgs false in
set_option maxRecDepth 100000 in
set_option maxHeartbeats 4000000 in
theorem bytes_any (ip : Nat) (port : Int) (w : World) (hip : ip < 4294967296) :
  Calls Tryz.prog 100 #[.int .u32 ip, .int .i64 port] w fun e w' => e = .returned (if port < 0 ∨ 65535 < port then .tuple #[.string ⟨#[]⟩, .iface 105 (.int .i64 1)] else .tuple #[.string ⟨(bytesA ip port.toNat).toArray⟩, .nilIface]) ∧ Below w.heap.size w w' := by
 by_cases h0 : port < 0
 ·rw [if_pos (Or.inl h0)]; go_enter Tryz.func100, Tryz.ntmps100
  go_wp2_with fail
  go_returns
  exact ⟨rfl, Below.refl _ _⟩
 ·by_cases h1 : 65535 < port
  ·rw [if_pos (Or.inr h1)]; go_enter Tryz.func100, Tryz.ntmps100
   go_wp2_with fail
   go_returns
   exact ⟨rfl, Below.refl _ _⟩
  ·rw [if_neg (by omega)]; obtain ⟨p, rfl⟩ : ∃ p : Nat, port = p := ⟨port.toNat, by omega⟩
   rw [Int.toNat_natCast]; have hp : p < 65536 := by omega
   have HRP : Hid (∀ w, Calls Tryz.prog 149 #[.string ⟨#[0]⟩, .int .i64 8] w fun e w' => e = .returned (.string ⟨#[0, 0, 0, 0, 0, 0, 0, 0]⟩) ∧ Below w.heap.size w w') := fun w => Tryz.repeat_any ⟨#[0]⟩ 8 w (by omega) (by decide); obtain ⟨n2, N2⟩ : ∃ n : Nat, Hid (n = p / 256) := ⟨p / 256, rfl⟩
   obtain ⟨n3, N3⟩ : ∃ n : Nat, Hid (n = p % 256) := ⟨p % 256, rfl⟩
   obtain ⟨n4, N4⟩ : ∃ n : Nat, Hid (n = ip / 16777216) := ⟨ip / 16777216, rfl⟩
   obtain ⟨n5, N5⟩ : ∃ n : Nat, Hid (n = ip / 65536 % 256) := ⟨ip / 65536 % 256, rfl⟩
   obtain ⟨n6, N6⟩ : ∃ n : Nat, Hid (n = ip / 256 % 256) := ⟨ip / 256 % 256, rfl⟩
   obtain ⟨n7, N7⟩ : ∃ n : Nat, Hid (n = ip % 256) := ⟨ip % 256, rfl⟩
   have v2 : IntKind.u8.wrap ((p : Int) / 256) = (n2 : Int) := by simp only [IntKind.wrap_u8]; have := N2.out; omega
   have v3 : IntKind.u8.wrap (p : Int) = (n3 : Int) := by simp only [IntKind.wrap_u8]; have := N3.out; omega
   have v4 : IntKind.u8.wrap ((ip : Int) / 16777216) = (n4 : Int) := by simp only [IntKind.wrap_u8]; have := N4.out; omega
   have v5 : IntKind.u8.wrap ((ip : Int) / 65536) = (n5 : Int) := by simp only [IntKind.wrap_u8]; have := N5.out; omega
   have v6 : IntKind.u8.wrap ((ip : Int) / 256) = (n6 : Int) := by simp only [IntKind.wrap_u8]; have := N6.out; omega
   have v7 : IntKind.u8.wrap (ip : Int) = (n7 : Int) := by simp only [IntKind.wrap_u8]; have := N7.out; omega
   have HBY : Hid (bytesA ip p = [2, 0, UInt8.ofNat n2, UInt8.ofNat n3, UInt8.ofNat n4, UInt8.ofNat n5, UInt8.ofNat n6, UInt8.ofNat n7] ++ [0, 0, 0, 0, 0, 0, 0, 0]) := by
    show _ = _; rw [N2.out, N3.out, N4.out, N5.out, N6.out, N7.out]; rfl
   have b2 : n2 < 256 := by have := N2.out; omega
   have b3 : n3 < 256 := by have := N3.out; omega
   have b4 : n4 < 256 := by have := N4.out; omega
   have b5 : n5 < 256 := by have := N5.out; omega
   have b6 : n6 < 256 := by have := N6.out; omega
   have b7 : n7 < 256 := by have := N7.out; omega
   have HCV : Hid (∀ (W : World) (b : Nat), W.heap[b]? = some (.cells #[.int .u8 2, .int .u8 0, .int .u8 (n2 : Int), .int .u8 (n3 : Int), .int .u8 (n4 : Int), .int .u8 (n5 : Int), .int .u8 (n6 : Int), .int .u8 (n7 : Int)] 5 (0, 0)) → (convert 96 9 (.slice (some ⟨b, 0, none⟩) 8 8)).run Tryz.prog W = .ok (.string ⟨[2, 0, UInt8.ofNat n2, UInt8.ofNat n3, UInt8.ofNat n4, UInt8.ofNat n5, UInt8.ofNat n6, UInt8.ofNat n7].toArray⟩) W) := fun W b h => conv8 W b 8 [2, 0, UInt8.ofNat n2, UInt8.ofNat n3, UInt8.ofNat n4, UInt8.ofNat n5, UInt8.ofNat n6, UInt8.ofNat n7] _ h (fun j hj => by
    have hj8 : j = 0 ∨ j = 1 ∨ j = 2 ∨ j = 3 ∨ j = 4 ∨ j = 5 ∨ j = 6 ∨ j = 7 := by simp at hj; omega
    rcases hj8 with rfl | rfl | rfl | rfl | rfl | rfl | rfl | rfl
    ·rfl
    ·rfl
    ·exact congrArg (fun z => some (Value.int .u8 z)) (ofNat_255 b2).symm
    ·exact congrArg (fun z => some (Value.int .u8 z)) (ofNat_255 b3).symm
    ·exact congrArg (fun z => some (Value.int .u8 z)) (ofNat_255 b4).symm
    ·exact congrArg (fun z => some (Value.int .u8 z)) (ofNat_255 b5).symm
    ·exact congrArg (fun z => some (Value.int .u8 z)) (ofNat_255 b6).symm
    ·exact congrArg (fun z => some (Value.int .u8 z)) (ofNat_255 b7).symm)
   obtain ⟨H8, HH8⟩ : ∃ H, Hid ([2, 0, UInt8.ofNat n2, UInt8.ofNat n3, UInt8.ofNat n4, UInt8.ofNat n5, UInt8.ofNat n6, UInt8.ofNat n7] = H) := ⟨_, rfl⟩
   rw [HH8.out] at HBY HCV
   have hcv0 : ∀ W : World, (convert 96 9 (.slice (some ⟨W.heap.size, 0, none⟩) 8 8)).run Tryz.prog (W.alloc (.cells #[.int .u8 2, .int .u8 0, .int .u8 (n2 : Int), .int .u8 (n3 : Int), .int .u8 (n4 : Int), .int .u8 (n5 : Int), .int .u8 (n6 : Int), .int .u8 (n7 : Int)] 5)) = .ok (.string ⟨H8.toArray⟩) (W.alloc (.cells #[.int .u8 2, .int .u8 0, .int .u8 (n2 : Int), .int .u8 (n3 : Int), .int .u8 (n4 : Int), .int .u8 (n5 : Int), .int .u8 (n6 : Int), .int .u8 (n7 : Int)] 5)) := fun W => HCV.out _ _ (heap_alloc_new W _)
   have hcv1 : ∀ W : World, (convert 96 9 (.slice (some ⟨W.heap.size, 0, none⟩) 8 8)).run Tryz.prog (W.alloc (.cells #[.int .u8 2, .int .u8 0, .int .u8 (n2 : Int), .int .u8 (n3 : Int), .int .u8 (n4 : Int), .int .u8 (n5 : Int), .int .u8 (n6 : Int), .int .u8 (n7 : Int)] 5)).drew = .ok (.string ⟨H8.toArray⟩) (W.alloc (.cells #[.int .u8 2, .int .u8 0, .int .u8 (n2 : Int), .int .u8 (n3 : Int), .int .u8 (n4 : Int), .int .u8 (n5 : Int), .int .u8 (n6 : Int), .int .u8 (n7 : Int)] 5)).drew := fun W => HCV.out _ _ (heap_alloc_new W _)
   have hl8 : H8.length = 8 := by rw [← HH8.out]; rfl
   have g1 : ¬ 9223372036854775807 < H8.length + 8 := by omega
   clear b2 b3 b4 b5 b6 b7 hp hip; go_enter Tryz.func100, Tryz.ntmps100
   go_wp2_with fail
   go_region_with (first
    | (go_at_call 149; refine cargs (by simp [Act.eval]) ((HRP.out _).mono ?_); rintro e w1 ⟨rfl, hb1⟩; have hc2 := HCV.out w1 w.heap.size ((hb1.block _ (by simp)).trans (heap_alloc_new w _)); have HB1 : Hid (Below w.heap.size w w1) := below_q hb1 ((Below.refl _ _).alloc (Nat.le_refl _) _) (fun k hk => Nat.lt_of_lt_of_le hk (by simp)) rfl rfl rfl rfl; clear hb1)
    | (go_at_call 149; refine cargs (by simp [Act.eval]) ((HRP.out _).mono ?_); rintro e w1 ⟨rfl, hb1⟩; have HB1 : Hid (Below w.heap.size w w1) := below_q hb1 (Below.refl _ _) (fun k hk => hk) rfl rfl rfl rfl; clear hb1))
   all_goals
    go_wp2_with fail
    go_returns
    have hstr : ((⟨H8.toArray⟩ : ByteArray) ++ (⟨#[0, 0, 0, 0, 0, 0, 0, 0]⟩ : ByteArray)) = ⟨(bytesA ip p).toArray⟩ := by
     rw [HBY.out, ← bstr_app]
    refine ⟨congrArg (fun s => Ending.returned (Value.tuple #[Value.string s, .nilIface])) hstr, ?_⟩
    first | exact HB1.out | exact HB1.out.alloc HB1.out.size _ | exact (HB1.out.alloc HB1.out.size _).drew
end Go.Proofs.YtmgngapkgcofnabGreatDoor
namespace Go.Proofs.YtmgngapkgcofnabGreatDoor
open Go.RowKit Go.PlainAid
def bnum (s : ByteArray) (j : Nat) : Nat := (bt s j).toNat
theorem bnum_eq (s : ByteArray) (j : Nat) : bt s j = (bnum s j : Int) := by unfold bnum; have := bt_nonneg s j; omega
theorem bnum_le (s : ByteArray) (j : Nat) : bnum s j ≤ 255 := by unfold bnum; have := bt_le s j; omega
def ipOf (s : ByteArray) : Nat := ipJ [bnum s 4, bnum s 5, bnum s 6, bnum s 7]
def portOf (s : ByteArray) : Nat := 256 * bnum s 2 + bnum s 3
def readA (s : ByteArray) : Option (Nat × Nat) := if s.size = 16 ∧ s.data.toList = bytesA (ipOf s) (portOf s) then some (ipOf s, portOf s) else none
theorem ipOf_lt (s : ByteArray) : ipOf s < 4294967296 := by
 have := ipJ_lt [bnum s 4, bnum s 5, bnum s 6, bnum s 7] (fun x hx => by
  simp only [List.mem_cons, List.not_mem_nil, or_false] at hx; rcases hx with rfl | rfl | rfl | rfl <;> exact bnum_le s _)
 simpa [ipOf] using this
theorem portOf_lt (s : ByteArray) : portOf s < 65536 := by unfold portOf; have := bnum_le s 2; have := bnum_le s 3; omega
def readE (o : Option (Nat × Nat)) : Ending := match o with
 | some (i, p) => .returned (.tuple #[.int .u32 (i : Nat), .int .i64 (p : Nat), .nilIface])
 | none => .returned (.tuple #[.int .u32 0, .int .i64 0, errV 3])
theorem readA_yes {s : ByteArray} (h : s.size = 16) (h2 : bytesA (ipOf s) (portOf s) = s.data.toList) : readA s = some (ipOf s, portOf s) := if_pos ⟨h, h2.symm⟩
theorem readA_no {s : ByteArray} (h2 : ¬ bytesA (ipOf s) (portOf s) = s.data.toList) : readA s = none := if_neg (fun h => h2 h.2.symm)
set_option linter.unusedSimpArgs false in
set_option maxRecDepth 100000 in
set_option maxHeartbeats 4000000 in
theorem read_any (s : ByteArray) (w : World) :
  Calls Tryz.prog 99 #[.string s] w fun e w' => e = readE (readA s) ∧ Below w.heap.size w w' := by
 have hsz : s.data.toList.length = s.size := by simp
 by_cases h16 : s.size = 16
 ·have hb := get_bt s; have z2 := bt_nonneg s 2; have z3 := bt_nonneg s 3; have y2 := bt_le s 2; have y3 := bt_le s 3; have h16' : (s.size : Int) = 16 := by omega
  have l2 : 2 < s.size := by omega
  have l3 : 3 < s.size := by omega
  have l4 : 4 < s.size := by omega
  have l5 : 5 < s.size := by omega
  have l6 : 6 < s.size := by omega
  have l7 : 7 < s.size := by omega
  have HB0 : Hid (∀ W n, Below w.heap.size w W → Below w.heap.size w (W.drewN n)) := fun W n h => ⟨h.os, h.tape, h.output, h.size, h.block⟩
  go_enter Tryz.func99, Tryz.ntmps99
  go_wp2_with fail; go_quiet (fail)
  go_wp2_with fail; have HBQ : Hid (Below w.heap.size w (w.drewN nq)) := HB0.out _ _ (Below.refl _ _); generalize w.drewN nq = W0 at *
  have HBYS : Hid (∀ w, Calls Tryz.prog 100 #[.int .u32 (ipOf s : Nat), .int .i64 (portOf s : Nat)] w fun e w' => e = .returned (.tuple #[.string ⟨(bytesA (ipOf s) (portOf s)).toArray⟩, .nilIface]) ∧ Below w.heap.size w w') := fun w => by
   have := bytes_any (ipOf s) (portOf s : Nat) w (ipOf_lt s); have hp := portOf_lt s; rw [if_neg (by omega), Int.toNat_natCast] at this; exact this
  obtain ⟨Q, HQ⟩ : ∃ Q : Nat, Hid (Q = portOf s) := ⟨portOf s, rfl⟩
  have hport : bt s 2 * 256 + bt s 3 = (Q : Int) := by rw [HQ.out, bnum_eq s 2, bnum_eq s 3]; unfold portOf; push_cast; omega
  clear z2 z3 y2 y3
  go_loopw [5, 7] (fun pv iv wr => ∃ k P : Nat, k ≤ 4 ∧ iv = .int .i64 ((4 + k : Nat) : Int) ∧ pv = .int .u32 P ∧ Hid (P = ipJ ([bnum s 4, bnum s 5, bnum s 6, bnum s 7].take k)) ∧ Hid (P < 256 ^ k) ∧ Hid (Below w.heap.size w wr)) (fun _ iv _ => 8 - (intOf iv).toNat)
  case atStart => exact ⟨0, 0, by omega, rfl, rfl, rfl, by show 0 < 256 ^ 0; omega, HBQ⟩
  case round =>
   obtain ⟨k, P, hk, rfl, rfl, HV, HPL, HB⟩ := hrel
   by_cases h4 : k < 4
   ·have hk4 : k = 0 ∨ k = 1 ∨ k = 2 ∨ k = 3 := by omega
    clear hk h4; rcases hk4 with rfl | rfl | rfl | rfl
    ·have hbn : bt s 4 = (bnum s 4 : Int) := bnum_eq s 4; have hb255 := bnum_le s 4; have hPl : P < 16777216 := by have := HPL.out; omega
     obtain ⟨P2, HP2⟩ : ∃ P2 : Nat, Hid (P2 = P * 256 + bnum s 4) := ⟨P * 256 + bnum s 4, rfl⟩
     have hor : bits .or .u32 ((P : Int) * 256) (bt s 4) = (P2 : Int) := by rw [hbn]; have := or_byte P (bnum s 4) (by omega) (by omega); rw [this, HP2.out]
     have HV2 : Hid (P2 = ipJ ([bnum s 4, bnum s 5, bnum s 6, bnum s 7].take 1)) := by
      show _ = _; rw [HP2.out, HV.out]; exact (ipJ_snoc _ _).symm
     have HL2 : Hid (P2 < 256 ^ 1) := by
      show _ < _; have := HPL.out; rw [HP2.out]; omega
     have hx0 : bt s 4 < 256 := by rw [hbn]; omega
     have hx1 : 0 ≤ bt s 4 := by rw [hbn]; omega
     have hpI : (P : Int) * 256 < 4294967296 := by omega
     have hpJ : (P : Int) * 256 + bt s 4 < 4294967296 := by omega
     clear hbn hb255 hPl
     go_wp2_with fail; refine ⟨⟨1, P2, by omega, rfl, rfl, HV2, HL2, HB⟩, ?_⟩; simp [intOf]
    ·have hbn : bt s 5 = (bnum s 5 : Int) := bnum_eq s 5; have hb255 := bnum_le s 5; have hPl : P < 16777216 := by have := HPL.out; omega
     obtain ⟨P2, HP2⟩ : ∃ P2 : Nat, Hid (P2 = P * 256 + bnum s 5) := ⟨P * 256 + bnum s 5, rfl⟩
     have hor : bits .or .u32 ((P : Int) * 256) (bt s 5) = (P2 : Int) := by rw [hbn]; have := or_byte P (bnum s 5) (by omega) (by omega); rw [this, HP2.out]
     have HV2 : Hid (P2 = ipJ ([bnum s 4, bnum s 5, bnum s 6, bnum s 7].take 2)) := by
      show _ = _; rw [HP2.out, HV.out]; exact (ipJ_snoc _ _).symm
     have HL2 : Hid (P2 < 256 ^ 2) := by
      show _ < _; have := HPL.out; rw [HP2.out]; omega
     have hx0 : bt s 5 < 256 := by rw [hbn]; omega
     have hx1 : 0 ≤ bt s 5 := by rw [hbn]; omega
     have hpI : (P : Int) * 256 < 4294967296 := by omega
     have hpJ : (P : Int) * 256 + bt s 5 < 4294967296 := by omega
     clear hbn hb255 hPl
     go_wp2_with fail; refine ⟨⟨2, P2, by omega, rfl, rfl, HV2, HL2, HB⟩, ?_⟩; simp [intOf]
    ·have hbn : bt s 6 = (bnum s 6 : Int) := bnum_eq s 6; have hb255 := bnum_le s 6; have hPl : P < 16777216 := by have := HPL.out; omega
     obtain ⟨P2, HP2⟩ : ∃ P2 : Nat, Hid (P2 = P * 256 + bnum s 6) := ⟨P * 256 + bnum s 6, rfl⟩
     have hor : bits .or .u32 ((P : Int) * 256) (bt s 6) = (P2 : Int) := by rw [hbn]; have := or_byte P (bnum s 6) (by omega) (by omega); rw [this, HP2.out]
     have HV2 : Hid (P2 = ipJ ([bnum s 4, bnum s 5, bnum s 6, bnum s 7].take 3)) := by
      show _ = _; rw [HP2.out, HV.out]; exact (ipJ_snoc _ _).symm
     have HL2 : Hid (P2 < 256 ^ 3) := by
      show _ < _; have := HPL.out; rw [HP2.out]; omega
     have hx0 : bt s 6 < 256 := by rw [hbn]; omega
     have hx1 : 0 ≤ bt s 6 := by rw [hbn]; omega
     have hpI : (P : Int) * 256 < 4294967296 := by omega
     have hpJ : (P : Int) * 256 + bt s 6 < 4294967296 := by omega
     clear hbn hb255 hPl
     go_wp2_with fail; refine ⟨⟨3, P2, by omega, rfl, rfl, HV2, HL2, HB⟩, ?_⟩; simp [intOf]
    ·have hbn : bt s 7 = (bnum s 7 : Int) := bnum_eq s 7; have hb255 := bnum_le s 7; have hPl : P < 16777216 := by have := HPL.out; omega
     obtain ⟨P2, HP2⟩ : ∃ P2 : Nat, Hid (P2 = P * 256 + bnum s 7) := ⟨P * 256 + bnum s 7, rfl⟩
     have hor : bits .or .u32 ((P : Int) * 256) (bt s 7) = (P2 : Int) := by rw [hbn]; have := or_byte P (bnum s 7) (by omega) (by omega); rw [this, HP2.out]
     have HV2 : Hid (P2 = ipJ ([bnum s 4, bnum s 5, bnum s 6, bnum s 7].take 4)) := by
      show _ = _; rw [HP2.out, HV.out]; exact (ipJ_snoc _ _).symm
     have HL2 : Hid (P2 < 256 ^ 4) := by
      show _ < _; have := HPL.out; rw [HP2.out]; omega
     have hx0 : bt s 7 < 256 := by rw [hbn]; omega
     have hx1 : 0 ≤ bt s 7 := by rw [hbn]; omega
     have hpI : (P : Int) * 256 < 4294967296 := by omega
     have hpJ : (P : Int) * 256 + bt s 7 < 4294967296 := by omega
     clear hbn hb255 hPl
     go_wp2_with fail; refine ⟨⟨4, P2, by omega, rfl, rfl, HV2, HL2, HB⟩, ?_⟩; simp [intOf]
   ·obtain rfl : k = 4 := by omega
    have HP4 : P = ipOf s := HV.out; have htl : s.toList = s.data.toList := ByteArray.toList_eq s
    by_cases he : bytesA (ipOf s) (portOf s) = s.data.toList
    ·have HF := Lib.hid (readA_yes h16 he); have e1 : (bytesA (ipOf s) (portOf s) == s.data.toList) = true := by simpa using he
     have e2 : (s.data.toList == bytesA (ipOf s) (portOf s)) = true := by rw [he]; simp
     have e3 : (bytesA (ipOf s) (portOf s) == s.toList) = true := by rw [htl]; exact e1
     have e4 : (s.toList == bytesA (ipOf s) (portOf s)) = true := by rw [htl]; exact e2
     rw [← HP4, ← HQ.out] at e1 e2 e3 e4 HBYS HF; generalize bytesA P Q = X at *
     clear he htl HP4
     go_wp2_with (go_at_call 100; refine cargs (by simp [Act.eval]) ((HBYS.out _).mono ?_); rintro e w1 ⟨rfl, hb1⟩)
     go_returns
     exact ⟨by rw [HF.out]; rfl, HB.out.trans (hb1.mono HB.out.size)⟩
    ·have HF := Lib.hid (readA_no he); have e1 : (bytesA (ipOf s) (portOf s) == s.data.toList) = false := by simpa using he
     have e2 : (s.data.toList == bytesA (ipOf s) (portOf s)) = false := by simpa using fun h => he h.symm
     have e3 : (bytesA (ipOf s) (portOf s) == s.toList) = false := by rw [htl]; exact e1
     have e4 : (s.toList == bytesA (ipOf s) (portOf s)) = false := by rw [htl]; exact e2
     rw [← HP4, ← HQ.out] at e1 e2 e3 e4 HBYS; generalize bytesA P Q = X at *
     clear he htl HP4
     go_wp2_with (go_at_call 100; refine cargs (by simp [Act.eval]) ((HBYS.out _).mono ?_); rintro e w1 ⟨rfl, hb1⟩)
     go_returns
     exact ⟨by rw [HF.out]; rfl, HB.out.trans (hb1.mono HB.out.size)⟩
 ·have h16' : ¬ (s.size : Int) = 16 := by omega
  have HF : Hid (readA s = none) := by show _ = _; unfold readA; rw [if_neg (fun h => h16 h.1)]
  clear h16; go_enter Tryz.func99, Tryz.ntmps99
  go_wp2_with fail
  go_returns
  exact ⟨by rw [HF.out]; rfl, Below.refl _ _⟩
end Go.Proofs.YtmgngapkgcofnabGreatDoor
namespace Go.Proofs.YtmgngapkgcofnabGreatDoor
open Go.RowKit
theorem dec_len20 (n : Nat) (h : n < 18446744073709551616) : (Lib.decDigits n).length ≤ 20 := by
 rw [Lib.decDigits_length]; rcases Nat.eq_zero_or_pos n with rfl | h1
 ·have := nDigits_le5 (u := 0) (by omega); omega
 ·have := Lib.numDigits_eq n h1 h; split at this <;> omega
theorem joinA1 : joinW 32 (actW 1 0) = [97, 108, 108, 111, 119] := rfl
theorem joinA3 : joinW 32 (actW 3 0) = [107, 105, 108, 108] := rfl
theorem joinA2 (n : Nat) : joinW 32 (actW 2 (n : Int)) = [100, 101, 110, 121, 32] ++ Lib.decDigits n := by
 show joinW 32 [wDeny, Lib.decDigits ((n : Int).toNat)] = _; rw [Int.toNat_natCast]; rfl
theorem actionText_any (k e : Int) (w : World) (hk : actF k e = 0) (htab : Lib.TabIs Tryz.prog w "internal/strconv.uint64pow10" .u64 Lib.pow10Tab) :
  Calls Tryz.prog 81 #[.agg #[.int .i64 k, .int .i64 e]] w fun e' w' => e' = .returned (.string ⟨(joinW 32 (actW k e)).toArray⟩) ∧ Below w.heap.size w w' := by
 have HTB := Lib.hid (tab_below htab); clear htab; rcases actF_cases hk with ⟨rfl, rfl⟩ | ⟨rfl, rfl⟩ | ⟨rfl, h1, h2⟩
 ·rw [joinA1]; go_enter Tryz.func81, Tryz.ntmps81
  go_wp2
  go_ret; exact ⟨rfl, (Below.refl _ _).alloc (Nat.le_refl _) _⟩
 ·rw [joinA3]; go_enter Tryz.func81, Tryz.ntmps81
  go_wp2
  go_ret; exact ⟨rfl, (Below.refl _ _).alloc (Nat.le_refl _) _⟩
 ·obtain ⟨n, rfl⟩ : ∃ n : Nat, e = n := ⟨e.toNat, by omega⟩
  rw [joinA2]; have hB : ∀ W, W = w.alloc (.cells #[.int .i64 2, .int .i64 (n : Int)] 24) → Below w.heap.size w W := fun W h => by subst h; exact (Below.refl _ _).alloc (Nat.le_refl _) _
  have HB := Lib.hid hB; have HIT : Hid (∀ W, Below w.heap.size w W → Calls Tryz.prog 120 #[.int .i64 (n : Int)] W fun e w' => e = .returned (.string ⟨(Lib.decDigits n).toArray⟩) ∧ Below W.heap.size W w') := fun W hb => Tryz.itoa_any _ (by omega) W (HTB.out W hb); have hl := dec_len20 n (by omega); generalize Lib.decDigits n = D at *
  have g1 : ¬ 9223372036854775807 < 5 + D.length := by omega
  clear hB; go_enter Tryz.func81, Tryz.ntmps81
  go_wp2_with (go_at_call 120; refine cargs (by simp) ((HIT.out _ (HB.out _ rfl)).mono ?_); rintro e w1 ⟨rfl, hb1⟩; have HB1 := Lib.hid hb1; clear hb1)
  go_ret; refine ⟨?_, below_box (Below.refl _ _) (Nat.le_refl _) HB1.out⟩; refine congrArg (fun v => Ending.returned (Value.string v)) ?_; exact bstr_app [100, 101, 110, 121, 32] D
theorem textN_len {x : NetD} (hx : x.ok) (hf : netF x = 0) : (textN x).length ≤ 200 := by
 have h := parts_small hx hf; have hd : ∀ k ∈ partsN x, (Lib.decDigits k).length ≤ 20 := fun k hk => dec_len20 k (by have := h k hk; omega)
 have key : ∀ (cs : List UInt8) (ks : List Nat), (∀ k ∈ ks, (Lib.decDigits k).length ≤ 20) → (joinT cs ks).length ≤ 21 * cs.length + 20 := by
  intro cs
  induction cs with
  | nil =>
   intro ks hk; rcases ks with _ | ⟨k, _ | ⟨k2, ks⟩⟩
   ·simp [joinT]
   ·simpa [joinT] using hk k (by simp)
   ·simp [joinT]
  | cons c cs ih =>
   intro ks hk; rcases ks with _ | ⟨k, ks⟩
   ·simp [joinT]
   ·have h1 := hk k (by simp); have h2 := ih ks (fun x hx => hk x (by simp [hx])); rw [joinT]; simp only [List.length_append, List.length_cons]; omega
 have h2 := key sepsN (partsN x) hd; have h3 : sepsN.length = 6 := rfl; unfold textN; omega
def ctL (x : CondD) : List UInt8 := joinW 32 (condW x)
theorem ct7 (a v m : Nat) (g : ByteArray) (n : NetD) : ctL ⟨a, 7, v, m, g, n⟩ = Lib.decDigits a ++ [32] ++ [38, 32] ++ Lib.decDigits m ++ [32, 61, 61, 32] ++ Lib.decDigits v := by
 unfold ctL condW; simp [joinW, wMask, wEq]
theorem ct8 (a : Nat) (v m : Int) (g : ByteArray) (n : NetD) : ctL ⟨a, 8, v, m, g, n⟩ = Lib.decDigits a ++ [32] ++ [126, 32, 34] ++ g.data.toList ++ [34] := by
 unfold ctL condW; simp [joinW, wLike, quoteW]
theorem ct9 (a : Nat) (v m : Int) (g : ByteArray) (n : NetD) : ctL ⟨a, 9, v, m, g, n⟩ = Lib.decDigits a ++ [32] ++ [105, 110, 32] ++ textN n := by
 unfold ctL condW; simp [joinW, wIn]
theorem ct6 (a j v : Nat) (m : Int) (g : ByteArray) (n : NetD) (h1 : 1 ≤ j) (h6 : j ≤ 6) : ctL ⟨a, j, v, m, g, n⟩ = Lib.decDigits a ++ [32] ++ signW j ++ [32] ++ Lib.decDigits v := by
 unfold ctL condW; simp only; rw [if_neg (by omega), if_neg (by omega), if_neg (by omega)]; simp [joinW]
theorem gstr (g : ByteArray) : g = ⟨g.data.toList.toArray⟩ := by simp
set_option linter.unusedSimpArgs false in
set_option maxRecDepth 100000 in
set_option maxHeartbeats 4000000 in
theorem condText_any (nr : Nat) (x : CondD) (w : World) (hok : x.ok) (hf : condF nr x = 0) (htab : Lib.TabIs Tryz.prog w "internal/strconv.uint64pow10" .u64 Lib.pow10Tab) :
  Calls Tryz.prog 83 #[x.val] w fun e w' => e = .returned (.string ⟨(ctL x).toArray⟩) ∧ Below w.heap.size w w' := by
 have HTB := Lib.hid (tab_below htab); clear htab; obtain ⟨⟨ha0, ha3⟩, ⟨ho1, ho9⟩, ⟨v0, v1⟩, ⟨m0, m1⟩, _, _, _, _, hnet⟩ := condRd_of hok hf
 have hgl : x.op = 8 → x.glob.size ≤ 24 := fun h8 => by
  unfold condF at hf; split at hf
  ·omega
  ·split at hf
   ·omega
   ·unfold globF at hf; split at hf
    ·omega
    ·rename_i h; unfold bytesOf at h; simp at h; exact h
 clear hf hok; obtain ⟨arg, op, v, m, glob, net⟩ := x; simp only at ha0 ha3 ho1 ho9 v0 v1 m0 m1 hnet hgl; obtain ⟨A, rfl⟩ : ∃ A : Nat, arg = A := ⟨arg.toNat, by omega⟩
 obtain ⟨v, rfl⟩ : ∃ j : Nat, v = j := ⟨v.toNat, by omega⟩
 obtain ⟨m, rfl⟩ : ∃ j : Nat, m = j := ⟨m.toNat, by omega⟩
 have HIT : Hid (∀ W, Below w.heap.size w W → Calls Tryz.prog 120 #[.int .i64 (A : Int)] W fun e w' => e = .returned (.string ⟨(Lib.decDigits A).toArray⟩) ∧ Below W.heap.size W w') := fun W hb => Tryz.itoa_any _ (by omega) W (HTB.out W hb)
 have HDV : Hid (∀ W, Below w.heap.size w W → Calls Tryz.prog 135 #[.int .u64 (v : Int)] W fun e w' => e = .returned (.string ⟨(Lib.decDigits v).toArray⟩) ∧ Below W.heap.size W w') := fun W hb => polDigits_any v (by omega) W (HTB.out W hb)
 have HDM : Hid (∀ W, Below w.heap.size w W → Calls Tryz.prog 135 #[.int .u64 (m : Int)] W fun e w' => e = .returned (.string ⟨(Lib.decDigits m).toArray⟩) ∧ Below W.heap.size W w') := fun W hb => polDigits_any m (by omega) W (HTB.out W hb); have hlA := dec_len20 A (by omega); have hlV := dec_len20 v (by omega); have hlM := dec_len20 m (by omega); have h6 := ct6 A op.toNat v m glob net
 have h7 := Lib.hid (ct7 A v m glob net); have h8 := Lib.hid (ct8 A v m glob net); have h9 := Lib.hid (ct9 A v m glob net); rw [show ((op.toNat : Nat) : Int) = op from by omega] at h6; have H6 := Lib.hid h6; clear h6; generalize Lib.decDigits A = DA at *
 generalize Lib.decDigits v = DV at *
 generalize Lib.decDigits m = DM at *
 obtain ⟨ip, bits, lo, hi⟩ := net; have HC9 := Lib.hid (cell9 w (.int .i64 (A : Int)) (.int .i64 op) (.int .u64 (v : Int)) (.int .u64 (m : Int)) (.string glob) (.int .u32 ip) (.int .i64 bits) (.int .i64 lo) (.int .i64 hi) 47)
 have HAB := Lib.hid (above w (.cells #[.int .i64 (A : Int), .int .i64 op, .int .u64 (v : Int), .int .u64 (m : Int), .string glob, .int .u32 ip, .int .i64 bits, .int .i64 lo, .int .i64 hi] 47))
 have hB : ∀ W, W = w.alloc (.cells #[.int .i64 (A : Int), .int .i64 op, .int .u64 (v : Int), .int .u64 (m : Int), .string glob, .int .u32 ip, .int .i64 bits, .int .i64 lo, .int .i64 hi] 47) → Below w.heap.size w W := fun W h => by subst h; exact (Below.refl _ _).alloc (Nat.le_refl _) _
 have HB := Lib.hid hB; have g0 : ¬ 9223372036854775807 < DA.length + 1 := by omega
 clear hB; unfold CondD.val; simp only; go_enter Tryz.func83, Tryz.ntmps83
 go_upto_region 2 with (go_at_call 120; refine cargs (by simp [Act.eval]) ((HIT.out _ (HB.out _ rfl)).mono ?_); rintro e w1 ⟨rfl, hb1⟩; have HB1 := Lib.hid hb1; clear hb1)
 obtain ⟨j0, j1, j2, j3, j4, j5, j6, j7, j8⟩ := HC9.out w1 HB1.out; have HBW := Lib.hid (HAB.out w1 HB1.out); have HBQ : Hid (∀ (d : Nat) (os : Array Obj), Below w.heap.size w (Go.Sort.grow (redrawn w1 d) os)) := fun d os => HBW.out.trans ((below_regrown w1 d os).mono HBW.out.size)
 by_cases c7 : op = 7
 ·subst c7; have HT : Hid (ctL ⟨(A : Int), 7, (v : Int), (m : Int), glob, ⟨ip, bits, lo, hi⟩⟩ = DA ++ [32] ++ [38, 32] ++ DM ++ [32, 61, 61, 32] ++ DV) := h7.out; have r2 := cell_regrown j2; have r3 := cell_regrown j3; have cDV := fun d os => Calls.regrown_of (HDV.out (Go.Sort.grow (redrawn w1 d) os) (HBQ.out d os))
  have cDM := fun d os => Calls.regrown_of (HDM.out (Go.Sort.grow (redrawn w1 d) os) (HBQ.out d os)); have g1 : ¬ 9223372036854775807 < DA.length + 1 + 2 := by omega
  have g2 : ¬ 9223372036854775807 < DA.length + 1 + 2 + DM.length := by omega
  have g3 : ¬ 9223372036854775807 < DA.length + 1 + 2 + DM.length + 4 := by omega
  have g4 : ¬ 9223372036854775807 < DA.length + 1 + 2 + DM.length + 4 + DV.length := by omega
  clear hnet hgl; go_upto_region 4 with fail; refine wp_region_quiet_below (by kernel_rfl) (by kernel_rfl) ?_
  repeat (go_big_quiet_step (first | exact cDM _ _ | exact cDV _ _))
  refine wpQuiet_nil ?_; intro _ hw'; obtain ⟨⟨dq, osq⟩, hw''⟩ := hw'; subst hw''
  go_wp2_with fail
  go_returns
  refine ⟨?_, HBQ.out dq osq⟩; rw [HT.out]; refine congrArg (fun v => Ending.returned (Value.string v)) ?_; simp only [← bstr_app] <;> rfl
 ·have t7 : ((op : Int) == 7) = false := beq_eq_false_iff_ne.2 c7
  by_cases c8 : op = 8
  ·subst c8; have HT : Hid (ctL ⟨(A : Int), 8, (v : Int), (m : Int), glob, ⟨ip, bits, lo, hi⟩⟩ = DA ++ [32] ++ [126, 32, 34] ++ glob.data.toList ++ [34]) := h8.out; have hgs := hgl rfl; have g1 : ¬ 9223372036854775807 < DA.length + 1 + 3 := by omega
   have g2 : ¬ 9223372036854775807 < DA.length + 1 + 3 + glob.size := by omega
   have g3 : ¬ 9223372036854775807 < DA.length + 1 + 3 + glob.size + 1 := by omega
   clear hnet hgl c7
   go_wp2_with fail
   go_returns
   refine ⟨?_, HBW.out⟩; rw [HT.out]; refine congrArg (fun v => Ending.returned (Value.string v)) ?_; simp only [← bstr_app]
  ·have t8 : ((op : Int) == 8) = false := beq_eq_false_iff_ne.2 c8
   by_cases c9 : op = 9
   ·subst c9; have HT : Hid (ctL ⟨(A : Int), 9, (v : Int), (m : Int), glob, ⟨ip, bits, lo, hi⟩⟩ = DA ++ [32] ++ [105, 110, 32] ++ textN ⟨ip, bits, lo, hi⟩) := h9.out; obtain ⟨hn1, hn2⟩ := hnet rfl
    have HNT : Hid (∀ W, Below w.heap.size w W → Calls Tryz.prog 136 #[.agg #[.int .u32 ip, .int .i64 bits, .int .i64 lo, .int .i64 hi]] W fun e w' => e = .returned (.tuple #[.string ⟨(textN ⟨ip, bits, lo, hi⟩).toArray⟩, .nilIface]) ∧ Below W.heap.size W w') := fun W hb => (text_any ⟨ip, bits, lo, hi⟩ W hn1 (HTB.out W hb)).mono fun e w' ⟨k1, k2⟩ => ⟨by rw [k1, hn2]; rfl, k2⟩
    have hln := textN_len hn1 hn2; generalize textN ⟨ip, bits, lo, hi⟩ = D at *
    have g1 : ¬ 9223372036854775807 < DA.length + 1 + 3 := by omega
    have g2 : ¬ 9223372036854775807 < DA.length + 1 + 3 + D.length := by omega
    clear hnet hgl c7 c8 hn1 hn2
    go_wp2_with (go_at_call 136; refine cargs (by simp [Act.eval]) ((HNT.out _ HBW.out).mono ?_); rintro e w2 ⟨rfl, hb2⟩; have HB2 := Lib.hid hb2; clear hb2)
    go_returns
    refine ⟨?_, HBW.out.trans (HB2.out.mono HBW.out.size)⟩; rw [HT.out]; refine congrArg (fun v => Ending.returned (Value.string v)) ?_; simp only [← bstr_app] <;> rfl
   ·have t9 : ((op : Int) == 9) = false := beq_eq_false_iff_ne.2 c9; obtain ⟨j, rfl⟩ : ∃ j : Nat, op = j := ⟨op.toNat, by omega⟩
    rw [Int.toNat_natCast] at H6; have HT : Hid (ctL ⟨(A : Int), (j : Int), (v : Int), (m : Int), glob, ⟨ip, bits, lo, hi⟩⟩ = DA ++ [32] ++ signW j ++ [32] ++ DV) := H6.out (by omega) (by omega); have r1 := cell_regrown j1; have r2 := cell_regrown j2; have cDV := fun d os => Calls.regrown_of (HDV.out (Go.Sort.grow (redrawn w1 d) os) (HBQ.out d os))
    have cSG : ∀ d os, Calls Tryz.prog 137 #[.int .i64 (j : Int)] (Go.Sort.grow (redrawn w1 d) os) fun e w'' => e = .returned (.string ⟨(signW j).toArray⟩) ∧ ∃ p : Regrown, w'' = Go.Sort.grow (redrawn w1 p.d) p.os := fun d os => (sign_any j _ (by omega)).mono fun _ _ h => ⟨h.1, ⟨⟨d, os⟩, h.2.symm⟩⟩
    have hls : (signW j).length ≤ 2 := by
     have : j = 1 ∨ j = 2 ∨ j = 3 ∨ j = 4 ∨ j = 5 ∨ j = 6 := by omega
     rcases this with rfl | rfl | rfl | rfl | rfl | rfl <;> decide
    generalize signW j = D at *
    have g1 : ¬ 9223372036854775807 < DA.length + 1 + D.length := by omega
    have g2 : ¬ 9223372036854775807 < DA.length + 1 + D.length + 1 := by omega
    have g3 : ¬ 9223372036854775807 < DA.length + 1 + D.length + 1 + DV.length := by omega
    clear hnet hgl c7 c8 c9; go_upto_region 10 with fail; refine wp_region_quiet_below (by kernel_rfl) (by kernel_rfl) ?_
    repeat (go_big_quiet_step (first | exact cDV _ _ | exact cSG _ _))
    refine wpQuiet_nil ?_; intro _ hw'; obtain ⟨⟨dq, osq⟩, hw''⟩ := hw'; subst hw''
    go_wp2_with fail
    go_returns
    refine ⟨?_, HBQ.out dq osq⟩; rw [HT.out]; refine congrArg (fun v => Ending.returned (Value.string v)) ?_; simp only [← bstr_app] <;> rfl
end Go.Proofs.YtmgngapkgcofnabGreatDoor
namespace Go.Proofs.YtmgngapkgcofnabGreatDoor
open Go.RowKit
def condsT : Nat → List CondD → List UInt8
 | _, [] => []
 | k, x :: r => (if k = 0 then [32, 105, 102, 32] else [32, 97, 110, 100, 32]) ++ ctL x ++ condsT (k + 1) r
def ruleT (r : RuleD) : List UInt8 := joinW 32 (actW r.kind r.errno) ++ [32] ++ nameW r.nr.toNat ++ condsT 0 r.conds ++ [10]
def rulesT : List RuleD → List UInt8
 | [] => []
 | r :: rs => ruleT r ++ rulesT rs
def elseT (p : PolD) : List UInt8 := [101, 108, 115, 101, 32] ++ joinW 32 (actW p.kind p.errno) ++ [10]
theorem actW_ne (k e : Int) : actW k e ≠ [] := by unfold actW; split; simp; split <;> simp
theorem condW_ne (x : CondD) : condW x ≠ [] := by unfold condW; simp
theorem join_conds : ∀ (cs : List CondD) (k : Nat) (ws : List (List UInt8)), ws ≠ [] → joinW 32 (ws ++ condsW k cs) = joinW 32 ws ++ condsT k cs
 | [], k, ws, _ => by simp [condsW, condsT]
 | x :: r, k, ws, h => by
  rw [condsW, joinW_append 32 ws _ h (by simp)]; have ih := join_conds r (k + 1) (condW x) (condW_ne x); have h2 : condW x ++ condsW (k + 1) r ≠ [] := by simp [condW_ne]
  obtain ⟨y, t, hy⟩ := List.exists_cons_of_ne_nil h2; rw [hy] at ih ⊢; rw [joinW, ih, condsT]
  by_cases hk : k = 0
  ·rw [if_pos hk, if_pos hk]; simp [wIf, ctL]
  ·rw [if_neg hk, if_neg hk]; simp [wAnd, ctL]
theorem line_text (r : RuleD) : lineR r ++ [10] = ruleT r := by
 unfold lineR ruleW ruleT; rw [show actW r.kind r.errno ++ nameW r.nr.toNat :: condsW 0 r.conds = (actW r.kind r.errno ++ [nameW r.nr.toNat]) ++ condsW 0 r.conds from by simp, join_conds _ _ _ (by simp), joinW_append 32 _ _ (actW_ne _ _) (by simp)]; simp [joinW]
theorem lines_text : ∀ (rs : List RuleD), joinW 10 (rs.map lineR ++ [[]]) = rulesT rs
 | [] => rfl
 | r :: rs => by
  have ih := lines_text rs; rw [List.map_cons, List.cons_append]; have h2 : rs.map lineR ++ [[]] ≠ [] := by simp
  obtain ⟨y, t, hy⟩ := List.exists_cons_of_ne_nil h2; rw [hy] at ih ⊢; rw [joinW, ih, rulesT, ← line_text]; simp
theorem polT_text (p : PolD) : polT p = elseT p ++ rulesT p.rules := by
 unfold polT linesP; have h2 : p.rules.map lineR ++ [[]] ≠ [] := by simp
 have ih := lines_text p.rules; obtain ⟨y, t, hy⟩ := List.exists_cons_of_ne_nil h2; rw [hy] at ih ⊢; rw [joinW, ih]; unfold lineE elseT; have h3 := actW_ne p.kind p.errno; obtain ⟨y2, t2, hy2⟩ := List.exists_cons_of_ne_nil h3; rw [hy2, joinW]; simp [wElse]
theorem rulesT_snoc : ∀ (a : List RuleD) (r : RuleD), rulesT (a ++ [r]) = rulesT a ++ ruleT r
 | [], r => by simp [rulesT]
 | x :: a, r => by rw [List.cons_append, rulesT, rulesT_snoc a r, rulesT]; simp
theorem condsT_snoc : ∀ (a : List CondD) (k : Nat) (x : CondD), condsT k (a ++ [x]) = condsT k a ++ ((if k + a.length = 0 then [32, 105, 102, 32] else [32, 97, 110, 100, 32]) ++ ctL x)
 | [], k, x => by simp [condsT]
 | y :: a, k, x => by
  rw [List.cons_append, condsT, condsT_snoc a (k + 1) x, condsT, if_neg (by omega : ¬ k + 1 + a.length = 0), if_neg (by simp : ¬ k + (y :: a).length = 0)]; simp
theorem take_next {α : Type} {l : List α} {k : Nat} {x : α} (h : l[k]? = some x) : l.take (k + 1) = l.take k ++ [x] := by
 rw [List.take_add_one, h]; rfl
theorem joinW_len (c : UInt8) (B : Nat) : ∀ ws : List (List UInt8), (∀ w ∈ ws, w.length ≤ B) → (joinW c ws).length ≤ ws.length * (B + 1)
 | [], _ => by simp [joinW]
 | [a], h => by have := h a (by simp); simp [joinW]; omega
 | a :: b :: r, h => by
  have ih := joinW_len c B (b :: r) (fun w hw => h w (by simp [List.mem_cons.1 hw])); have := h a (by simp); rw [joinW]; simp only [List.length_append, List.length_cons] at ih ⊢; rw [Nat.add_mul (r.length + 1) 1 (B + 1)]; omega
structure CondSm (x : CondD) : Prop where
 rd : CondRd x
 gl : x.op = 8 → x.glob.size ≤ 24
theorem condSm_of {n : Nat} {x : CondD} (hok : x.ok) (h : condF n x = 0) : CondSm x := ⟨condRd_of hok h, fun h8 => by
 unfold condF at h; split at h
 ·omega
 ·split at h
  ·omega
  ·unfold globF at h; split at h
   ·omega
   ·rename_i h2; unfold bytesOf at h2; simp at h2; exact h2⟩
theorem ctL_len {x : CondD} (h : CondSm x) : (ctL x).length ≤ 1005 := by
 obtain ⟨⟨ha, ho, hv, hm, _, _, _, _, hn⟩, hg⟩ := h
 have hw : ∀ w ∈ condW x, w.length ≤ 200 := by
  intro w hw; unfold condW at hw; rcases List.mem_cons.1 hw with rfl | hw
  ·have := dec_len20 x.arg.toNat (by omega); omega
  ·split at hw
   ·simp only [List.mem_cons, List.not_mem_nil, or_false] at hw; rcases hw with rfl | rfl | rfl | rfl
    ·decide
    ·have := dec_len20 x.m.toNat (by omega); omega
    ·decide
    ·have := dec_len20 x.v.toNat (by omega); omega
   ·split at hw
    ·simp only [List.mem_cons, List.not_mem_nil, or_false] at hw; rcases hw with rfl | rfl
     ·decide
     ·have := hg (by assumption); unfold quoteW; simp; omega
    ·split at hw
     ·simp only [List.mem_cons, List.not_mem_nil, or_false] at hw; rcases hw with rfl | rfl
      ·decide
      ·obtain ⟨h1, h2⟩ := hn (by assumption); exact textN_len h1 h2
     ·simp only [List.mem_cons, List.not_mem_nil, or_false] at hw; rcases hw with rfl | rfl
      ·unfold signW; split <;> decide
      ·have := dec_len20 x.v.toNat (by omega); omega
 have hc : (condW x).length ≤ 5 := by
  unfold condW; split
  ·simp
  ·split
   ·simp
   ·split <;> simp
 have h1 := joinW_len 32 200 (condW x) hw; have h2 : (condW x).length * (200 + 1) ≤ 5 * (200 + 1) := Nat.mul_le_mul_right _ hc; unfold ctL; omega
theorem condsT_len : ∀ (cs : List CondD) (k : Nat), (∀ x ∈ cs, CondSm x) → (condsT k cs).length ≤ 1010 * cs.length
 | [], _, _ => by simp [condsT]
 | x :: r, k, h => by
  have ih := condsT_len r (k + 1) (fun y hy => h y (by simp [hy])); have h1 := ctL_len (h x (by simp)); rw [condsT]; simp only [List.length_append, List.length_cons]; have : (if k = 0 then [32, 105, 102, 32] else [32, 97, 110, 100, 32] : List UInt8).length ≤ 5 := by split <;> decide
  omega
theorem act_len {k e : Int} (h : actF k e = 0) : (joinW 32 (actW k e)).length ≤ 25 := by
 rcases actF_cases h with ⟨rfl, rfl⟩ | ⟨rfl, rfl⟩ | ⟨rfl, h1, h2⟩
 ·rw [joinA1]; decide
 ·rw [joinA3]; decide
 ·obtain ⟨n, rfl⟩ : ∃ n : Nat, e = n := ⟨e.toNat, by omega⟩
  rw [joinA2]; have := dec_len20 n (by omega); simp only [List.length_append, List.length_cons, List.length_nil]; omega
theorem name_len (n : Nat) (h : n ≤ 8) : (nameW n).length ≤ 10 := by
 have h1 : n = 0 ∨ n = 1 ∨ n = 2 ∨ n = 3 ∨ n = 4 ∨ n = 5 ∨ n = 6 ∨ n = 7 ∨ n = 8 := by omega
 rcases h1 with rfl | rfl | rfl | rfl | rfl | rfl | rfl | rfl | rfl <;> decide
structure RuleSm (r : RuleD) : Prop where
 act : actF r.kind r.errno = 0
 nr : 0 ≤ r.nr ∧ r.nr ≤ 8
 few : r.conds.length ≤ 4
 con : ∀ x ∈ r.conds, CondSm x ∧ x.ok ∧ condF r.nr.toNat x = 0
theorem ruleSm_of {r : RuleD} (hok : ∀ c ∈ r.conds, c.ok) (h : ruleF r = 0) : RuleSm r := by
 obtain ⟨h1, h2, h3, _, h5⟩ := ruleF_zero h; exact ⟨h5, ⟨h1, h2⟩, h3, fun x hx => ⟨condSm_of (hok x hx) (ruleF_conds h x hx), hok x hx, ruleF_conds h x hx⟩⟩
theorem ruleT_len {r : RuleD} (h : RuleSm r) : (ruleT r).length ≤ 4100 := by
 have h1 := act_len h.act; have h2 := name_len r.nr.toNat (by have := h.nr; omega); have h3 := condsT_len r.conds 0 (fun x hx => (h.con x hx).1); have h4 := h.few; unfold ruleT; simp only [List.length_append, List.length_cons, List.length_nil]; omega
theorem rulesT_len : ∀ (rs : List RuleD), (∀ r ∈ rs, RuleSm r) → (rulesT rs).length ≤ 4100 * rs.length
 | [], _ => by simp [rulesT]
 | r :: rs, h => by
  have ih := rulesT_len rs (fun x hx => h x (by simp [hx])); have := ruleT_len (h r (by simp)); rw [rulesT]; simp only [List.length_append, List.length_cons]; omega
theorem elseT_len {p : PolD} (h : actF p.kind p.errno = 0) : (elseT p).length ≤ 31 := by
 have := act_len h; unfold elseT; simp only [List.length_append, List.length_cons, List.length_nil]; omega
end Go.Proofs.YtmgngapkgcofnabGreatDoor
