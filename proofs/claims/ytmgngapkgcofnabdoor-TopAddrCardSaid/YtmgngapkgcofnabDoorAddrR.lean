/- Addresses as bytes, read: addr.Read, the reference's AddrOf: the walks. -/
import Derived.Test.YtmgngapkgcofnabDoorAddrB
import Derived.Test.YtmgngapkgcofnabDoorNetParse
namespace Go.Proofs.YtmgngapkgcofnabDoor
open Go.RowKit Go.PlainAid

def bnum (s : ByteArray) (j : Nat) : Nat := (bt s j).toNat
theorem bnum_eq (s : ByteArray) (j : Nat) : bt s j = (bnum s j : Int) := by unfold bnum; have := bt_nonneg s j; omega
theorem bnum_le (s : ByteArray) (j : Nat) : bnum s j ≤ 255 := by unfold bnum; have := bt_le s j; omega
def ipOf (s : ByteArray) : Nat := ipJ [bnum s 4, bnum s 5, bnum s 6, bnum s 7]
def portOf (s : ByteArray) : Nat := 256 * bnum s 2 + bnum s 3
/-- What bytes are read as. -/
def readA (s : ByteArray) : Option (Nat × Nat) := if s.size = 16 ∧ s.data.toList = bytesA (ipOf s) (portOf s) then some (ipOf s, portOf s) else none
theorem ipOf_lt (s : ByteArray) : ipOf s < 4294967296 := by
  have := ipJ_lt [bnum s 4, bnum s 5, bnum s 6, bnum s 7] (fun x hx => by
    simp only [List.mem_cons, List.not_mem_nil, or_false] at hx
    rcases hx with rfl | rfl | rfl | rfl <;> exact bnum_le s _)
  simpa [ipOf] using this
theorem portOf_lt (s : ByteArray) : portOf s < 65536 := by unfold portOf; have := bnum_le s 2; have := bnum_le s 3; omega
def readE (o : Option (Nat × Nat)) : Ending := match o with
  | some (i, p) => .returned (.tuple #[.int .u32 (i : Nat), .int .i64 (p : Nat), .nilIface])
  | none => .returned (.tuple #[.int .u32 0, .int .i64 0, errV 3])
def readEr (o : Option (Nat × Nat)) : Ending := match o with
  | some (i, p) => .returned (.tuple #[.int .u32 (i : Nat), .int .i64 (p : Nat), .bool true])
  | none => .returned (.tuple #[.int .u32 0, .int .i64 0, .bool false])
theorem readA_yes {s : ByteArray} (h : s.size = 16) (h2 : bytesA (ipOf s) (portOf s) = s.data.toList) : readA s = some (ipOf s, portOf s) := if_pos ⟨h, h2.symm⟩
theorem readA_no {s : ByteArray} (h2 : ¬ bytesA (ipOf s) (portOf s) = s.data.toList) : readA s = none := if_neg (fun h => h2 h.2.symm)

set_option linter.unusedSimpArgs false in
set_option maxRecDepth 100000 in
set_option maxHeartbeats 4000000 in
theorem read_any (s : ByteArray) (w : World) :
    Calls Tryd.prog 6 #[.string s] w fun e w' => e = readE (readA s) ∧ Below w.heap.size w w' := by
  have hsz : s.data.toList.length = s.size := by simp
  by_cases h16 : s.size = 16
  · have hb := get_bt s
    have z2 := bt_nonneg s 2
    have z3 := bt_nonneg s 3
    have y2 := bt_le s 2
    have y3 := bt_le s 3
    have h16' : (s.size : Int) = 16 := by omega
    have l2 : 2 < s.size := by omega
    have l3 : 3 < s.size := by omega
    have l4 : 4 < s.size := by omega
    have l5 : 5 < s.size := by omega
    have l6 : 6 < s.size := by omega
    have l7 : 7 < s.size := by omega
    have HB0 : Hid (∀ W n, Below w.heap.size w W → Below w.heap.size w (W.drewN n)) := fun W n h => ⟨h.os, h.tape, h.output, h.size, h.block⟩
    go_enter Tryd.func6, Tryd.ntmps6
    go_wp2_with fail
    go_quiet (fail)
    go_wp2_with fail
    have HBQ : Hid (Below w.heap.size w (w.drewN nq)) := HB0.out _ _ (Below.refl _ _)
    generalize w.drewN nq = W0 at *
    have HBYS : Hid (∀ w, Calls Tryd.prog 5 #[.int .u32 (ipOf s : Nat), .int .i64 (portOf s : Nat)] w fun e w' => e = .returned (.tuple #[.string ⟨(bytesA (ipOf s) (portOf s)).toArray⟩, .nilIface]) ∧ Below w.heap.size w w') := fun w => by
      have := bytes_any (ipOf s) (portOf s : Nat) w (ipOf_lt s)
      have hp := portOf_lt s
      rw [if_neg (by omega), Int.toNat_natCast] at this
      exact this
    obtain ⟨Q, HQ⟩ : ∃ Q : Nat, Hid (Q = portOf s) := ⟨portOf s, rfl⟩
    have hport : bt s 2 * 256 + bt s 3 = (Q : Int) := by rw [HQ.out, bnum_eq s 2, bnum_eq s 3]; unfold portOf; push_cast; omega
    clear z2 z3 y2 y3
    go_loopw [5, 7] (fun pv iv wr => ∃ k P : Nat, k ≤ 4 ∧ iv = .int .i64 ((4 + k : Nat) : Int) ∧ pv = .int .u32 P ∧ Hid (P = ipJ ([bnum s 4, bnum s 5, bnum s 6, bnum s 7].take k)) ∧ Hid (P < 256 ^ k) ∧ Hid (Below w.heap.size w wr)) (fun _ iv _ => 8 - (intOf iv).toNat)
    case atStart => exact ⟨0, 0, by omega, rfl, rfl, rfl, by show 0 < 256 ^ 0; omega, HBQ⟩
    case round =>
      obtain ⟨k, P, hk, rfl, rfl, HV, HPL, HB⟩ := hrel
      by_cases h4 : k < 4
      · have hk4 : k = 0 ∨ k = 1 ∨ k = 2 ∨ k = 3 := by omega
        clear hk h4
        rcases hk4 with rfl | rfl | rfl | rfl
        · have hbn : bt s 4 = (bnum s 4 : Int) := bnum_eq s 4
          have hb255 := bnum_le s 4
          have hPl : P < 16777216 := by have := HPL.out; omega
          obtain ⟨P2, HP2⟩ : ∃ P2 : Nat, Hid (P2 = P * 256 + bnum s 4) := ⟨P * 256 + bnum s 4, rfl⟩
          have hor : bits .or .u32 ((P : Int) * 256) (bt s 4) = (P2 : Int) := by rw [hbn]; have := or_byte P (bnum s 4) (by omega) (by omega); rw [this, HP2.out]
          have HV2 : Hid (P2 = ipJ ([bnum s 4, bnum s 5, bnum s 6, bnum s 7].take 1)) := by
            show _ = _
            rw [HP2.out, HV.out]
            exact (ipJ_snoc _ _).symm
          have HL2 : Hid (P2 < 256 ^ 1) := by
            show _ < _
            have := HPL.out
            rw [HP2.out]
            omega
          have hx0 : bt s 4 < 256 := by rw [hbn]; omega
          have hx1 : 0 ≤ bt s 4 := by rw [hbn]; omega
          have hpI : (P : Int) * 256 < 4294967296 := by omega
          have hpJ : (P : Int) * 256 + bt s 4 < 4294967296 := by omega
          clear hbn hb255 hPl
          go_wp2_with fail
          refine ⟨⟨1, P2, by omega, rfl, rfl, HV2, HL2, HB⟩, ?_⟩
          simp [intOf]
        · have hbn : bt s 5 = (bnum s 5 : Int) := bnum_eq s 5
          have hb255 := bnum_le s 5
          have hPl : P < 16777216 := by have := HPL.out; omega
          obtain ⟨P2, HP2⟩ : ∃ P2 : Nat, Hid (P2 = P * 256 + bnum s 5) := ⟨P * 256 + bnum s 5, rfl⟩
          have hor : bits .or .u32 ((P : Int) * 256) (bt s 5) = (P2 : Int) := by rw [hbn]; have := or_byte P (bnum s 5) (by omega) (by omega); rw [this, HP2.out]
          have HV2 : Hid (P2 = ipJ ([bnum s 4, bnum s 5, bnum s 6, bnum s 7].take 2)) := by
            show _ = _
            rw [HP2.out, HV.out]
            exact (ipJ_snoc _ _).symm
          have HL2 : Hid (P2 < 256 ^ 2) := by
            show _ < _
            have := HPL.out
            rw [HP2.out]
            omega
          have hx0 : bt s 5 < 256 := by rw [hbn]; omega
          have hx1 : 0 ≤ bt s 5 := by rw [hbn]; omega
          have hpI : (P : Int) * 256 < 4294967296 := by omega
          have hpJ : (P : Int) * 256 + bt s 5 < 4294967296 := by omega
          clear hbn hb255 hPl
          go_wp2_with fail
          refine ⟨⟨2, P2, by omega, rfl, rfl, HV2, HL2, HB⟩, ?_⟩
          simp [intOf]
        · have hbn : bt s 6 = (bnum s 6 : Int) := bnum_eq s 6
          have hb255 := bnum_le s 6
          have hPl : P < 16777216 := by have := HPL.out; omega
          obtain ⟨P2, HP2⟩ : ∃ P2 : Nat, Hid (P2 = P * 256 + bnum s 6) := ⟨P * 256 + bnum s 6, rfl⟩
          have hor : bits .or .u32 ((P : Int) * 256) (bt s 6) = (P2 : Int) := by rw [hbn]; have := or_byte P (bnum s 6) (by omega) (by omega); rw [this, HP2.out]
          have HV2 : Hid (P2 = ipJ ([bnum s 4, bnum s 5, bnum s 6, bnum s 7].take 3)) := by
            show _ = _
            rw [HP2.out, HV.out]
            exact (ipJ_snoc _ _).symm
          have HL2 : Hid (P2 < 256 ^ 3) := by
            show _ < _
            have := HPL.out
            rw [HP2.out]
            omega
          have hx0 : bt s 6 < 256 := by rw [hbn]; omega
          have hx1 : 0 ≤ bt s 6 := by rw [hbn]; omega
          have hpI : (P : Int) * 256 < 4294967296 := by omega
          have hpJ : (P : Int) * 256 + bt s 6 < 4294967296 := by omega
          clear hbn hb255 hPl
          go_wp2_with fail
          refine ⟨⟨3, P2, by omega, rfl, rfl, HV2, HL2, HB⟩, ?_⟩
          simp [intOf]
        · have hbn : bt s 7 = (bnum s 7 : Int) := bnum_eq s 7
          have hb255 := bnum_le s 7
          have hPl : P < 16777216 := by have := HPL.out; omega
          obtain ⟨P2, HP2⟩ : ∃ P2 : Nat, Hid (P2 = P * 256 + bnum s 7) := ⟨P * 256 + bnum s 7, rfl⟩
          have hor : bits .or .u32 ((P : Int) * 256) (bt s 7) = (P2 : Int) := by rw [hbn]; have := or_byte P (bnum s 7) (by omega) (by omega); rw [this, HP2.out]
          have HV2 : Hid (P2 = ipJ ([bnum s 4, bnum s 5, bnum s 6, bnum s 7].take 4)) := by
            show _ = _
            rw [HP2.out, HV.out]
            exact (ipJ_snoc _ _).symm
          have HL2 : Hid (P2 < 256 ^ 4) := by
            show _ < _
            have := HPL.out
            rw [HP2.out]
            omega
          have hx0 : bt s 7 < 256 := by rw [hbn]; omega
          have hx1 : 0 ≤ bt s 7 := by rw [hbn]; omega
          have hpI : (P : Int) * 256 < 4294967296 := by omega
          have hpJ : (P : Int) * 256 + bt s 7 < 4294967296 := by omega
          clear hbn hb255 hPl
          go_wp2_with fail
          refine ⟨⟨4, P2, by omega, rfl, rfl, HV2, HL2, HB⟩, ?_⟩
          simp [intOf]
      · obtain rfl : k = 4 := by omega
        have HP4 : P = ipOf s := HV.out
        have htl : s.toList = s.data.toList := ByteArray.toList_eq s
        by_cases he : bytesA (ipOf s) (portOf s) = s.data.toList
        · have HF := Lib.hid (readA_yes h16 he)
          have e1 : (bytesA (ipOf s) (portOf s) == s.data.toList) = true := by simpa using he
          have e2 : (s.data.toList == bytesA (ipOf s) (portOf s)) = true := by rw [he]; simp
          have e3 : (bytesA (ipOf s) (portOf s) == s.toList) = true := by rw [htl]; exact e1
          have e4 : (s.toList == bytesA (ipOf s) (portOf s)) = true := by rw [htl]; exact e2
          rw [← HP4, ← HQ.out] at e1 e2 e3 e4 HBYS HF
          generalize bytesA P Q = X at *
          clear he htl HP4
          go_wp2_with (go_at_call 5; refine cargs (by simp [Act.eval]) ((HBYS.out _).mono ?_); rintro e w1 ⟨rfl, hb1⟩)
          go_returns
          exact ⟨by rw [HF.out]; rfl, HB.out.trans (hb1.mono HB.out.size)⟩
        · have HF := Lib.hid (readA_no he)
          have e1 : (bytesA (ipOf s) (portOf s) == s.data.toList) = false := by simpa using he
          have e2 : (s.data.toList == bytesA (ipOf s) (portOf s)) = false := by simpa using fun h => he h.symm
          have e3 : (bytesA (ipOf s) (portOf s) == s.toList) = false := by rw [htl]; exact e1
          have e4 : (s.toList == bytesA (ipOf s) (portOf s)) = false := by rw [htl]; exact e2
          rw [← HP4, ← HQ.out] at e1 e2 e3 e4 HBYS
          generalize bytesA P Q = X at *
          clear he htl HP4
          go_wp2_with (go_at_call 5; refine cargs (by simp [Act.eval]) ((HBYS.out _).mono ?_); rintro e w1 ⟨rfl, hb1⟩)
          go_returns
          exact ⟨by rw [HF.out]; rfl, HB.out.trans (hb1.mono HB.out.size)⟩
  · have h16' : ¬ (s.size : Int) = 16 := by omega
    have HF : Hid (readA s = none) := by show _ = _; unfold readA; rw [if_neg (fun h => h16 h.1)]
    clear h16
    go_enter Tryd.func6, Tryd.ntmps6
    go_wp2_with fail
    go_returns
    exact ⟨by rw [HF.out]; rfl, Below.refl _ _⟩

end Go.Proofs.YtmgngapkgcofnabDoor
