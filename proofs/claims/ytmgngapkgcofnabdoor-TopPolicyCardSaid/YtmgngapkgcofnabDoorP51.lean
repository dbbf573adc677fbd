/- LightValues; a call's values that came in. -/
import Derived.Test.YtmgngapkgcofnabDoorP31
import Derived.Test.YtmgngapkgcofnabDoorP17
namespace Go.Proofs.YtmgngapkgcofnabDoor
open Go.RowKit Go.WideShapes Go.ChangeShapes Go.Deep

def lightV (v : ValsD) : Bool := (List.range 4).all fun i => decide ((v.at_ i).path.size ≤ 100)
theorem lightV_iff (v : ValsD) : lightV v = true ↔ ∀ i, i < 4 → (v.at_ i).path.size ≤ 100 := by
  unfold lightV
  rw [List.all_eq_true]
  exact ⟨fun h i hi => of_decide_eq_true (h i (List.mem_range.2 hi)), fun h i hi => decide_eq_true (h i (List.mem_range.1 hi))⟩
theorem lightV_ok {v : ValsD} (h : lightV v = true) : ∀ i, i < 4 → (v.at_ i).path.size ≤ 100 := (lightV_iff v).1 h
set_option linter.unusedSimpArgs false in
set_option maxRecDepth 100000 in
set_option maxHeartbeats 4000000 in
theorem lightVals_any (v : ValsD) (w : World) : Calls Tryd.prog 12 #[v.v] w fun e w' => e = .returned (.bool (lightV v)) ∧ Below w.heap.size w w' := by
  have HVR := Lib.hid (vals_row w v 48)
  have HNO : Hid (∀ i, i < 4 → ¬ (v.at_ i).path.size ≤ 100 → lightV v = false) := fun i h1 h2 => Bool.eq_false_iff.2 (fun h => h2 (lightV_ok h i h1))
  have HYES : Hid ((∀ i, i < 4 → (v.at_ i).path.size ≤ 100) → lightV v = true) := (lightV_iff v).2
  obtain ⟨VA, hVA⟩ : ∃ VA : Nat → ValD, VA = v.at_ := ⟨_, rfl⟩
  rw [← hVA] at HVR HNO HYES
  clear hVA
  generalize lightV v = LV at *
  obtain ⟨⟨p0, i0, q0⟩, ⟨p1, i1, q1⟩, ⟨p2, i2, q2⟩, ⟨p3, i3, q3⟩⟩ := v
  unfold ValsD.v ValsD.cells
  unfold ValsD.cells at HVR
  simp only at HVR ⊢
  have HAB := Lib.hid (fun W (h : Below (w.alloc (.cells #[.string p0, .int .u32 i0, .int .i64 q0, .string p1, .int .u32 i1, .int .i64 q1, .string p2, .int .u32 i2, .int .i64 q2, .string p3, .int .u32 i3, .int .i64 q3] 48)).heap.size (w.alloc (.cells #[.string p0, .int .u32 i0, .int .i64 q0, .string p1, .int .u32 i1, .int .i64 q1, .string p2, .int .u32 i2, .int .i64 q2, .string p3, .int .u32 i3, .int .i64 q3] 48)) W) => (((Below.refl _ _).alloc (Nat.le_refl _) _ : Below w.heap.size w (w.alloc (.cells #[.string p0, .int .u32 i0, .int .i64 q0, .string p1, .int .u32 i1, .int .i64 q1, .string p2, .int .u32 i2, .int .i64 q2, .string p3, .int .u32 i3, .int .i64 q3] 48))).trans (h.mono (by simp))))
  go_enter Tryd.func12, Tryd.ntmps12
  go_upto_region 1 with fail
  have HB0 : Hid (Below (w.alloc (.cells #[.string p0, .int .u32 i0, .int .i64 q0, .string p1, .int .u32 i1, .int .i64 q1, .string p2, .int .u32 i2, .int .i64 q2, .string p3, .int .u32 i3, .int .i64 q3] 48)).heap.size (w.alloc (.cells #[.string p0, .int .u32 i0, .int .i64 q0, .string p1, .int .u32 i1, .int .i64 q1, .string p2, .int .u32 i2, .int .i64 q2, .string p3, .int .u32 i3, .int .i64 q3] 48)) (w.alloc (.cells #[.string p0, .int .u32 i0, .int .i64 q0, .string p1, .int .u32 i1, .int .i64 q1, .string p2, .int .u32 i2, .int .i64 q2, .string p3, .int .u32 i3, .int .i64 q3] 48))) := Below.refl _ _
  generalize w.alloc (.cells #[.string p0, .int .u32 i0, .int .i64 q0, .string p1, .int .u32 i1, .int .i64 q1, .string p2, .int .u32 i2, .int .i64 q2, .string p3, .int .u32 i3, .int .i64 q3] 48) = W0 at *
  go_wp2_with fail
  go_loop [3] (fun iv => ∃ i : Nat, i ≤ 4 ∧ iv = .int .i64 i ∧ Hid (∀ j, j < i → (VA j).path.size ≤ 100)) (fun iv => 4 - (intOf iv).toNat)
  case atStart => exact ⟨0, by omega, rfl, fun j hj => by omega⟩
  case round =>
    obtain ⟨i, hi, rfl, HS⟩ := hrel
    by_cases hlt : i < 4
    · have z1 : (i : Int) < 4 := by omega
      have z0 : (0 : Int) ≤ (i : Int) := by omega
      obtain ⟨c0, _, _⟩ := HVR.out W0 HB0.out i hlt
      have HN1 := Lib.hid (HNO.out i hlt)
      by_cases hp : (VA i).path.size ≤ 100
      · have HS2 : Hid (∀ j, j < i + 1 → (VA j).path.size ≤ 100) := fun j hj => by
          by_cases hji : j = i
          · rw [hji]; exact hp
          · exact HS.out j (by omega)
        have t1 : decide (100 < ((VA i).path.size : Int)) = false := by simp; omega
        have t2 : ¬ 100 < ((VA i).path.size : Int) := by omega
        clear hp HN1
        go_wp2_with fail
        go_round
        case rel => exact ⟨i + 1, by omega, by go_num, HS2⟩
        case measure => simp [intOf]; omega
      · have t1 : decide (100 < ((VA i).path.size : Int)) = true := by simp; omega
        have t2 : 100 < ((VA i).path.size : Int) := by omega
        have HF : Hid (LV = false) := HN1.out hp
        clear hp HN1
        go_wp2_with fail
        go_ret
        exact ⟨by rw [HF.out]; rfl, HAB.out W0 HB0.out⟩
    · obtain rfl : i = 4 := by omega
      have HF : Hid (LV = true) := HYES.out HS.out
      go_wp2_with fail
      go_ret
      exact ⟨by rw [HF.out]; rfl, HAB.out W0 HB0.out⟩
section
variable {H : Type} {enc : TypeId × Value → H} {w : World} {base : Nat} {spare : Nat → Bool} {held : Bool} {fuel : Nat}
theorem cellsVals : Tryd.prog.cellsOf 48 = 12 := by kernel_rfl
theorem cellsVal : Tryd.prog.cellsOf 46 = 3 := by kernel_rfl
theorem cellsStrV : Tryd.prog.cellsOf 9 = 1 := by kernel_rfl
theorem list12 {α : Type} {l : List α} (h : l.length = 12) : ∃ a b c d e f g i j k m n, l = [a, b, c, d, e, f, g, i, j, k, m, n] := by
  match l, h with
  | [a, b, c, d, e, f, g, i, j, k, m, n], _ => exact ⟨a, b, c, d, e, f, g, i, j, k, m, n, rfl⟩
theorem val_cells {cs : List Value} {x : DataW H × List MemPlace} (h : DataW.trod enc Tryd.prog w base spare held fuel 46 cs = some x) :
    ∃ v : ValD, cs = [.string v.path, .int .u32 v.ip, .int .i64 v.port] ∧ (0 ≤ v.ip ∧ v.ip < 4294967296) := by
  obtain ⟨xs, m, _, _, hl, hxl, hf⟩ := DataW.trod_struct Tryd.underlying46 h
  rw [cellsVal] at hl
  obtain ⟨c0, c1, c2, rfl⟩ := list3 hl
  obtain ⟨x0, x1, x2, rfl⟩ := list3 hxl
  have f0 := hf 0 _ rfl
  have f1 := hf 1 _ rfl
  have f2 := hf 2 _ rfl
  simp [cellsStrV, cells36, cells3] at f0 f1 f2
  obtain ⟨s, h1, _⟩ := DataW.trod_string Tryd.underlying9 f0
  obtain ⟨ip, e1, k1⟩ := u32_cell f1
  obtain ⟨po, e2, _⟩ := int_cell f2
  simp at h1 e1 e2
  subst h1 e1 e2
  exact ⟨⟨s, ip, po⟩, rfl, k1⟩
theorem okWide_arr {P : Program} {r : Reach} {b0 : Nat} {t e : TypeId} {n : Nat} {v : Value} (ht : P.underlying t = some (.array n e)) (h : Value.okWide P w r b0 t v) : ∃ cs, v = .agg cs ∧ cs.size = P.cellsOf t := by
  simp only [Value.okWide, ht] at h
  obtain ⟨cs, h1, h2, _⟩ := h
  exact ⟨cs, h1, h2⟩
set_option maxRecDepth 100000 in
/-- A call's values by value. -/
theorem open_values {r : Reach} {b0 : Nat} {v : Value} {d : DataW H} {p : List MemPlace} (hv : Value.okWide Tryd.prog w r b0 48 v) (h : DataW.Trod enc Tryd.prog w base spare held 48 v d p) :
    ∃ vs : ValsD, v = vs.v ∧ ∀ i, 0 ≤ (vs.at_ i).ip ∧ (vs.at_ i).ip < 4294967296 := by
  obtain ⟨cs, rfl, _⟩ := okWide_arr Tryd.underlying48 hv
  obtain ⟨fuel, hf0⟩ := h
  obtain ⟨cs⟩ := cs
  simp only [Value.cells] at hf0
  obtain ⟨xs, m, _, _, hl, hxl, hf⟩ := DataW.trod_array Tryd.underlying48 hf0
  rw [cellsVals] at hl
  simp only [cellsVal] at hf
  obtain ⟨c0, c1, c2, c3, c4, c5, c6, c7, c8, c9, c10, c11, rfl⟩ := list12 hl
  obtain ⟨x0, x1, x2, x3, rfl⟩ := list4 hxl
  have f0 := hf 0 (by omega)
  have f1 := hf 1 (by omega)
  have f2 := hf 2 (by omega)
  have f3 := hf 3 (by omega)
  simp at f0 f1 f2 f3
  obtain ⟨v0, e0, k0⟩ := val_cells f0
  obtain ⟨v1, e1, k1⟩ := val_cells f1
  obtain ⟨v2, e2, k2⟩ := val_cells f2
  obtain ⟨v3, e3, k3⟩ := val_cells f3
  simp at e0 e1 e2 e3
  obtain ⟨rfl, rfl, rfl⟩ := e0
  obtain ⟨rfl, rfl, rfl⟩ := e1
  obtain ⟨rfl, rfl, rfl⟩ := e2
  obtain ⟨rfl, rfl, rfl⟩ := e3
  refine ⟨⟨v0, v1, v2, v3⟩, rfl, fun i => ?_⟩
  unfold ValsD.at_
  split
  · exact k0
  · split
    · exact k1
    · split
      · exact k2
      · exact k3
theorem vals_ok {vs : ValsD} (h : ∀ i, 0 ≤ (vs.at_ i).ip ∧ (vs.at_ i).ip < 4294967296) (hl : lightV vs = true) : vs.ok := by
  have h2 := lightV_ok hl
  have g : ∀ i, i < 4 → (vs.at_ i).ok := fun i hi => ⟨by have := h2 i hi; omega, h i⟩
  exact ⟨g 0 (by omega), g 1 (by omega), g 2 (by omega), g 3 (by omega)⟩
end
end Go.Proofs.YtmgngapkgcofnabDoor
