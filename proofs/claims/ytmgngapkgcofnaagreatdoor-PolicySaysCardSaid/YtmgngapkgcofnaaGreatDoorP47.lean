/- The reference's texts of actions, names, conditions: the walks. -/
import Derived.Test.YtmgngapkgcofnaaGreatDoorP32
import Derived.Test.YtmgngapkgcofnaaGreatDoorP27
import Derived.Test.YtmgngapkgcofnaaGreatDoorP46
import Derived.BigQuiet
import Derived.Deep.RegionWith
namespace Go.Proofs.YtmgngapkgcofnaaGreatDoor
open Go.RowKit

theorem refActionText_any (k e : Int) (w : World) (hk : actF k e = 0) :
    Calls Tryz.prog 39 #[.agg #[.int .i64 k, .int .i64 e]] w fun e' w' => e' = .returned (.string ⟨(joinW 32 (actW k e)).toArray⟩) ∧ Below w.heap.size w w' := by
  rcases actF_cases hk with ⟨rfl, rfl⟩ | ⟨rfl, rfl⟩ | ⟨rfl, h1, h2⟩
  · rw [joinA1]
    go_enter Tryz.func39, Tryz.ntmps39
    go_wp2
    go_ret
    exact ⟨rfl, (Below.refl _ _).alloc (Nat.le_refl _) _⟩
  · rw [joinA3]
    go_enter Tryz.func39, Tryz.ntmps39
    go_wp2
    go_ret
    exact ⟨rfl, (Below.refl _ _).alloc (Nat.le_refl _) _⟩
  · obtain ⟨n, rfl⟩ : ∃ n : Nat, e = n := ⟨e.toNat, by omega⟩
    rw [joinA2]
    have HIT : Hid (∀ W, Calls Tryz.prog 64 #[.int .u64 (n : Int)] W fun e w' => e = .returned (.string ⟨(Lib.decDigits n).toArray⟩) ∧ Below W.heap.size W w') := fun W => digits_any n W (by omega)
    have hl := dec_len20 n (by omega)
    have h0 : (0 : Int) ≤ (n : Int) := by omega
    have h255 : (n : Int) ≤ 255 := by omega
    generalize Lib.decDigits n = D at *
    have g1 : ¬ 9223372036854775807 < 5 + D.length := by omega
    go_enter Tryz.func39, Tryz.ntmps39
    go_wp2_with (go_at_call 64; refine cargs (by simp) ((HIT.out _).mono ?_); rintro e w1 ⟨rfl, hb1⟩; have HB1 := Lib.hid hb1; clear hb1)
    go_ret
    refine ⟨?_, below_box (Below.refl _ _) (Nat.le_refl _) HB1.out⟩
    refine congrArg (fun v => Ending.returned (Value.string v)) ?_
    exact bstr_app [100, 101, 110, 121, 32] D

def namesArr : Array Value := #[.string ⟨#[114, 101, 97, 100]⟩, .string ⟨#[119, 114, 105, 116, 101]⟩, .string ⟨#[111, 112, 101, 110]⟩, .string ⟨#[99, 108, 111, 115, 101]⟩, .string ⟨#[115, 116, 97, 116]⟩, .string ⟨#[114, 101, 110, 97, 109, 101]⟩, .string ⟨#[99, 111, 110, 110, 101, 99, 116]⟩, .string ⟨#[108, 105, 110, 107]⟩, .string ⟨#[115, 101, 110, 100]⟩]
theorem nameIdx0 (w : World) : (Instr.index 105 (.agg namesArr) (.int .i64 0)).run Tryz.prog w = .ok (.string (formName 0)) w := by kernel_rfl
theorem nameIdx1 (w : World) : (Instr.index 105 (.agg namesArr) (.int .i64 1)).run Tryz.prog w = .ok (.string (formName 1)) w := by kernel_rfl
theorem nameIdx2 (w : World) : (Instr.index 105 (.agg namesArr) (.int .i64 2)).run Tryz.prog w = .ok (.string (formName 2)) w := by kernel_rfl
theorem nameIdx3 (w : World) : (Instr.index 105 (.agg namesArr) (.int .i64 3)).run Tryz.prog w = .ok (.string (formName 3)) w := by kernel_rfl
theorem nameIdx4 (w : World) : (Instr.index 105 (.agg namesArr) (.int .i64 4)).run Tryz.prog w = .ok (.string (formName 4)) w := by kernel_rfl
theorem nameIdx5 (w : World) : (Instr.index 105 (.agg namesArr) (.int .i64 5)).run Tryz.prog w = .ok (.string (formName 5)) w := by kernel_rfl
theorem nameIdx6 (w : World) : (Instr.index 105 (.agg namesArr) (.int .i64 6)).run Tryz.prog w = .ok (.string (formName 6)) w := by kernel_rfl
theorem nameIdx7 (w : World) : (Instr.index 105 (.agg namesArr) (.int .i64 7)).run Tryz.prog w = .ok (.string (formName 7)) w := by kernel_rfl
theorem nameIdx8 (w : World) : (Instr.index 105 (.agg namesArr) (.int .i64 8)).run Tryz.prog w = .ok (.string (formName 8)) w := by kernel_rfl
theorem nameIdx (nr : Nat) (h : nr < 9) (w : World) : (Instr.index 105 (.agg namesArr) (.int .i64 (nr : Int))).run Tryz.prog w = .ok (.string (formName nr)) w := by
  have h1 : nr = 0 ∨ nr = 1 ∨ nr = 2 ∨ nr = 3 ∨ nr = 4 ∨ nr = 5 ∨ nr = 6 ∨ nr = 7 ∨ nr = 8 := by omega
  clear h
  rcases h1 with rfl | rfl | rfl | rfl | rfl | rfl | rfl | rfl | rfl
  · exact nameIdx0 w
  · exact nameIdx1 w
  · exact nameIdx2 w
  · exact nameIdx3 w
  · exact nameIdx4 w
  · exact nameIdx5 w
  · exact nameIdx6 w
  · exact nameIdx7 w
  · exact nameIdx8 w
theorem callNames_any (w : World) : Calls Tryz.prog 40 #[] w fun e w' => e = .returned (.agg namesArr) ∧ Below w.heap.size w w' := by
  go_enter Tryz.func40, Tryz.ntmps40
  go_wp2
  refine bodyPost_ret (v := .agg namesArr) (by simp [results, Tryz.results40, go_sem]; try rfl) rfl ?_
  exact ⟨rfl, (Below.refl _ _).alloc (Nat.le_refl _) _⟩
/-- One byte as a text. -/
theorem conv_one (c : UInt8) {W : World} {b : Nat} (h : W.heap[b]? = some (.cells #[.int .u8 (c.toNat : Int)] 5 (0, 0))) : (convert 88 9 (.slice (some ⟨b, 0, none⟩) 1 1)).run Tryz.prog W = .ok (.string ⟨#[c]⟩) W := by
  refine run_convert_bytes_back W 88 9 5 ⟨b, 0, none⟩ 1 [c] Tryz.underlying88 Tryz.underlying5 Tryz.underlying9 (fun j hj => ?_)
  obtain rfl : j = 0 := by simpa using hj
  rw [add_plainA, cell_of_row _ _ _ _ _ _ h]
  rfl

def signsArr : Array Value := #[.string ⟨#[]⟩, .string ⟨#[61, 61]⟩, .string ⟨#[33, 61]⟩, .string ⟨#[60]⟩, .string ⟨#[60, 61]⟩, .string ⟨#[62]⟩, .string ⟨#[62, 61]⟩]
theorem signCell (j : Nat) (h : j < 7) : signsArr[j]? = some (.string ⟨(signW j).toArray⟩) := by
  have h1 : j = 0 ∨ j = 1 ∨ j = 2 ∨ j = 3 ∨ j = 4 ∨ j = 5 ∨ j = 6 := by omega
  rcases h1 with rfl | rfl | rfl | rfl | rfl | rfl | rfl <;> rfl

set_option linter.unusedSimpArgs false in
set_option maxRecDepth 100000 in
set_option maxHeartbeats 4000000 in
theorem refCondText_any (nr : Nat) (x : CondD) (w : World) (hok : x.ok) (hf : condF nr x = 0) :
    Calls Tryz.prog 41 #[x.val] w fun e w' => e = .returned (.string ⟨(ctL x).toArray⟩) ∧ Below w.heap.size w w' := by
  obtain ⟨⟨⟨ha0, ha3⟩, ⟨ho1, ho9⟩, ⟨v0, v1⟩, ⟨m0, m1⟩, _, _, _, _, hnet⟩, hgl⟩ := condSm_of hok hf
  clear hf hok
  obtain ⟨arg, op, v, m, glob, net⟩ := x
  simp only at ha0 ha3 ho1 ho9 v0 v1 m0 m1 hnet hgl
  obtain ⟨A, rfl⟩ : ∃ A : Nat, arg = A := ⟨arg.toNat, by omega⟩
  obtain ⟨v, rfl⟩ : ∃ j : Nat, v = j := ⟨v.toNat, by omega⟩
  obtain ⟨m, rfl⟩ : ∃ j : Nat, m = j := ⟨m.toNat, by omega⟩
  have HIT : Hid (∀ W, Calls Tryz.prog 64 #[.int .u64 (A : Int)] W fun e w' => e = .returned (.string ⟨(Lib.decDigits A).toArray⟩) ∧ Below W.heap.size W w') := fun W => digits_any A W (by omega)
  have HDV : Hid (∀ W, Calls Tryz.prog 64 #[.int .u64 (v : Int)] W fun e w' => e = .returned (.string ⟨(Lib.decDigits v).toArray⟩) ∧ Below W.heap.size W w') := fun W => digits_any v W (by omega)
  have HDM : Hid (∀ W, Calls Tryz.prog 64 #[.int .u64 (m : Int)] W fun e w' => e = .returned (.string ⟨(Lib.decDigits m).toArray⟩) ∧ Below W.heap.size W w') := fun W => digits_any m W (by omega)
  have hlA := dec_len20 A (by omega)
  have hlV := dec_len20 v (by omega)
  have hlM := dec_len20 m (by omega)
  have h6 := ct6 A op.toNat v m glob net
  have h7 := Lib.hid (ct7 A v m glob net)
  have h8 := Lib.hid (ct8 A v m glob net)
  have h9 := Lib.hid (ct9 A v m glob net)
  rw [show ((op.toNat : Nat) : Int) = op from by omega] at h6
  have H6 := Lib.hid h6
  clear h6
  generalize Lib.decDigits A = DA at *
  generalize Lib.decDigits v = DV at *
  generalize Lib.decDigits m = DM at *
  obtain ⟨ip, bits, lo, hi⟩ := net
  have HC9 := Lib.hid (cell9 w (.int .i64 (A : Int)) (.int .i64 op) (.int .u64 (v : Int)) (.int .u64 (m : Int)) (.string glob) (.int .u32 ip) (.int .i64 bits) (.int .i64 lo) (.int .i64 hi) 84)
  have HAB := Lib.hid (above w (.cells #[.int .i64 (A : Int), .int .i64 op, .int .u64 (v : Int), .int .u64 (m : Int), .string glob, .int .u32 ip, .int .i64 bits, .int .i64 lo, .int .i64 hi] 84))
  have g0 : ¬ 9223372036854775807 < DA.length + 1 := by omega
  unfold CondD.val
  simp only
  go_enter Tryz.func41, Tryz.ntmps41
  go_upto_region 2 with (go_at_call 64; refine cargs (by simp) ((HIT.out _).mono ?_); rintro e w1 ⟨rfl, hb1⟩; have HB1 := Lib.hid hb1; clear hb1)
  obtain ⟨j0, j1, j2, j3, j4, j5, j6, j7, j8⟩ := HC9.out w1 HB1.out
  have HBW := Lib.hid (HAB.out w1 HB1.out)
  have HBQ : Hid (∀ (d : Nat) (os : Array Obj), Below w.heap.size w (Go.Sort.grow (redrawn w1 d) os)) := fun d os => HBW.out.trans ((below_regrown w1 d os).mono HBW.out.size)
  by_cases c7 : op = 7
  · subst c7
    have HT : Hid (ctL ⟨(A : Int), 7, (v : Int), (m : Int), glob, ⟨ip, bits, lo, hi⟩⟩ = DA ++ [32] ++ [38, 32] ++ DM ++ [32, 61, 61, 32] ++ DV) := h7.out
    have r2 := cell_regrown j2
    have r3 := cell_regrown j3
    have cDV := fun d os => Calls.regrown_of (HDV.out (Go.Sort.grow (redrawn w1 d) os))
    have cDM := fun d os => Calls.regrown_of (HDM.out (Go.Sort.grow (redrawn w1 d) os))
    have g1 : ¬ 9223372036854775807 < DA.length + 1 + 2 := by omega
    have g2 : ¬ 9223372036854775807 < DA.length + 1 + 2 + DM.length := by omega
    have g3 : ¬ 9223372036854775807 < DA.length + 1 + 2 + DM.length + 4 := by omega
    have g4 : ¬ 9223372036854775807 < DA.length + 1 + 2 + DM.length + 4 + DV.length := by omega
    clear hnet hgl
    go_upto_region 3 with fail
    refine wp_region_quiet_below (by kernel_rfl) (by kernel_rfl) ?_
    repeat (go_big_quiet_step (first | (go_at_call_of 64 (Value.int .u64 (m : Int)); exact cDM _ _) | (go_at_call_of 64 (Value.int .u64 (v : Int)); exact cDV _ _)))
    refine wpQuiet_nil ?_
    intro _ hw'
    obtain ⟨⟨dq, osq⟩, hw''⟩ := hw'
    subst hw''
    go_wp2_with fail
    go_returns
    refine ⟨?_, HBQ.out dq osq⟩
    rw [HT.out]
    refine congrArg (fun v => Ending.returned (Value.string v)) ?_
    simp only [← bstr_app] <;> rfl
  · have t7 : ((op : Int) == 7) = false := beq_eq_false_iff_ne.2 c7
    by_cases c8 : op = 8
    · subst c8
      have HT : Hid (ctL ⟨(A : Int), 8, (v : Int), (m : Int), glob, ⟨ip, bits, lo, hi⟩⟩ = DA ++ [32] ++ [126, 32, 34] ++ glob.data.toList ++ [34]) := h8.out
      have hgs := hgl rfl
      have g1 : ¬ 9223372036854775807 < DA.length + 1 + 2 := by omega
      have g2 : ¬ 9223372036854775807 < DA.length + 1 + 2 + 1 := by omega
      have g3 : ¬ 9223372036854775807 < DA.length + 1 + 2 + 1 + glob.size := by omega
      have g4 : ¬ 9223372036854775807 < DA.length + 1 + 2 + 1 + glob.size + 1 := by omega
      have hcv : ∀ W : World, (convert 88 9 (.slice (some ⟨W.heap.size, 0, none⟩) 1 1)).run Tryz.prog (W.alloc (.cells #[.int .u8 34] 5)) = .ok (.string ⟨#[34]⟩) (W.alloc (.cells #[.int .u8 34] 5)) := fun W => conv_one 34 (heap_alloc_new _ _)
      have hcv2 : ∀ W : World, (convert 88 9 (.slice (some ⟨W.heap.size + 1, 0, none⟩) 1 1)).run Tryz.prog ((W.alloc (.cells #[.int .u8 34] 5)).alloc (.cells #[.int .u8 34] 5)) = .ok (.string ⟨#[34]⟩) ((W.alloc (.cells #[.int .u8 34] 5)).alloc (.cells #[.int .u8 34] 5)) := fun W => conv_one 34 (by
        have := heap_alloc_new (W.alloc (.cells #[.int .u8 34] 5)) (.cells #[.int .u8 34] 5)
        rw [show (W.alloc (.cells #[.int .u8 34] 5)).heap.size = W.heap.size + 1 from by simp] at this
        exact this)
      have hlt : w.heap.size < w1.heap.size := by have := HB1.out.size; simp at this; omega
      clear hnet hgl c7
      go_wp2_with fail
      go_returns
      refine ⟨?_, (HBW.out.alloc HBW.out.size _).alloc (by simp; have := HBW.out.size; omega) _⟩
      rw [HT.out]
      refine congrArg (fun v => Ending.returned (Value.string v)) ?_
      have e1 : (⟨#[126, 32]⟩ : ByteArray) = ⟨([126, 32] : List UInt8).toArray⟩ := rfl
      have e2 : (⟨#[34]⟩ : ByteArray) = ⟨([34] : List UInt8).toArray⟩ := rfl
      have e3 : (⟨#[32]⟩ : ByteArray) = ⟨([32] : List UInt8).toArray⟩ := rfl
      rw [e1, e2, e3, gstr glob]
      simp only [bstr_app]
      simp
    · have t8 : ((op : Int) == 8) = false := beq_eq_false_iff_ne.2 c8
      by_cases c9 : op = 9
      · subst c9
        have HT : Hid (ctL ⟨(A : Int), 9, (v : Int), (m : Int), glob, ⟨ip, bits, lo, hi⟩⟩ = DA ++ [32] ++ [105, 110, 32] ++ textN ⟨ip, bits, lo, hi⟩) := h9.out
        obtain ⟨hn1, hn2⟩ := hnet rfl
        have HNT : Hid (∀ W, Calls Tryz.prog 65 #[.agg #[.int .u32 ip, .int .i64 bits, .int .i64 lo, .int .i64 hi]] W fun e w' => e = .returned (.string ⟨(textN ⟨ip, bits, lo, hi⟩).toArray⟩) ∧ Below W.heap.size W w') := fun W => refNetText_any ⟨ip, bits, lo, hi⟩ W hn1 hn2
        have hln := textN_len hn1 hn2
        generalize textN ⟨ip, bits, lo, hi⟩ = D at *
        have g1 : ¬ 9223372036854775807 < DA.length + 1 + 3 := by omega
        have g2 : ¬ 9223372036854775807 < DA.length + 1 + 3 + D.length := by omega
        clear hnet hgl c7 c8 hn1 hn2
        go_wp2_with (go_at_call 65; refine cargs (by simp) ((HNT.out _).mono ?_); rintro e w2 ⟨rfl, hb2⟩; have HB2 := Lib.hid hb2; clear hb2)
        go_returns
        refine ⟨?_, HBW.out.trans (HB2.out.mono HBW.out.size)⟩
        rw [HT.out]
        refine congrArg (fun v => Ending.returned (Value.string v)) ?_
        simp only [← bstr_app] <;> rfl
      · have t9 : ((op : Int) == 9) = false := beq_eq_false_iff_ne.2 c9
        obtain ⟨j, rfl⟩ : ∃ j : Nat, op = j := ⟨op.toNat, by omega⟩
        rw [Int.toNat_natCast] at H6
        have HT : Hid (ctL ⟨(A : Int), (j : Int), (v : Int), (m : Int), glob, ⟨ip, bits, lo, hi⟩⟩ = DA ++ [32] ++ signW j ++ [32] ++ DV) := H6.out (by omega) (by omega)
        have z7 : (j : Int) < 7 := by omega
        have z0 : (0 : Int) ≤ (j : Int) := by omega
        have HSGN : Hid (∀ W : World, W.heap[w1.heap.size]? = some (.cells signsArr 128 (0, 0)) → W.cell? ⟨w1.heap.size, j, none⟩ = some (.string ⟨(signW j).toArray⟩)) := fun W h => (cell_of_row _ _ _ _ _ _ h).trans (signCell j (by omega))
        have hls : (signW j).length ≤ 2 := by
          have : j = 1 ∨ j = 2 ∨ j = 3 ∨ j = 4 ∨ j = 5 ∨ j = 6 := by omega
          rcases this with rfl | rfl | rfl | rfl | rfl | rfl <;> decide
        generalize signW j = D at *
        have g1 : ¬ 9223372036854775807 < DA.length + 1 + D.length := by omega
        have g2 : ¬ 9223372036854775807 < DA.length + 1 + D.length + 1 := by omega
        have g3 : ¬ 9223372036854775807 < DA.length + 1 + D.length + 1 + DV.length := by omega
        have HW2 : Hid (∀ W : World, W = w1.alloc (.cells #[.string ⟨#[]⟩, .string ⟨#[61, 61]⟩, .string ⟨#[33, 61]⟩, .string ⟨#[60]⟩, .string ⟨#[60, 61]⟩, .string ⟨#[62]⟩, .string ⟨#[62, 61]⟩] 128) → W.cell? ⟨w.heap.size, 1, none⟩ = some (.int .i64 (j : Int)) ∧ W.cell? ⟨w.heap.size, 2, none⟩ = some (.int .u64 (v : Int)) ∧ W.cell? ⟨w1.heap.size, j, none⟩ = some (.string ⟨D.toArray⟩) ∧ Below w.heap.size w W) := fun W hW => by
          subst hW
          have hb2 := HB1.out.alloc HB1.out.size (.cells signsArr 128)
          exact ⟨(HC9.out _ hb2).2.1, (HC9.out _ hb2).2.2.1, HSGN.out _ (heap_alloc_new _ _), HBW.out.alloc HBW.out.size _⟩
        clear hnet hgl c7 c8 c9 HSGN
        go_upto_region 9 with fail
        obtain ⟨k1, k2, k3, hbw2⟩ := HW2.out (w1.alloc (.cells #[.string ⟨#[]⟩, .string ⟨#[61, 61]⟩, .string ⟨#[33, 61]⟩, .string ⟨#[60]⟩, .string ⟨#[60, 61]⟩, .string ⟨#[62]⟩, .string ⟨#[62, 61]⟩] 128)) rfl
        have HBW2 := Lib.hid hbw2
        clear hbw2 HW2
        generalize w1.alloc (.cells #[.string ⟨#[]⟩, .string ⟨#[61, 61]⟩, .string ⟨#[33, 61]⟩, .string ⟨#[60]⟩, .string ⟨#[60, 61]⟩, .string ⟨#[62]⟩, .string ⟨#[62, 61]⟩] 128) = W2 at *
        have HBQ2 : Hid (∀ (d : Nat) (os : Array Obj), Below w.heap.size w (Go.Sort.grow (redrawn W2 d) os)) := fun d os => HBW2.out.trans ((below_regrown W2 d os).mono HBW2.out.size)
        have r1 := cell_regrown k1
        have r2 := cell_regrown k2
        have r3 := cell_regrown k3
        have cDV := fun d os => Calls.regrown_of (HDV.out (Go.Sort.grow (redrawn W2 d) os))
        refine wp_region_quiet_below (by kernel_rfl) (by kernel_rfl) ?_
        repeat (go_big_quiet_step ((go_at_call 64; exact cDV _ _)))
        refine wpQuiet_nil ?_
        intro _ hw'
        obtain ⟨⟨dq, osq⟩, hw''⟩ := hw'
        subst hw''
        go_wp2_with fail
        go_returns
        refine ⟨?_, HBQ2.out dq osq⟩
        rw [HT.out]
        refine congrArg (fun v => Ending.returned (Value.string v)) ?_
        simp only [← bstr_app] <;> rfl
end Go.Proofs.YtmgngapkgcofnaaGreatDoor
