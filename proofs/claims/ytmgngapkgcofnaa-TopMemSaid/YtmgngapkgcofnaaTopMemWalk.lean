/- TopMem: the walk. -/
import Derived.Test.YtmgngapkgcofnaaTopMemLaw
namespace Go.Proofs.Ytmgngapkgcofnaa
open Go.RowKit Go.PlainAid

theorem ActsSl.but {w w' : World} {H m : Nat} {v : Value} {l : List ActD} (h : ActsSl w H v l) (hb : But m w w') (hH : H ≤ m) (hs : H ≤ w.heap.size) : ActsSl w' H v l := by
  obtain ⟨h0, A, c, h1, h2⟩ := h
  refine ⟨h0, A, c, h1, h2.imp id ?_⟩
  rintro ⟨b, o, ha, hB, hr⟩
  exact ⟨b, o, ha, hB, hr.but hb (by omega) (by omega)⟩
set_option linter.unusedSimpArgs false in
set_option maxRecDepth 100000 in
set_option maxHeartbeats 4000000 in
theorem topMem_walk (v0 v3 : Value) (l0 l3 : List ActD) (s t : ByteArray) (w : World) (h0 : ActsSl w w.heap.size v0 l0) (h3 : ActsSl w w.heap.size v3 l3) (hms : s.size ≤ maxLen) (hmt : t.size ≤ maxLen) :
    Calls Try.prog 9 #[v0, .string s, .string t, v3] w fun e w' => e = .returned (.bool true) ∧ Below w.heap.size w w' := by
  unfold maxLen at hms hmt
  have HL0 := Lib.hid (light_any v0 l0 30 w h0 (by omega))
  have HL3 := Lib.hid (light_any v3 l3 30 w h3 (by omega))
  by_cases hg : lightF l0 30 = true ∧ lightF l3 30 = true ∧ s.size ≤ 64 ∧ t.size ≤ 64
  · obtain ⟨g0, g3, gs, gt⟩ := hg
    obtain ⟨n0, p0⟩ := lightF_len g0
    obtain ⟨n3, p3⟩ := lightF_len g3
    rw [g0] at HL0
    rw [g3] at HL3
    have ts : ¬ (64 : Int) < (s.size : Int) := by omega
    have tt : ¬ (64 : Int) < (t.size : Int) := by omega
    have q1 : touchN MemS.new l0 l0.length = touchN MemS.new l0 l0.length := rfl
    obtain ⟨S1, hS1⟩ : ∃ S1, touchN MemS.new l0 l0.length = S1 := ⟨_, rfl⟩
    have sl1 : S1.sl = MemS.new.sl := by rw [← hS1]; exact touchN_sl _ _ _
    have f1 : ffF S1 4 0 = some 0 := ffF_first (by rw [sl1]; rfl)
    have X1 : Hid (Value.tuple #[.int .u64 (sealX S1 s).1, errV (sealX S1 s).2] = .tuple #[.int .u64 512, .nilIface]) := by show _ = _; unfold sealX; rw [if_neg (by omega), f1]; rfl
    have E1 : sealS S1 s = S1.sealAt 0 (bt s) := by unfold sealS; rw [if_neg (by omega), f1]
    obtain ⟨S2, hS2⟩ : ∃ S2, sealS S1 s = S2 := ⟨_, rfl⟩
    have sl2a : S2.sl 0 = some (bt s) := by rw [← hS2, E1]; rfl
    have sl2b : ∀ k, k ≠ 0 → S2.sl k = none := fun k hk => by rw [← hS2, E1]; unfold MemS.sealAt; simp only; rw [if_neg hk, sl1]; rfl
    have f2 : ffF S2 4 0 = some 1 := ffF_second (by rw [sl2a]; rfl) (sl2b 1 (by omega))
    have X2 : Hid (Value.tuple #[.int .u64 (sealX S2 t).1, errV (sealX S2 t).2] = .tuple #[.int .u64 576, .nilIface]) := by show _ = _; unfold sealX; rw [if_neg (by omega), f2]; rfl
    have E2 : sealS S2 t = S2.sealAt 1 (bt t) := by unfold sealS; rw [if_neg (by omega), f2]
    obtain ⟨S3, hS3⟩ : ∃ S3, sealS S2 t = S3 := ⟨_, rfl⟩
    obtain ⟨S4, hS4⟩ : ∃ S4, touchN S3 l3 l3.length = S4 := ⟨_, rfl⟩
    have sl4 : S4.sl = S3.sl := by rw [← hS4]; exact touchN_sl _ _ _
    have sl4a : S4.sl 0 = some (bt s) := by rw [sl4, ← hS3, E2]; unfold MemS.sealAt; simp only; rw [if_neg (by omega), sl2a]
    have sl4b : S4.sl 1 = some (bt t) := by rw [sl4, ← hS3, E2]; rfl
    have sl4c : ∀ k, k ≠ 0 → k ≠ 1 → S4.sl k = none := fun k h1 h2 => by rw [sl4, ← hS3, E2]; unfold MemS.sealAt; simp only; rw [if_neg h2]; exact sl2b k h1
    have G1 : Hid (getV (byteS S4) 512 s.size = .tuple #[.string s, .nilIface]) := by show _ = _; rw [getV_P, get_sealed (i := 0) (by omega) s gs sl4a]; rfl
    have G2 : Hid (getV (byteS S4) 576 t.size = .tuple #[.string t, .nilIface]) := by show _ = _; rw [getV_P, get_sealed (i := 1) (by omega) t gt sl4b]; rfl
    have C4 : Hid (cntSl S4 4 = 2) := by show _ = _; simp only [cntSl, sl4a, sl4b, sl4c 2 (by omega) (by omega), sl4c 3 (by omega) (by omega)]; rfl
    have B5 : freeB S4 512 = true := by unfold freeB; rw [decide_eq_true (by omega), show 512 / 64 - 8 = 0 from rfl, sl4a]; rfl
    have E5 : freeS S4 512 = S4.free 0 := by unfold freeS; rw [B5]; rfl
    have F5 : Hid (freeE S4 512 = 0) := by show _ = _; unfold freeE; rw [B5]; rfl
    obtain ⟨S5, hS5⟩ : ∃ S5, freeS S4 512 = S5 := ⟨_, rfl⟩
    have sl5 : ∀ k, S5.sl k = if k = 0 then none else S4.sl k := fun k => by rw [← hS5, E5]; rfl
    have B6 : freeB S5 512 = false := by unfold freeB; rw [show 512 / 64 - 8 = 0 from rfl, sl5 0]; simp
    have F6 : Hid (freeE S5 512 = 8) := by show _ = _; unfold freeE; rw [B6]; rfl
    have E6 : freeS S5 512 = S5 := by unfold freeS; rw [B6]; simp
    have C5 : Hid (cntSl S5 4 = 1) := by show _ = _; simp only [cntSl, sl5]; simp [sl4b, sl4c 2 (by omega) (by omega), sl4c 3 (by omega) (by omega)]
    have HS1 := Lib.hid hS1
    have HS2 := Lib.hid hS2
    have HS3 := Lib.hid hS3
    have HS4 := Lib.hid hS4
    have HS5 := Lib.hid hS5
    have HE6 := Lib.hid E6
    have H0 := Lib.hid h0
    have H3 := Lib.hid h3
    have P0 := Lib.hid p0
    have P3 := Lib.hid p3
    have HN0 : l0.length ≤ 4096 := by omega
    have HN3 : l3.length ≤ 4096 := by omega
    have hss : (s.toList == s.toList) = true := by simp
    have htt : (t.toList == t.toList) = true := by simp
    have hss2 : (s.toList != s.toList) = false := by simp
    have htt2 : (t.toList != t.toList) = false := by simp
    have IS0 : Hid (∀ w : World, Calls Try.prog 59 #[errV 0, .int .i64 0] w fun e w' => e = .returned (.bool true) ∧ w = w') := fun w => is_any 0 0 w (by omega)
    have IS8 : Hid (∀ w : World, Calls Try.prog 59 #[errV 8, .int .i64 8] w fun e w' => e = .returned (.bool true) ∧ w = w') := fun w => is_any 8 8 w (by omega)
    obtain ⟨V0, hV0⟩ : ∃ V, errV 0 = V := ⟨_, rfl⟩
    obtain ⟨V8, hV8⟩ : ∃ V, errV 8 = V := ⟨_, rfl⟩
    rw [hV0] at IS0
    rw [hV8] at IS8
    have HV0 := Lib.hid hV0
    have HV8 := Lib.hid hV8
    clear h0 h3 p0 p3 hV0 hV8 hS1 hS2 hS3 hS4 hS5 E6 sl5 B6 E5 B5 sl4 sl4a sl4b sl4c E2 f2 sl2a sl2b E1 f1 sl1 q1 g0 g3 n0 n3
    have ISX : Hid (∀ (w : World) (v x : Value), (v = V0 ∧ x = .int .i64 0) ∨ (v = V8 ∧ x = .int .i64 8) → Calls Try.prog 59 #[v, x] w fun e w' => e = .returned (.bool true) ∧ w = w') := by
      rintro w v x (⟨rfl, rfl⟩ | ⟨rfl, rfl⟩)
      · exact IS0.out w
      · exact IS8.out w
    have HLL : Hid (∀ v, v = v0 ∨ v = v3 → Calls Try.prog 30 #[v, .int .i64 30] w fun e w' => e = .returned (.bool true) ∧ w = w') := by
      rintro v (rfl | rfl)
      · exact HL0.out
      · exact HL3.out
    go_enter Try.func9, Try.ntmps9
    go_upto_region 6 with (first
      | (go_at_call 30; refine (HLL.out _ (by simp [Act.eval])).mono ?_; rintro e w0 ⟨rfl, rfl⟩)
      | (go_at_call 31; refine calls_args (by simp [Act.eval]) ((memNew_any _).mono ?_); rintro e w1 ⟨rfl, hsz, hM, hb1⟩; have HM1 := Lib.hid (hM (fun g => w.heap.size ≤ g) (Nat.le_refl _)); clear hM))
    have b1 : Below w.heap.size w w1 := hb1
    have hs1 := hb1.size
    have A0 := Lib.hid (H0.out.below b1)
    have A3 := Lib.hid (H3.out.below b1)
    have hml : w.heap.size < w1.heap.size := by omega
    clear hsz hb1
    obtain ⟨m, hm⟩ : ∃ m, m = w.heap.size := ⟨_, rfl⟩
    have hmw : w.heap.size ≤ m := Nat.le_of_eq hm.symm
    rw [← hm] at A0 A3 HM1 b1 hs1 ⊢
    have HA1 := Lib.hid (touch_any m m _ MemS.new v0 l0 w1 A0.out HM1.out (Nat.le_refl _) HN0 P0.out)
    go_upto_region 7 with (go_at_call 57; refine calls_args (by simp [Act.eval]) (HA1.out.mono ?_); rintro e w2 ⟨rfl, hM2, hb2⟩; rw [HS1.out] at hM2; have HM2 := Lib.hid hM2; clear hM2)
    have hz2 := hb2.size
    have HA2 := Lib.hid (memSeal_any m _ S1 s w2 HM2.out (fun g hg => by omega))
    go_upto_region 8 with (go_at_call 42; refine calls_args (by simp [Act.eval]) (HA2.out.mono ?_); rintro e w3 ⟨rfl, hM3, hb3⟩; rw [HS2.out] at hM3; rw [X1.out]; have HM3 := Lib.hid hM3; clear hM3)
    have hz3 := hb3.size
    have HA3 := Lib.hid (memSeal_any m _ S2 t w3 HM3.out (fun g hg => by omega))
    go_upto_region 9 with (go_at_call 42; refine calls_args (by simp [Act.eval]) (HA3.out.mono ?_); rintro e w4 ⟨rfl, hM4, hb4⟩; rw [HS3.out] at hM4; rw [X2.out]; have HM4 := Lib.hid hM4; clear hM4)
    have hz4 := hb4.size
    have hb14 : But m w1 w4 := (hb2.trans hb3).trans hb4
    have A34 := A3.out.but hb14 (Nat.le_refl _) (by omega)
    have HA4 := Lib.hid (touch_any m m _ S3 v3 l3 w4 A34 HM4.out (Nat.le_refl _) HN3 P3.out)
    clear A34
    go_upto_region 12 with (go_at_call 57; refine calls_args (by simp [Act.eval]) (HA4.out.mono ?_); rintro e w5 ⟨rfl, hM5, hb5⟩; rw [HS4.out] at hM5; have HM5 := Lib.hid hM5; clear hM5)
    have hz5 := hb5.size
    have HA5 := Lib.hid (memGet_any m _ S4 512 s.size w5 HM5.out)
    go_upto_region 13 with (go_at_call 38; refine calls_args (by simp [Act.eval]) (HA5.out.mono ?_); rintro e w6 ⟨rfl, hb6⟩; rw [G1.out])
    have hz6 := hb6.size
    have HM6 := Lib.hid (HM5.out.below hb6 (Nat.le_refl _))
    have HA6 := Lib.hid (memGet_any m _ S4 576 t.size w6 HM6.out)
    go_upto_region 14 with (go_at_call 38; refine calls_args (by simp [Act.eval]) (HA6.out.mono ?_); rintro e w7 ⟨rfl, hb7⟩; rw [G2.out])
    have hz7 := hb7.size
    have HM7 := Lib.hid (HM6.out.below hb7 (Nat.le_refl _))
    have HA7 := Lib.hid (memSealed_any m _ S4 w7 HM7.out)
    go_upto_region 16 with (go_at_call 58; refine calls_args (by simp [Act.eval]) (HA7.out.mono ?_); rintro e w8 ⟨rfl, rfl⟩; rw [C4.out])
    have HA8 := Lib.hid (memFree_any m _ S4 512 w7 HM7.out (by omega))
    have HA9 : Hid (∀ w8, MemAt w8 (fun g => m ≤ g) m S5 → Calls Try.prog 44 #[.pointer (some ⟨m, 0, none⟩), .int .u64 (512 : Nat)] w8 fun e w' => e = .returned V8 ∧ MemAt w' (fun g => m ≤ g) m S5 ∧ But m w8 w') := fun w8 h => by
      have := memFree_any m _ S5 512 w8 h (by omega)
      rw [F6.out, HE6.out, HV8.out] at this; exact this
    have HA10 : Hid (∀ w9, MemAt w9 (fun g => m ≤ g) m S5 → Calls Try.prog 58 #[.pointer (some ⟨m, 0, none⟩)] w9 fun e w' => e = .returned (.int .i64 1) ∧ w9 = w') := fun w9 h => by
      have := memSealed_any m _ S5 w9 h
      rw [C5.out] at this; exact this
    have HA8' : Hid (Calls Try.prog 44 #[.pointer (some ⟨m, 0, none⟩), .int .u64 (512 : Nat)] w7 fun e w' => e = .returned V0 ∧ MemAt w' (fun g => m ≤ g) m S5 ∧ But m w7 w') := by
      have := HA8.out
      rw [F5.out, HS5.out, HV0.out] at this; exact this
    clear HA8
    go_wp2_with (first
      | (go_at_call 44; refine calls_args (by simp [Act.eval]) (HA8'.out.mono ?_); rintro e w8 ⟨rfl, hM8, hb8⟩; have HM8 := Lib.hid hM8; clear hM8)
      | (go_at_call 59; refine (ISX.out _ _ _ (by simp [Act.eval])).mono ?_; rintro e w9 ⟨rfl, rfl⟩)
      | (go_at_call 44; refine calls_args (by simp [Act.eval]) ((HA9.out _ HM8.out).mono ?_); rintro e w10 ⟨rfl, hM10, hb10⟩; have HM10 := Lib.hid hM10; clear hM10)
      | (go_at_call 58; refine calls_args (by simp [Act.eval]) ((HA10.out _ HM10.out).mono ?_); rintro e w12 ⟨rfl, rfl⟩))
    go_ret
    have h14 : Below m w1 w4 := hb14.below (Nat.le_refl _) (by omega)
    have h15 : Below m w1 w5 := h14.trans (hb5.below (Nat.le_refl _) (by omega))
    have h17 : Below m w1 w7 := (h15.trans (hb6.mono (by omega))).trans (hb7.mono (by omega))
    refine ⟨rfl, ?_⟩
    rw [← hm]
    exact ((b1.trans h17).trans (hb8.below (Nat.le_refl _) (by omega))).trans (hb10.below (Nat.le_refl _) (by have := hb8.size; omega))
  · clear h0 h3
    have fin : ∀ (b0 b3 : Bool), lightF l0 30 = b0 → lightF l3 30 = b3 → Calls Try.prog 9 #[v0, .string s, .string t, v3] w fun e w' => e = .returned (.bool true) ∧ Below w.heap.size w w' := by
      intro b0 b3 e0 e3
      rw [e0] at HL0 hg
      rw [e3] at HL3 hg
      clear e0 e3
      cases b0 with
      | false =>
        clear hg HL3
        go_enter Try.func9, Try.ntmps9
        go_wp2_with (go_at_call 30; refine calls_args (by first | (simp [Act.eval]; done) | fail) (HL0.out.mono ?_); rintro e w0 ⟨rfl, rfl⟩)
        go_ret
        exact ⟨rfl, Below.refl _ _⟩
      | true =>
        cases b3 with
        | false =>
          clear hg
          go_enter Try.func9, Try.ntmps9
          go_wp2_with (first
            | (go_at_call 30; refine calls_args (by first | (simp [Act.eval]; done) | fail) (HL0.out.mono ?_); rintro e w0 ⟨rfl, rfl⟩)
            | (go_at_call 30; refine calls_args (by first | (simp [Act.eval]; done) | fail) (HL3.out.mono ?_); rintro e w0 ⟨rfl, rfl⟩))
          go_ret
          exact ⟨rfl, Below.refl _ _⟩
        | true =>
          by_cases gs : s.size ≤ 64
          · have ts : ¬ (64 : Int) < (s.size : Int) := by omega
            have tt : (64 : Int) < (t.size : Int) := by
              rcases Nat.lt_or_ge 64 t.size with h | h
              · omega
              · exact absurd ⟨rfl, rfl, gs, h⟩ hg
            clear hg gs
            go_enter Try.func9, Try.ntmps9
            go_wp2_with (first
              | (go_at_call 30; refine calls_args (by first | (simp [Act.eval]; done) | fail) (HL0.out.mono ?_); rintro e w0 ⟨rfl, rfl⟩)
              | (go_at_call 30; refine calls_args (by first | (simp [Act.eval]; done) | fail) (HL3.out.mono ?_); rintro e w0 ⟨rfl, rfl⟩))
            go_ret
            exact ⟨rfl, Below.refl _ _⟩
          · have ts : (64 : Int) < (s.size : Int) := by omega
            clear hg gs
            go_enter Try.func9, Try.ntmps9
            go_wp2_with (first
              | (go_at_call 30; refine calls_args (by first | (simp [Act.eval]; done) | fail) (HL0.out.mono ?_); rintro e w0 ⟨rfl, rfl⟩)
              | (go_at_call 30; refine calls_args (by first | (simp [Act.eval]; done) | fail) (HL3.out.mono ?_); rintro e w0 ⟨rfl, rfl⟩))
            go_ret
            exact ⟨rfl, Below.refl _ _⟩
    exact fin _ _ rfl rfl

end Go.Proofs.Ytmgngapkgcofnaa
