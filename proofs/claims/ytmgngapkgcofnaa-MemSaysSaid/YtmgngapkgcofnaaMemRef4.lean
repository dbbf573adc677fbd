/- The reference's memory: Seal: the walk. -/
import Derived.Test.YtmgngapkgcofnaaMemRef3
namespace Go.Proofs.Ytmgngapkgcofnaa
open Go.RowKit Go.PlainAid

def partB (s : ByteArray) (i : Nat) : Nat → Int := fun j => if j < i then bt s j else 0
theorem partB_all (s : ByteArray) : partB s s.size = bt s := by
  funext j; unfold partB; split
  · rfl
  · rename_i h; unfold bt; rw [dif_neg h]
set_option linter.unusedSimpArgs false in
set_option maxRecDepth 100000 in
set_option maxHeartbeats 2000000 in
theorem refSeal_any (r : Nat) (S : MemS) (s : ByteArray) (w : World) (h : RefAt w r S) :
    Calls Try.prog 43 #[.pointer (some ⟨r, 0, none⟩), .string s] w fun e w' => e = .returned (.tuple #[.int .u64 (sealX S s).1, .int .i64 (sealX S s).2]) ∧ RefAt w' r (sealS S s) ∧ But r w w' := by
  have H := Lib.hid h
  by_cases h64 : 64 < s.size
  · have HE : Hid (sealX S s = (0, 1)) := if_pos h64
    have HS : Hid (sealS S s = S) := if_pos h64
    have x1 : (64 : Int) < (s.size : Int) := by omega
    clear h h64
    go_enter Try.func43, Try.ntmps43
    go_wp2_with fail
    go_ret2
    exact ⟨by rw [HE.out]; rfl, by rw [HS.out]; exact H.out, But.refl _ _⟩
  · obtain ⟨C, hblk, hI, hB⟩ := h.rep
    have HC : Hid (∀ k, k < 4 → w.cell? ⟨r, 8 + k, none⟩ = some (.int .i64 (if (S.sl k).isSome then 3 else 0))) := by
      intro k hk
      rw [hblk.cell (i := 8 + k) (by omega), hI _ (by omega)]
      unfold refIs
      rw [if_neg (by omega), show 8 + k - 8 = k from by omega]
    have HREP : Hid (BlkAt w r 65 780 C ∧ RCI S C ∧ RCB S C) := ⟨hblk, hI, hB⟩
    have HS1 : Hid (sealS S s = match ffF S 4 0 with
      | some i => S.sealAt i (bt s)
      | none => S) := if_neg h64
    have HX1 : Hid (sealX S s = match ffF S 4 0 with
      | some i => ((((8 + i) * 64 : Nat) : Int), (0 : Int))
      | none => (0, 9)) := if_neg h64
    have x1 : ¬ (64 : Int) < (s.size : Int) := by omega
    have x0 : s.size ≤ 64 := by omega
    clear hblk hI hB h h64
    go_enter Try.func43, Try.ntmps43
    go_wp2_with fail
    go_loop [6] (fun iv => ∃ k q : Nat, q = 8 + k ∧ k ≤ 4 ∧ iv = .int .i64 q ∧ Hid (ffF S 4 0 = ffF S (4 - k) k)) (fun iv => 12 - (intOf iv).toNat)
    case atStart => exact ⟨0, 8, rfl, Nat.zero_le _, rfl, rfl⟩
    case round =>
      obtain ⟨k, q, hq, hk, rfl, hF⟩ := hrel
      by_cases hlt : k < 4
      · have x1 : (q : Int) < 12 := by omega
        have x2 : (0 : Int) ≤ (q : Int) := by omega
        have hc1 := HC.out k hlt
        rw [← hq] at hc1
        have HQ := Lib.hid hq
        have hq12 : q < 12 := by omega
        clear hq
        obtain ⟨n, hn⟩ : ∃ n, 4 - k = n + 1 := ⟨4 - k - 1, by omega⟩
        have hF1 : ffF S 4 0 = if (S.sl k).isSome then ffF S n (k + 1) else some k := by rw [hF.out, hn, ffF]
        cases hsl : (S.sl k).isSome with
        | true =>
          rw [hsl] at hc1 hF1
          simp only [if_true] at hc1 hF1
          have hF2 : Hid (ffF S 4 0 = ffF S (4 - (k + 1)) (k + 1)) := by show _ = _; rw [hF1, show 4 - (k + 1) = n from by omega]
          clear hsl hF hF1
          go_wp2_with fail
          go_round
          case rel => exact ⟨k + 1, q + 1, by have := HQ.out; omega, by omega, by go_num, hF2⟩
          case measure => simp [intOf]; omega
        | false =>
          rw [hsl] at hc1 hF1
          simp only [Bool.false_eq_true, if_false] at hc1 hF1
          have HS2 : Hid (sealS S s = S.sealAt k (bt s)) := by show _ = _; rw [HS1.out, hF1]
          have HX2 : Hid (sealX S s = ((((8 + k) * 64 : Nat) : Int), (0 : Int))) := by show _ = _; rw [HX1.out, hF1]
          obtain ⟨hblk, hI, hB⟩ := HREP.out
          obtain ⟨zs, hzs⟩ : ∃ zs, zs = List.replicate 64 (Value.int .u8 0) := ⟨_, rfl⟩
          have g0 := hblk.set q (.int .i64 3)
          have F0 := hblk.frozen q
          have f0 := BlkAt.sets zs g0 (12 + q * 64)
          have hth := g0.there (o := 12 + q * 64) (k := 64) (by omega)
          have d1 : But r w ((w.setCell ⟨r, q, none⟩ (.int .i64 3)).setCells r (12 + q * 64) zs) := ((But.refl r w).setCell _ _).setCells _ _
          have hq8 := HQ.out
          have hR0 : RefAt ((w.setCell ⟨r, q, none⟩ (.int .i64 3)).setCells r (12 + q * 64) zs) r (S.sealAt k (partB s 0)) := by
            refine ⟨sealAt_ok H.out.ok k fun j => ?_, H.out.wr, _, f0, ?_, ?_⟩
            · unfold partB; rw [if_neg (Nat.not_lt_zero j)]; omega
            · refine RCI.setVs ?_ (by omega) zs
              subst hq8
              exact hI.set (8 + k) 3 (refIs_seal S _) (refIs_seal_ne S _)
            · rw [hzs]
              subst hq8
              exact (hB.setI (by omega) _).zero (fun n j u h1 h2 h3 h4 => refB_seal_ne _ n j u h1 h2 h3 h4) (fun j u _ hu => by rw [refB_seal_at] at hu; exact (Option.some.inj hu).symm.trans (if_neg (Nat.not_lt_zero j)))
          have HR0 := Lib.hid hR0
          have HD1 := Lib.hid d1
          have HTH := Lib.hid hth
          have HZB : Hid (zero64.toList = zs) := by show _ = _; rw [hzs]; exact zero64_list
          have HZO : Hid (zero64.all (·.oneCell') = true) := rowOf_one fun _ _ => rfl
          have HZC : Hid (zero64.size = 64) := zero64_size
          clear hsl hF hF1 hblk hI hB g0 f0 hth d1 hR0 hzs hq8
          go_upto_region 8 with fail
          go_upto_region 9 with (first
            | (refine wpList_buildTo rfl _ _ rfl (some 29) rfl zero64 (by kernel_rfl) ?_)
            | (refine wpList_store_mid rfl 62 (.tmp 32) (.tmp 29) rfl r (12 + q * 64) zero64 (by simp [Act.eval, Act.put]) (by simp [Act.eval, Act.put]) (by rw [HZC.out]; exact HTH.out) (by rw [HZC.out]; exact b64_info) HZO.out ?_; rw [HZB.out]))
          generalize (w.setCell ⟨r, q, none⟩ (.int .i64 3)).setCells r (12 + q * 64) zs = W1 at *
          go_wp2_with fail
          go_loopw [7] (fun iv wr => ∃ i : Nat, i ≤ s.size ∧ iv = .int .i64 i ∧ Hid (RefAt wr r (S.sealAt k (partB s i))) ∧ Hid (But r w wr)) (fun iv _ => s.size - (intOf iv).toNat)
          case atStart => exact ⟨0, Nat.zero_le _, rfl, HR0, HD1⟩
          case round =>
            obtain ⟨i, hi, rfl, hM, hBt⟩ := hrel
            by_cases hli : i < s.size
            · have x3 : (i : Int) < (s.size : Int) := by omega
              have x4 : (0 : Int) ≤ (i : Int) := by omega
              have x5 : (i : Int) < 64 := by omega
              have gx := get_bt s
              have gr := bt_range s i
              obtain ⟨C', hblk, hI, hB⟩ := hM.out.rep
              have f1 := hblk.frozen (12 + q * 64 + i)
              have cc := hblk.cell (i := 12 + q * 64 + i) (by omega)
              have g1 := hblk.set (12 + q * 64 + i) (.int .u8 (bt s i))
              have HF : Hid (RefAt (wr.setCell ⟨r, 12 + q * 64 + i, none⟩ (.int .u8 (bt s i))) r (S.sealAt k (partB s (i + 1)))) := by
                have hq8 := HQ.out
                subst hq8
                refine ⟨sealAt_ok H.out.ok k fun j => ?_, H.out.wr, _, g1, (hI.other fun n hn => ?_).setV (by omega) _, hB.poke (by omega) gr.1 gr.2 ?_ ?_⟩
                · unfold partB; split
                  · exact bt_range s j
                  · omega
                · unfold refIs MemS.sealAt
                  by_cases h8 : n < 8
                  · rw [if_pos h8, if_pos h8]
                  · rw [if_neg h8, if_neg h8]; simp only
                    by_cases e : n - 8 = k
                    · simp only [if_pos e]; rfl
                    · simp only [if_neg e]
                · intro n j u h1 h2 h3 h4
                  by_cases e : n = 8 + k
                  · subst e
                    rw [refB_seal_at] at h4 ⊢
                    rw [← h4]
                    have : j ≠ i := fun e2 => h3 ⟨rfl, e2⟩
                    unfold partB
                    by_cases e3 : j < i
                    · rw [if_pos e3, if_pos (by omega)]
                    · rw [if_neg e3, if_neg (by omega)]
                  · have := refB_seal_ne (S := S) (i := k) (partB s (i + 1)) n j u h1 h2 e h4
                    unfold refB MemS.sealAt
                    unfold refB at this
                    by_cases h8 : n < 8
                    · rw [if_pos h8] at this ⊢; exact this
                    · rw [if_neg h8] at this ⊢; simp only; rw [if_neg (show n - 8 ≠ k by omega)]; exact this
                · intro u hu
                  rw [refB_seal_at] at hu
                  rw [← Option.some.inj hu]
                  unfold partB; rw [if_pos (by omega)]
              have HG : Hid (But r w (wr.setCell ⟨r, 12 + q * 64 + i, none⟩ (.int .u8 (bt s i)))) := hBt.out.setCell _ _
              clear hblk hI hB g1 hM hBt
              go_wp2_with fail
              go_region
              go_wp2_with fail
              go_roundw
              case rel => exact ⟨i + 1, by omega, by go_num, HF.out.drew, HG.out.drew⟩
              case measure => simp [intOf]; omega
            · obtain rfl : i = s.size := by omega
              have hpa := hM.out
              rw [partB_all] at hpa
              have HPA := Lib.hid hpa
              clear hpa hM
              go_wp2_with fail
              go_ret2
              refine ⟨?_, ?_, ?_⟩
              · rw [HX2.out, show (((8 + k) * 64 : Nat) : Int) = 64 * (q : Int) from by have := HQ.out; omega]; rfl
              · rw [HS2.out]; exact HPA.out
              · exact hBt.out
      · obtain rfl : k = 4 := by omega
        subst hq
        have hF2 : ffF S 4 0 = none := hF.out
        have HE : Hid (sealX S s = (0, 9)) := by show _ = _; rw [HX1.out, hF2]
        have HS2 : Hid (sealS S s = S) := by show _ = _; rw [HS1.out, hF2]
        clear hF hF2
        go_wp2_with fail
        go_ret2
        exact ⟨by rw [HE.out]; rfl, by rw [HS2.out]; exact H.out, But.refl _ _⟩

end Go.Proofs.Ytmgngapkgcofnaa
