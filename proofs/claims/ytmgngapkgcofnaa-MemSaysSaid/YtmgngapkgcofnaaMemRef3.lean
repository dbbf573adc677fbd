/- The reference's memory: Put, Seal: the walks. -/
import Derived.Test.YtmgngapkgcofnaaMemRef1
namespace Go.Proofs.Ytmgngapkgcofnaa
open Go.RowKit Go.PlainAid

theorem ref_info : (Try.prog.info? 65).map (·.size) = some 780 := by kernel_rfl
theorem zeroRef_size : Try.zeroCells65.size = 780 := Try.zeroCells65_size
theorem ref_one {S : MemS} {C : Nat → Value} (hI : RCI S C) (hB : RCB S C) : (rowOf 780 C).all (·.oneCell') = true := by
  refine rowOf_one fun i hi => ?_
  by_cases h : i < 12
  · rw [hI i h]; rfl
  · obtain ⟨v, hv, _⟩ := hB ((i - 12) / 64) ((i - 12) % 64) (by omega) (by omega)
    rw [show 12 + (i - 12) / 64 * 64 + (i - 12) % 64 = i from by omega] at hv
    rw [hv]; rfl

set_option linter.unusedSimpArgs false in
set_option maxRecDepth 100000 in
set_option maxHeartbeats 2000000 in
theorem refPut_any (r : Nat) (S : MemS) (a : Nat) (s : ByteArray) (w : World) (h : RefAt w r S) (hs : s.size ≤ 4096) :
    Calls Try.prog 37 #[.pointer (some ⟨r, 0, none⟩), .int .u64 a, .string s] w fun e w' => e = .returned (.int .i64 (putE S a s.size)) ∧ RefAt w' r (putS S a s) ∧ But r w w' := by
  have hrlt := h.lt
  have hok := Lib.hid h.ok
  have hwr := Lib.hid h.wr
  obtain ⟨C, hblk, hI, hB⟩ := h.rep
  obtain ⟨W, hW, hth, hblk2, hbel, hsz⟩ := row_world w 65 780 C Try.zeroCells65 zeroRef_size
  have HRNG := Lib.hid hblk.range
  have HONE := Lib.hid (ref_one hI hB)
  have HTH := Lib.hid hth
  have HW := Lib.hid hW
  have HLEN : Hid ((rowOf 780 C).toList.length = 780) := by show _ = _; rw [Array.length_toList, rowOf_size]
  have HSZ : Hid ((rowOf 780 C).size = 780) := rowOf_size _ _
  have HR0 : Hid (RefAt W r S) := ⟨h.ok, h.wr, C, hblk.via hbel hrlt, hI, hB⟩
  have HBW : Hid (But r w W) := But.of_below hbel
  have HWAS : Hid (BlkAt W w.heap.size 65 780 C) := hblk2
  have HBACK : Hid (∀ wr C', BlkAt wr r 65 780 C' → But r w wr → RefAt (wr.setCells r 0 (rowOf 780 C).toList) r S ∧ But r w (wr.setCells r 0 (rowOf 780 C).toList)) := by
    intro wr C' hb' hbut
    refine ⟨⟨h.ok, h.wr, C, ?_, hI, hB⟩, hbut.setCells _ _⟩
    have h1 := BlkAt.sets (rowOf 780 C).toList hb' 0
    unfold BlkAt at h1 ⊢
    rw [h1, rowOf_congr (setVs_all C _ 780)]
  have HRW : Hid (∀ wr, BlkAt wr w.heap.size 65 780 C → wr.rangeAt w.heap.size 0 (rowOf 780 C).toList) := fun wr h => h.range
  clear hblk hI hB h hth hW hblk2 hbel
  obtain ⟨R, hR⟩ : ∃ R, R = rowOf 780 C := ⟨_, rfl⟩
  rw [← hR] at HRNG HONE HTH HW HLEN HSZ HBACK HRW
  clear hR
  go_enter Try.func37, Try.ntmps37
  go_upto_region 2 with (first
    | (refine wpList_load_mid rfl 65 (.tmp 11) rfl r 0 (by simp [Act.eval]) R.toList _ HRNG.out Try.underlying65 rfl (by rw [HLEN.out]; exact ref_info) ?_)
    | (refine wpList_store_mid rfl 65 (.tmp 7) (.tmp 12) rfl w.heap.size 0 R (by simp [Act.eval, Act.put]) (by simp [Act.eval, Act.put]) HTH.out (by rw [HSZ.out]; exact ref_info) HONE.out ?_; rw [HW.out]))
  go_wp2_with fail
  go_loopw [8] (fun iv wr => ∃ k : Nat, k ≤ s.size ∧ iv = .int .i64 k ∧ Hid (putB S a k = true) ∧ Hid (RefAt wr r (putN S a (bt s) k)) ∧ Hid (But r W wr)) (fun iv _ => s.size - (intOf iv).toNat)
  case atStart => exact ⟨0, Nat.zero_le _, rfl, rfl, HR0, But.refl _ _⟩
  case round =>
    obtain ⟨k, hk, rfl, hPB, hM, hBt⟩ := hrel
    by_cases hlt : k < s.size
    · have x1 : (k : Int) < (s.size : Int) := by omega
      have x2 : (0 : Int) ≤ (k : Int) := by omega
      have hw := wrap_sum a k
      obtain ⟨X, hX⟩ : ∃ X, Hid ((a + k) % 18446744073709551616 = X) := ⟨_, rfl⟩
      have hX1 : X < 18446744073709551616 := by rw [← hX.out]; omega
      rw [hX.out] at hw
      obtain ⟨q, hq⟩ : ∃ q, q = X / 64 := ⟨_, rfl⟩
      obtain ⟨j, hj⟩ : ∃ j, j = X % 64 := ⟨_, rfl⟩
      have hj64 : j < 64 := by omega
      have e1 : (X : Int) / 64 = (q : Int) := by omega
      have e2 : (X : Int) % 64 = (j : Int) := by omega
      have y2 : (0 : Int) ≤ (q : Int) := by omega
      have y4 : (0 : Int) ≤ (j : Int) := by omega
      have y5 : (j : Int) < 64 := by omega
      obtain ⟨C', hblk, hI, hB⟩ := hM.out.rep
      have hrng0 := HRW.out wr ((hBt.out.block w.heap.size (by omega) (by omega)).trans HWAS.out)
      have hback := HBACK.out wr C' hblk (HBW.out.trans hBt.out)
      have hthr : wr.there r 0 780 := hblk.there (by omega)
      by_cases h512 : X < 512
      · have hq8 : q < 8 := by omega
        have y1 : ¬ (7 : Int) < (q : Int) := by omega
        have y3 : (q : Int) < 12 := by omega
        have c1 := hblk.cell (i := q) (by omega)
        rw [hI _ (by omega)] at c1
        have ho : Hid (putOk S X = (S.p q).write) := by show _ = _; unfold putOk; rw [decide_eq_true h512, ← hq]; rfl
        have hpw := putN_write S a (bt s) k q
        cases hwv : (S.p q).write with
        | true =>
          have hx : refIs (putN S a (bt s) k) q = 2 := by unfold refIs; rw [if_pos hq8, hpw, hwv]; rfl
          rw [hx] at c1
          have hPB' : Hid (putB S a (k + 1) = true) := by show _ = _; rw [putB, hPB.out, hX.out, ho.out, hwv]; rfl
          have gx := get_bt s
          have gr := bt_range s k
          have f1 := hblk.frozen (12 + q * 64 + j)
          have cc := hblk.cell (i := 12 + q * 64 + j) (by omega)
          have g1 := hblk.set (12 + q * 64 + j) (.int .u8 (bt s k))
          have hpk := refB_poke_at (S := putN S a (bt s) k) (x := X) h512 (bt s k)
          rw [← hq, ← hj] at hpk
          have hpk2 := refB_poke (S := putN S a (bt s) k) (x := X) (bt s k)
          rw [← hq, ← hj] at hpk2
          have HF : Hid (RefAt (wr.setCell ⟨r, 12 + q * 64 + j, none⟩ (.int .u8 (bt s k))) r (putN S a (bt s) (k + 1))) := by
            show RefAt _ r _
            rw [putN, hX.out]
            refine ⟨poke_ok hM.out.ok X gr.1 gr.2, fun n => ?_, _, g1, (hI.other (refIs_poke _ X (bt s k))).setV (by omega) _, hB.poke hj64 gr.1 gr.2 hpk2 hpk⟩
            rw [poke_write, poke_read]; exact hM.out.wr n
          have HG : Hid (But r W (wr.setCell ⟨r, 12 + q * 64 + j, none⟩ (.int .u8 (bt s k)))) := hBt.out.setCell _ _
          clear hblk hI hB g1 hpk hpk2 hPB ho hwv hpw hx hq hj h512 hback hthr hrng0 hM hBt
          go_wp2_with fail
          go_region
          go_wp2_with fail
          go_roundw
          case rel => exact ⟨k + 1, by omega, by go_num, hPB', HF.out.drew, HG.out.drew⟩
          case measure => simp [intOf]; omega
        | false =>
          have hx : (refIs (putN S a (bt s) k) q == 2) = false := by
            unfold refIs; rw [if_pos hq8, hpw, hwv, putN_read]
            cases (S.p q).read <;> rfl
          have hb : putB S a s.size = false := putB_not (k := k) (by rw [hX.out, ho.out, hwv]) hlt
          have HE : Hid (putE S a s.size = 5) := by show _ = _; unfold putE; rw [hb]; rfl
          have HS : Hid (putS S a s = S) := by show _ = _; unfold putS; rw [hb]; simp
          have HBA := Lib.hid hback
          have HRNG2 := Lib.hid hrng0
          have HTH2 := Lib.hid hthr
          generalize refIs (putN S a (bt s) k) q = xx at *
          clear hblk hI hB hPB ho hwv hpw hq hj h512 hback hthr hrng0 hM hBt hb
          go_upto_region 7 with fail
          go_upto_region 8 with (first
            | (refine wpList_load_mid rfl 65 (.tmp 7) rfl w.heap.size 0 (by simp [Act.eval]) R.toList _ HRNG2.out Try.underlying65 rfl (by rw [HLEN.out]; exact ref_info) ?_)
            | (refine wpList_store_mid rfl 65 (.tmp 38) (.tmp 37) rfl r 0 R (by simp [Act.eval, Act.put]) (by simp [Act.eval, Act.put]) (by rw [HSZ.out]; exact HTH2.out) (by rw [HSZ.out]; exact ref_info) HONE.out ?_))
          go_wp2_with fail
          go_ret
          exact ⟨by rw [HE.out]; rfl, by rw [HS.out]; exact HBA.out.1, HBA.out.2⟩
      · have y1 : (7 : Int) < (q : Int) := by omega
        have hb : putB S a s.size = false := putB_not (k := k) (by rw [hX.out]; unfold putOk; rw [decide_eq_false h512]; rfl) hlt
        have HE : Hid (putE S a s.size = 5) := by show _ = _; unfold putE; rw [hb]; rfl
        have HS : Hid (putS S a s = S) := by show _ = _; unfold putS; rw [hb]; simp
        have HBA := Lib.hid hback
        have HRNG2 := Lib.hid hrng0
        have HTH2 := Lib.hid hthr
        clear hblk hI hB hPB hq hj h512 hback hthr hrng0 hM hBt hb
        go_upto_region 7 with fail
        go_upto_region 8 with (first
          | (refine wpList_load_mid rfl 65 (.tmp 7) rfl w.heap.size 0 (by simp [Act.eval]) R.toList _ HRNG2.out Try.underlying65 rfl (by rw [HLEN.out]; exact ref_info) ?_)
          | (refine wpList_store_mid rfl 65 (.tmp 38) (.tmp 37) rfl r 0 R (by simp [Act.eval, Act.put]) (by simp [Act.eval, Act.put]) (by rw [HSZ.out]; exact HTH2.out) (by rw [HSZ.out]; exact ref_info) HONE.out ?_))
        go_wp2_with fail
        go_ret
        exact ⟨by rw [HE.out]; rfl, by rw [HS.out]; exact HBA.out.1, HBA.out.2⟩
    · obtain rfl : k = s.size := by omega
      have HE : Hid (putE S a s.size = 0) := by show _ = _; unfold putE; rw [hPB.out]; rfl
      have HS : Hid (putS S a s = putN S a (bt s) s.size) := by show _ = _; unfold putS; rw [hPB.out]; simp
      go_wp2_with fail
      go_ret
      exact ⟨by rw [HE.out]; rfl, by rw [HS.out]; exact hM.out, HBW.out.trans hBt.out⟩

end Go.Proofs.Ytmgngapkgcofnaa
