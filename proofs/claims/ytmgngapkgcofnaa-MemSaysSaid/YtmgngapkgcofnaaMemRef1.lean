/- The reference's memory: Map, Unmap, Byte, Free, Sealed: the walks. -/
import Derived.Test.YtmgngapkgcofnaaMemRef
namespace Go.Proofs.Ytmgngapkgcofnaa
open Go.RowKit Go.PlainAid

theorem zero64_list : zero64.toList = List.replicate 64 (Value.int .u8 0) := by kernel_rfl
set_option linter.unusedSimpArgs false in
set_option maxRecDepth 100000 in
set_option maxHeartbeats 2000000 in
theorem refMap_any (r : Nat) (S : MemS) (n : Int) (wr : Bool) (w : World) (h : RefAt w r S) :
    Calls Try.prog 33 #[.pointer (some ⟨r, 0, none⟩), .int .i64 n, .bool wr] w fun e w' => e = .returned (.int .i64 (mapE n)) ∧ RefAt w' r (mapS S n wr) ∧ But r w w' := by
  by_cases h1 : n < 0 ∨ 8 ≤ n
  · have HE : Hid (mapE n = 5) := if_pos h1
    have HS : Hid (mapS S n wr = S) := if_pos h1
    have H := Lib.hid h
    clear h
    by_cases h2 : n < 0
    · clear h1
      go_enter Try.func33, Try.ntmps33
      go_wp2_with fail
      go_ret
      exact ⟨by rw [HE.out]; rfl, by rw [HS.out]; exact H.out, But.refl _ _⟩
    · have h3 : 7 < n := by omega
      clear h1
      go_enter Try.func33, Try.ntmps33
      go_wp2_with fail
      go_ret
      exact ⟨by rw [HE.out]; rfl, by rw [HS.out]; exact H.out, But.refl _ _⟩
  · obtain ⟨k, rfl⟩ : ∃ k : Nat, n = k := ⟨n.toNat, by omega⟩
    have HE : Hid (mapE k = 0) := if_neg h1
    have HS : Hid (mapS S k wr = S.map k wr) := by show _ = _; unfold mapS; rw [if_neg h1]; simp
    have hk : k < 8 := by omega
    have y1 : ¬ (k : Int) < 0 := by omega
    have y2 : ¬ (7 : Int) < (k : Int) := by omega
    have y3 : (0 : Int) ≤ (k : Int) := by omega
    have y4 : (k : Int) < 12 := by omega
    have hwr := map_wr h.wr k wr
    have hok := map_ok h.ok k wr
    obtain ⟨C, hblk, hI, hB⟩ := h.rep
    have c1 := hblk.cell (i := k) (by omega)
    rw [hI k (by omega)] at c1
    have hz := refIs_zero h.wr k 0
    cases hr : (S.p k).read with
    | true =>
      have hne : refIs S k ≠ 0 := by
        intro e
        have := hz.1 e
        unfold refB at this
        rw [if_pos hk, hr] at this
        cases this
      have hne' : (refIs S k == 0) = false := by simpa using hne
      have g0 := hblk.set k (.int .i64 1)
      have g1 := g0.set k (.int .i64 2)
      have g2 : But r w (w.setCell ⟨r, k, none⟩ (.int .i64 1)) := (But.refl r w).setCell _ _
      have g3 := g2.setCell k (.int .i64 2)
      have hB0 := (hB.mono (refB_map wr hr)).setI (k := k) (by omega) (.int .i64 1)
      have F0 := g0.frozen k
      have FF := hblk.frozen k
      have D0 := g0.cell (i := k) (by omega)
      have HG2 := Lib.hid g2
      have HG3 := Lib.hid g3
      cases wr with
      | false =>
        have HF : Hid (RefAt (w.setCell ⟨r, k, none⟩ (.int .i64 1)) r (S.map k false)) := ⟨hok, hwr, _, g0, hI.set k 1 (by rw [refIs_map S hk]; rfl) (refIs_map_ne S false), hB0⟩
        generalize refIs S k = x at *
        clear hz hne hblk hI hB g0 g1 g2 g3 hB0 h h1 hwr hok
        go_enter Try.func33, Try.ntmps33
        go_wp2_with fail
        go_ret
        exact ⟨by rw [HE.out]; rfl, by rw [HS.out]; exact HF.out, HG2.out⟩
      | true =>
        have hI1 : RCI (S.map k true) (setV (setV C k (.int .i64 1)) k (.int .i64 2)) := by
          have : setV (setV C k (.int .i64 1)) k (.int .i64 2) = setV C k (.int .i64 2) := by funext i; unfold setV; split <;> rfl
          rw [this]
          exact hI.set k 2 (by rw [refIs_map S hk]; rfl) (refIs_map_ne S true)
        have HF : Hid (RefAt ((w.setCell ⟨r, k, none⟩ (.int .i64 1)).setCell ⟨r, k, none⟩ (.int .i64 2)) r (S.map k true)) := ⟨hok, hwr, _, g1, hI1, hB0.setI (by omega) _⟩
        generalize refIs S k = x at *
        clear hz hne hblk hI hB g0 g1 g2 g3 hB0 h h1 hwr hok hI1
        go_enter Try.func33, Try.ntmps33
        go_wp2_with fail
        go_ret
        exact ⟨by rw [HE.out]; rfl, by rw [HS.out]; exact HF.out, HG3.out⟩
    | false =>
      have he : refIs S k = 0 := by
        refine hz.2 ?_
        unfold refB
        rw [if_pos hk, hr]; rfl
      rw [he] at c1
      obtain ⟨zs, hzs⟩ : ∃ zs, zs = List.replicate 64 (Value.int .u8 0) := ⟨_, rfl⟩
      have hth := hblk.there (o := 12 + k * 64) (k := 64) (by omega)
      have f0 := BlkAt.sets zs hblk (12 + k * 64)
      have d1 : But r w (w.setCells r (12 + k * 64) zs) := (But.refl r w).setCells _ _
      have g0 := f0.set k (.int .i64 1)
      have g1 := g0.set k (.int .i64 2)
      have g2 := d1.setCell k (.int .i64 1)
      have g3 := g2.setCell k (.int .i64 2)
      have hB0 := (hB.zero (refB_map0 (k := k) wr) (refB_mapz hk wr hr))
      rw [← hzs] at hB0
      have hB1 := hB0.setI (k := k) (by omega) (.int .i64 1)
      have hI0 := hI.setVs (k := 12 + k * 64) (by omega) zs
      have F0 := g0.frozen k
      have FF := f0.frozen k
      have D0 := g0.cell (i := k) (by omega)
      have DD := f0.cell (i := k) (by omega)
      have HG2 := Lib.hid g2
      have HG3 := Lib.hid g3
      have HTH := Lib.hid hth
      have HZS := Lib.hid hzs
      have HZA : Hid ((Try.prog.info? 62).bind (·.zero) = some (.agg zero64)) := zero64_of
      have HZB : Hid (zero64.toList = zs) := by show _ = _; rw [hzs]; exact zero64_list
      have HZO : Hid (zero64.all (·.oneCell') = true) := rowOf_one fun _ _ => rfl
      have HZC : Hid (zero64.size = 64) := zero64_size
      cases wr with
      | false =>
        have HF : Hid (RefAt ((w.setCells r (12 + k * 64) zs).setCell ⟨r, k, none⟩ (.int .i64 1)) r (S.map k false)) := ⟨hok, hwr, _, g0, hI0.set k 1 (by rw [refIs_map S hk]; rfl) (refIs_map_ne S false), hB1⟩
        clear hz hblk hI hB g0 g1 g2 g3 hB0 h h1 hwr hok hB1 hI0 he hth f0 d1
        generalize setVs C (12 + k * 64) zs k = u1 at *
        clear hzs
        go_enter Try.func33, Try.ntmps33
        go_upto_region 5 with (first
          | (refine wpList_buildTo rfl _ _ rfl (some 22) rfl zero64 (by kernel_rfl) ?_)
          | (refine wpList_store_mid rfl 62 (.tmp 25) (.tmp 22) rfl r (12 + k * 64) zero64 (by simp [Act.eval, Act.put]) (by simp [Act.eval, Act.put]) (by rw [HZC.out]; exact HTH.out) (by rw [HZC.out]; exact b64_info) HZO.out ?_; rw [HZB.out]))
        generalize w.setCells r (12 + k * 64) zs = W1 at *
        go_wp2_with fail
        go_ret
        exact ⟨by rw [HE.out]; rfl, by rw [HS.out]; exact HF.out, HG2.out⟩
      | true =>
        have hI1 : RCI (S.map k true) (setV (setV (setVs C (12 + k * 64) zs) k (.int .i64 1)) k (.int .i64 2)) := by
          have : setV (setV (setVs C (12 + k * 64) zs) k (.int .i64 1)) k (.int .i64 2) = setV (setVs C (12 + k * 64) zs) k (.int .i64 2) := by funext i; unfold setV; split <;> rfl
          rw [this]
          exact hI0.set k 2 (by rw [refIs_map S hk]; rfl) (refIs_map_ne S true)
        have HF : Hid (RefAt (((w.setCells r (12 + k * 64) zs).setCell ⟨r, k, none⟩ (.int .i64 1)).setCell ⟨r, k, none⟩ (.int .i64 2)) r (S.map k true)) := ⟨hok, hwr, _, g1, hI1, hB1.setI (by omega) _⟩
        clear hz hblk hI hB g0 g1 g2 g3 hB0 h h1 hwr hok hB1 hI0 he hth f0 d1 hI1
        generalize setVs C (12 + k * 64) zs k = u1 at *
        clear hzs
        go_enter Try.func33, Try.ntmps33
        go_upto_region 5 with (first
          | (refine wpList_buildTo rfl _ _ rfl (some 22) rfl zero64 (by kernel_rfl) ?_)
          | (refine wpList_store_mid rfl 62 (.tmp 25) (.tmp 22) rfl r (12 + k * 64) zero64 (by simp [Act.eval, Act.put]) (by simp [Act.eval, Act.put]) (by rw [HZC.out]; exact HTH.out) (by rw [HZC.out]; exact b64_info) HZO.out ?_; rw [HZB.out]))
        generalize w.setCells r (12 + k * 64) zs = W1 at *
        go_wp2_with fail
        go_ret
        exact ⟨by rw [HE.out]; rfl, by rw [HS.out]; exact HF.out, HG3.out⟩

set_option linter.unusedSimpArgs false in
set_option maxHeartbeats 2000000 in
theorem refUnmap_any (r : Nat) (S : MemS) (n : Int) (w : World) (h : RefAt w r S) :
    Calls Try.prog 35 #[.pointer (some ⟨r, 0, none⟩), .int .i64 n] w fun e w' => e = .returned (.int .i64 (unmapE S n)) ∧ RefAt w' r (unmapS S n) ∧ But r w w' := by
  by_cases h1 : 0 ≤ n ∧ n < 8
  · obtain ⟨k, rfl⟩ : ∃ k : Nat, n = k := ⟨n.toNat, by omega⟩
    have hk : k < 8 := by omega
    have y1 : ¬ (k : Int) < 0 := by omega
    have y2 : ¬ (7 : Int) < (k : Int) := by omega
    have y3 : (0 : Int) ≤ (k : Int) := by omega
    have y4 : (k : Int) < 12 := by omega
    obtain ⟨C, hblk, hI, hB⟩ := h.rep
    have c1 := hblk.cell (i := k) (by omega)
    rw [hI k (by omega)] at c1
    have hz := refIs_zero h.wr k 0
    have hu : unmapB S k = (S.p k).read := by unfold unmapB; rw [decide_eq_true h1]; simp
    have H := Lib.hid h
    cases hr : (S.p k).read with
    | true =>
      have hne : (refIs S k == 0) = false := by
        rw [beq_eq_false_iff_ne]
        intro e
        have := hz.1 e
        unfold refB at this
        rw [if_pos hk, hr] at this
        cases this
      have HE : Hid (unmapE S k = 0) := by show _ = _; unfold unmapE; rw [hu, hr]; rfl
      have HS : Hid (unmapS S k = S.unmap k) := by show _ = _; unfold unmapS; rw [hu, hr]; simp
      have g0 := hblk.set k (.int .i64 0)
      have F0 := hblk.frozen k
      have HG : Hid (But r w (w.setCell ⟨r, k, none⟩ (.int .i64 0))) := (But.refl r w).setCell _ _
      have HF : Hid (RefAt (w.setCell ⟨r, k, none⟩ (.int .i64 0)) r (S.unmap k)) :=
        ⟨unmap_ok h.ok k, unmap_wr h.wr k, _, g0, hI.set k 0 (refIs_unmap S hk) (refIs_unmap_ne S), (hB.mono refB_unmap).setI (by omega) _⟩
      generalize refIs S k = x at *
      clear hz hblk hI hB g0 h h1 hu
      go_enter Try.func35, Try.ntmps35
      go_wp2_with fail
      go_ret
      exact ⟨by rw [HE.out]; rfl, by rw [HS.out]; exact HF.out, HG.out⟩
    | false =>
      have he : refIs S k = 0 := by
        refine hz.2 ?_
        unfold refB
        rw [if_pos hk, hr]; rfl
      rw [he] at c1
      have HE : Hid (unmapE S k = 5) := by show _ = _; unfold unmapE; rw [hu, hr]; rfl
      have HS : Hid (unmapS S k = S) := by show _ = _; unfold unmapS; rw [hu, hr]; simp
      clear hz hblk hI hB h h1 hu he
      go_enter Try.func35, Try.ntmps35
      go_wp2_with fail
      go_ret
      exact ⟨by rw [HE.out]; rfl, by rw [HS.out]; exact H.out, But.refl _ _⟩
  · have hu : unmapB S n = false := by unfold unmapB; rw [decide_eq_false h1]; rfl
    have HE : Hid (unmapE S n = 5) := by show _ = _; unfold unmapE; rw [hu]; rfl
    have HS : Hid (unmapS S n = S) := by show _ = _; unfold unmapS; rw [hu]; simp
    have H := Lib.hid h
    clear h hu
    by_cases h2 : n < 0
    · clear h1
      go_enter Try.func35, Try.ntmps35
      go_wp2_with fail
      go_ret
      exact ⟨by rw [HE.out]; rfl, by rw [HS.out]; exact H.out, But.refl _ _⟩
    · have h3 : 7 < n := by omega
      clear h1
      go_enter Try.func35, Try.ntmps35
      go_wp2_with fail
      go_ret
      exact ⟨by rw [HE.out]; rfl, by rw [HS.out]; exact H.out, But.refl _ _⟩

set_option linter.unusedSimpArgs false in
set_option maxHeartbeats 2000000 in
theorem refByte_any (r : Nat) (S : MemS) (a : Nat) (w : World) (h : RefAt w r S) (ha : a < 18446744073709551616) :
    Calls Try.prog 47 #[.pointer (some ⟨r, 0, none⟩), .int .u64 a] w fun e w' => e = .returned (.tuple #[.int .u8 (byteP S a).1, .int .i64 (byteP S a).2]) ∧ w = w' := by
  obtain ⟨q, hq⟩ : ∃ q, q = a / 64 := ⟨_, rfl⟩
  obtain ⟨k, hk⟩ : ∃ k, k = a % 64 := ⟨_, rfl⟩
  have hk1 : k < 64 := by omega
  have e1 : (a : Int) / 64 = (q : Int) := by omega
  have e2 : (a : Int) % 64 = (k : Int) := by omega
  have hb := byteS_ref S a
  rw [← hq, ← hk] at hb
  have x3 : (0 : Int) ≤ (k : Int) := by omega
  have x4 : (k : Int) < 64 := by omega
  have x5 : (0 : Int) ≤ (q : Int) := by omega
  by_cases h1 : q < 12
  · rw [if_pos (show a < 768 by omega)] at hb
    have x1 : ¬ (11 : Int) < (q : Int) := by omega
    have x2 : (q : Int) < 12 := by omega
    obtain ⟨C, hblk, hI, hB⟩ := h.rep
    obtain ⟨v, hv, hv0, hv1, hvu⟩ := hB q k h1 hk1
    have c1 := hblk.cell (i := q) (by omega)
    rw [hI q h1] at c1
    have c2 := hblk.cell (i := 12 + q * 64 + k) (by omega)
    rw [hv] at c2
    have hz := refIs_zero h.wr q k
    cases hr : refB S q k with
    | none =>
      have he := hz.2 hr
      rw [he] at c1
      have HB : Hid (byteP S a = (0, 5)) := by show _ = _; unfold byteP; rw [hb, hr]
      clear hz hb hr hblk hI hB hvu hv h he hq hk
      go_enter Try.func47, Try.ntmps47
      go_wp2_with fail
      go_ret2
      exact ⟨by rw [HB.out]; rfl, rfl⟩
    | some u =>
      obtain rfl := hvu u hr
      have hne : (refIs S q == 0) = false := by
        rw [beq_eq_false_iff_ne]
        intro e
        rw [hz.1 e] at hr; cases hr
      have HB : Hid (byteP S a = (u, 0)) := by show _ = _; unfold byteP; rw [hb, hr]
      generalize refIs S q = x at *
      clear hz hb hr hblk hI hB hvu hv h hq hk
      go_enter Try.func47, Try.ntmps47
      go_wp2_with fail
      go_ret2
      exact ⟨by rw [HB.out]; rfl, rfl⟩
  · rw [if_neg (show ¬ a < 768 by omega)] at hb
    have x1 : (11 : Int) < (q : Int) := by omega
    have HB : Hid (byteP S a = (0, 5)) := by show _ = _; unfold byteP; rw [hb]
    clear hb hq hk
    go_enter Try.func47, Try.ntmps47
    go_wp2_with fail
    go_ret2
    exact ⟨by rw [HB.out]; rfl, rfl⟩

set_option linter.unusedSimpArgs false in
set_option maxHeartbeats 2000000 in
theorem refFree_any (r : Nat) (S : MemS) (a : Nat) (w : World) (h : RefAt w r S) (ha : a < 18446744073709551616) :
    Calls Try.prog 45 #[.pointer (some ⟨r, 0, none⟩), .int .u64 a] w fun e w' => e = .returned (.int .i64 (freeE S a)) ∧ RefAt w' r (freeS S a) ∧ But r w w' := by
  obtain ⟨q, hq⟩ : ∃ q, q = a / 64 := ⟨_, rfl⟩
  obtain ⟨k, hk⟩ : ∃ k, k = a % 64 := ⟨_, rfl⟩
  have e1 : (a : Int) / 64 = (q : Int) := by omega
  have e2 : (a : Int) % 64 = (k : Int) := by omega
  have x5 : (0 : Int) ≤ (q : Int) := by omega
  have H := Lib.hid h
  by_cases hg : a % 64 = 0 ∧ 512 ≤ a ∧ a < 768
  · obtain ⟨i, rfl⟩ : ∃ i, q = 8 + i := ⟨q - 8, by omega⟩
    have hi : i < 4 := by omega
    obtain rfl : k = 0 := by omega
    have x1 : ¬ ((8 + i : Nat) : Int) < 8 := by omega
    have x2 : ¬ (11 : Int) < ((8 + i : Nat) : Int) := by omega
    have x3 : ((8 + i : Nat) : Int) < 12 := by omega
    have hqi : a / 64 - 8 = i := by omega
    obtain ⟨C, hblk, hI, hB⟩ := h.rep
    have c1 := hblk.cell (i := 8 + i) (by omega)
    rw [hI _ (by omega)] at c1
    have hx : refIs S (8 + i) = if (S.sl i).isSome then 3 else 0 := by unfold refIs; rw [if_neg (by omega), show 8 + i - 8 = i from by omega]
    rw [hx] at c1
    have hb : freeB S a = (S.sl i).isSome := by unfold freeB; rw [hqi, decide_eq_true hg]; simp
    cases hsl : (S.sl i).isSome with
    | false =>
      rw [hsl] at c1 hb
      have HE : Hid (freeE S a = 8) := by show _ = _; unfold freeE; rw [hb]; rfl
      have HS : Hid (freeS S a = S) := by show _ = _; unfold freeS; rw [hb]; simp
      simp only [Bool.false_eq_true, if_false] at c1
      obtain ⟨Q, hQ⟩ : ∃ Q, Q = 8 + i := ⟨_, rfl⟩
      rw [← hQ] at *
      clear hb hsl hx hblk hI hB h hg hq hk hqi hQ
      go_enter Try.func45, Try.ntmps45
      go_wp2_with fail
      go_ret
      exact ⟨by rw [HE.out]; rfl, by rw [HS.out]; exact H.out, But.refl _ _⟩
    | true =>
      rw [hsl] at c1 hb
      have HE : Hid (freeE S a = 0) := by show _ = _; unfold freeE; rw [hb]; rfl
      have HS : Hid (freeS S a = S.free i) := by show _ = _; unfold freeS; rw [hb, hqi]; simp
      simp only [if_true] at c1
      have g0 := hblk.set (8 + i) (.int .i64 0)
      have F0 := hblk.frozen (8 + i)
      have HG : Hid (But r w (w.setCell ⟨r, 8 + i, none⟩ (.int .i64 0))) := (But.refl r w).setCell _ _
      have HF : Hid (RefAt (w.setCell ⟨r, 8 + i, none⟩ (.int .i64 0)) r (S.free i)) :=
        ⟨free_ok h.ok i, h.wr, _, g0, hI.set (8 + i) 0 (refIs_free S hi) (refIs_free_ne S), (hB.mono refB_free).setI (by omega) _⟩
      obtain ⟨Q, hQ⟩ : ∃ Q, Q = 8 + i := ⟨_, rfl⟩
      rw [← hQ] at *
      clear hb hsl hx hblk hI hB h hg hq hk hqi g0 hQ
      go_enter Try.func45, Try.ntmps45
      go_wp2_with fail
      go_ret
      exact ⟨by rw [HE.out]; rfl, by rw [HS.out]; exact HF.out, HG.out⟩
  · have hb : freeB S a = false := by unfold freeB; rw [decide_eq_false hg]; rfl
    have HE : Hid (freeE S a = 8) := by show _ = _; unfold freeE; rw [hb]; rfl
    have HS : Hid (freeS S a = S) := by show _ = _; unfold freeS; rw [hb]; simp
    by_cases h0 : 0 < k
    · have x1 : (0 : Int) < (k : Int) := by omega
      clear hb h hg hq hk
      go_enter Try.func45, Try.ntmps45
      go_wp2_with fail
      go_ret
      exact ⟨by rw [HE.out]; rfl, by rw [HS.out]; exact H.out, But.refl _ _⟩
    · obtain rfl : k = 0 := by omega
      by_cases h2 : q < 8
      · have x1 : (q : Int) < 8 := by omega
        clear hb h hg hq hk
        go_enter Try.func45, Try.ntmps45
        go_wp2_with fail
        go_ret
        exact ⟨by rw [HE.out]; rfl, by rw [HS.out]; exact H.out, But.refl _ _⟩
      · have x1 : ¬ (q : Int) < 8 := by omega
        have x2 : (11 : Int) < (q : Int) := by omega
        clear hb h hg hq hk
        go_enter Try.func45, Try.ntmps45
        go_wp2_with fail
        go_ret
        exact ⟨by rw [HE.out]; rfl, by rw [HS.out]; exact H.out, But.refl _ _⟩

set_option linter.unusedSimpArgs false in
set_option maxHeartbeats 2000000 in
theorem refSealed_any (r : Nat) (S : MemS) (w : World) (h : RefAt w r S) :
    Calls Try.prog 70 #[.pointer (some ⟨r, 0, none⟩)] w fun e w' => e = .returned (.int .i64 (cntSl S 4)) ∧ w = w' := by
  obtain ⟨C, hblk, hI, hB⟩ := h.rep
  have HC : Hid (∀ k, k < 4 → w.cell? ⟨r, 8 + k, none⟩ = some (.int .i64 (if (S.sl k).isSome then 3 else 0))) := by
    intro k hk
    rw [hblk.cell (i := 8 + k) (by omega), hI _ (by omega)]
    unfold refIs
    rw [if_neg (by omega), show 8 + k - 8 = k from by omega]
  have hle := Lib.hid (cntSl_le S)
  clear hblk hI hB h
  go_enter Try.func70, Try.ntmps70
  go_wp2_with fail
  go_loop [3, 4] (fun nv iv => ∃ k q : Nat, q = 8 + k ∧ k ≤ 4 ∧ iv = .int .i64 q ∧ nv = .int .i64 (cntSl S k)) (fun _ iv => 12 - (intOf iv).toNat)
  case atStart => exact ⟨0, 8, rfl, Nat.zero_le _, rfl, rfl⟩
  case round =>
    obtain ⟨k, q, hq, hk, rfl, rfl⟩ := hrel
    by_cases hlt : k < 4
    · have x1 : (q : Int) < 12 := by omega
      have x2 : (0 : Int) ≤ (q : Int) := by omega
      have hc1 := HC.out k hlt
      rw [← hq] at hc1
      have HQ := Lib.hid hq
      clear hq
      have hl := hle.out k
      cases hsl : (S.sl k).isSome with
      | false =>
        rw [hsl] at hc1
        simp only [Bool.false_eq_true, if_false] at hc1
        have hc : Hid (cntSl S (k + 1) = cntSl S k) := by show _ = _; rw [cntSl, hsl]; rfl
        clear hsl
        generalize cntSl S k = N at *
        go_wp2_with fail
        go_round
        case rel => exact ⟨k + 1, q + 1, by have := HQ.out; omega, by omega, by go_num, by rw [hc.out]⟩
        case measure => simp [intOf]; omega
      | true =>
        rw [hsl] at hc1
        simp only [if_true] at hc1
        have hc : Hid (cntSl S (k + 1) = cntSl S k + 1) := by show _ = _; rw [cntSl, hsl]; rfl
        clear hsl
        generalize cntSl S k = N at *
        go_wp2_with fail
        go_round
        case rel => exact ⟨k + 1, q + 1, by have := HQ.out; omega, by omega, by go_num, by rw [hc.out]; go_num⟩
        case measure => simp [intOf]; omega
    · obtain rfl : k = 4 := by omega
      subst hq
      go_wp2_with fail
      go_ret
      exact ⟨rfl, rfl⟩

end Go.Proofs.Ytmgngapkgcofnaa
