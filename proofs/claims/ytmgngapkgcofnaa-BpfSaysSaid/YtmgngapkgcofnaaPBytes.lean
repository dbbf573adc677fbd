/- The reference's ProgramBytes. -/
import Derived.Test.YtmgngapkgcofnaaEnc
import Derived.Deep.DeepCutAuto
namespace Go.Proofs.Ytmgngapkgcofnaa
open Go.RowKit Go.PlainAid

set_option maxRecDepth 100000 in
set_option maxHeartbeats 2000000 in
theorem pbytes_any (v : Value) (l : List Ins) (w : World) (hr : InsSl w w.heap.size v l) (hlen : l.length ≤ 4096) :
    Calls Try.prog 28 #[v] w fun e w' => e = .returned (.string (strOfNums (encL l))) ∧ Below w.heap.size w w' := by
  obtain ⟨i0, hi, hz0, hz1, hz2⟩ := info_parts u8Info
  obtain ⟨hok, A, c, rfl, hr⟩ := hr
  have HR := Lib.hid hr
  have HO : Hid (∀ x ∈ l, x.ok) := hok
  clear hr hok
  go_enter Try.func28, Try.ntmps28
  go_wp2
  go_loopw [3, 4] (fun v i wr => ∃ k : Nat, k ≤ l.length ∧ i = .int .i64 k ∧ Below w.heap.size w wr ∧ wr.ownsRow w.heap.size 5 1 v (8 * k) (u8s (encL (l.take k)))) (fun _ i _ => l.length - (intOf i).toNat)
  case atStart => exact ⟨0, Nat.zero_le _, rfl, Below.refl _ _, World.ownsRow_nil _ _ _ _⟩
  case round =>
    obtain ⟨k, hk, rfl, hb, hown⟩ := hrel
    by_cases hlt : k < l.length
    · obtain ⟨b, o, rfl, hB, hrow⟩ := HR.out.resolve_left (by rintro rfl; simp at hlt)
      have hx := (hrow.below hb hB) k l[k] (by simp)
      have hok' := HO.out l[k] (by simp)
      have HT := Lib.hid (encL_take hlt)
      generalize l[k] = x at *
      obtain ⟨op, jt, jf, kk⟩ := x
      obtain ⟨g0, g1, g2, g3⟩ := hx
      obtain ⟨hk1, hk2⟩ := hok'
      simp only at g0 g1 g2 g3 hk1 hk2
      have i1 : (k : Int) < (l.length : Int) := by omega
      have i2 : (0 : Int) ≤ (k : Int) := by omega
      have hbs := hb.size
      have HW : Hid (wr.drew.ownsRow w.heap.size 5 1 u3 (8 * k) (u8s (encL (l.take k)))) := hown
      clear hown
      have E0 := Lib.hid (IntKind.wrap_u8 op)
      have E2 := Lib.hid (IntKind.wrap_u8 jt)
      have E3 := Lib.hid (IntKind.wrap_u8 jf)
      go_upto_region 5 with fail
      go_cut [3] (fun v wx => Below w.heap.size w wx ∧ wx.ownsRow w.heap.size 5 1 v (8 * k + 4) (u8s (encL (l.take k) ++ [op % 256, 0, jt % 256, jf % 256])))
      case first =>
        go_wp2_with fail
        go_region_law (refine step_append_lies _ rfl (.tmp 13) (.tmp 32) _ rfl w.heap.size 5 i0 _ 1 1 Try.underlying131 hi hz0 hz1 hz2 rfl (by omega) u3 (8 * k) (u8s (encL (l.take k))) (by simp [Act.eval]) (HW.out.alloc _) ⟨wr.heap.size, 0, none⟩ 4 4 (u8s [op % 256, 0, jt % 256, jf % 256]) (by simp [Act.eval]) rfl (cells4 _ _ _ _ _ _ _ _ (heap_alloc_new _ _) (by simp only [E0.out, E2.out, E3.out])) (u8s_one _) (by omega) (by unfold maxLen; omega) (by omega) (by simp; omega) _ rfl ?_; intro g cap w' hown' hgrow hat hlt2)
        all_goals
          have hb2 : Below w.heap.size w w' := Below.grown (((hb.alloc hbs _)).drew) hgrow (by simp; omega) (own_ge HW.out)
          clear hgrow hat HW E0 E2 E3
          go_wp2_with fail
          go_meet
          exact ⟨hb2, by rw [u8s, List.map_append]; exact hown'⟩
      case rest =>
        obtain ⟨hb2, hown2⟩ := hcut
        clear HW E0 E2 E3
        have g4 := cell_via hb2 hb hB g3
        clear hb g0 g1 g2 g3
        obtain ⟨P, HP⟩ : ∃ P, Hid (encL (l.take k) ++ [op % 256, 0, jt % 256, jf % 256] = P) := ⟨_, rfl⟩
        rw [HP.out] at hown2
        go_wp2_with fail
        go_loopw [3, 5, 6] (fun v kv n wi => ∃ j : Nat, j ≤ 4 ∧ n = .int .i64 j ∧ kv = .int .u32 (kst kk j) ∧ Below w.heap.size w wi ∧ wi.ownsRow w.heap.size 5 1 v (8 * k + 4 + j) (u8s (P ++ kbs kk j))) (fun _ _ n _ => 4 - (intOf n).toNat)
        case atStart => exact ⟨0, by omega, rfl, rfl, hb2, by simpa [kbs] using hown2⟩
        case round =>
          obtain ⟨j, hj, rfl, rfl, hb3, hown3⟩ := hrel
          have hbs3 := hb3.size
          by_cases hj4 : j < 4
          · have hks := kst_range hk1 hk2 j
            obtain ⟨q0, q1⟩ := hks
            have HX : Hid (kst kk (j + 1) = kst kk j / 256) := rfl
            have HY : Hid (kbs kk (j + 1) = kbs kk j ++ [kst kk j % 256]) := rfl
            generalize kst kk j = z at *
            go_wp2_with (at_builtin; refine wpList_append_own _ rfl _ _ _ rfl w.heap.size 5 i0 _ 1 1 Try.underlying131 hi hz0 hz1 hz2 rfl (by omega) _ _ _ rfl (hown3.alloc _) ⟨wr.heap.size, 0, none⟩ 1 1 (u8s [z % 256]) rfl rfl (cell_one_new _ _ _) (u8s_one _) (by unfold maxLen; omega) (by omega) (by simp; omega) ?_; intro v' w1 hown4 hgrow4 _)
            have hb4 : Below w.heap.size w w1 := (hb3.alloc hbs3 _).grown hgrow4 (by simp; omega) (own_ge hown3)
            clear hgrow4 hown3 hb3
            go_roundw
            case rel => exact ⟨j + 1, by omega, by go_num, by rw [HX.out], hb4, by rw [HY.out, ← List.append_assoc, u8s, List.map_append]; exact hown4⟩
            case measure => simp [intOf]; omega
          · obtain rfl : j = 4 := by omega
            go_wp2
            go_roundw
            case rel =>
              refine ⟨k + 1, by omega, by go_num, hb3, ?_⟩
              rw [HT.out]
              unfold encI
              rw [← List.append_assoc, HP.out]
              exact hown3
            case measure => simp [intOf]; omega
    · obtain rfl : k = l.length := by omega
      rw [List.take_length] at hown
      have hcv := fun W => conv_own (w := W) (base := w.heap.size) (n := 8 * l.length) (v := u3) (xs := encL l)
      have hc := conv_own hown
      clear hcv
      go_wp2
      go_ret
      exact ⟨rfl, hb⟩

end Go.Proofs.Ytmgngapkgcofnaa
