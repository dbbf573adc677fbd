/- The reference's single: is a byte like a part that is like one byte? -/
import Derived.Test.YtmgngapkgcofnaaGreatDoorP40
import Derived.Test.YtmgngapkgcofnaaGreatDoorP08
namespace Go.Proofs.YtmgngapkgcofnaaGreatDoor
open Go.RowKit Go.PlainAid

/-- What stands behind a class's member is longer than what stands behind the class. -/
theorem classL_more {not n : Bool} {x : Int} {l : List Int} {f g : Nat → Bool} {r : List Int} (hx : x ≠ 93) (h : classL not n (x :: l) f = some (g, r)) : memberF x = true ∧ r.length < l.length := by
  cases hm : memberF x with
  | false => rw [classL_not _ _ _ _ hx hm] at h; simp at h
  | true =>
    refine ⟨rfl, ?_⟩
    rcases l with _ | ⟨y, _ | ⟨z, l⟩⟩
    · rw [classL_last _ _ _ hx] at h; simp at h
    · rw [classL_two _ _ _ hx hm] at h
      exact classL_len _ _ _ _ _ _ _ (Nat.le_refl _) h
    · by_cases hy : y = 45
      · subst hy
        by_cases hz : memberF z = false ∨ z < x
        · rw [classL_worse _ _ _ _ hx hm hz] at h; simp at h
        · have hz1 : memberF z = true := by
            cases e : memberF z with
            | true => rfl
            | false => exact (hz (.inl e)).elim
          rw [classL_span _ _ _ _ hx hm hz1 (by have := fun h => hz (.inr h); omega)] at h
          have := classL_len _ _ _ _ _ _ _ (Nat.le_refl _) h
          simp; omega
      · rw [classL_one _ _ _ _ hx hm hy] at h
        exact classL_len _ _ _ _ _ _ _ (Nat.le_refl _) h
theorem classL_dash {not n : Bool} {x : Int} {l : List Int} {f g : Nat → Bool} {r : List Int} (hx : x ≠ 93) (h : classL not n (x :: 45 :: l) f = some (g, r)) : r.length < l.length ∧ ∃ z l', l = z :: l' ∧ classL not true l' (span f x z) = some (g, r) := by
  have hm := (classL_more hx h).1
  rcases l with _ | ⟨z, l⟩
  · rw [classL_two _ _ _ hx hm, classL_last _ _ _ (by decide)] at h; simp at h
  · by_cases hz : memberF z = false ∨ z < x
    · rw [classL_worse _ _ _ _ hx hm hz] at h; simp at h
    · have hz1 : memberF z = true := by
        cases e : memberF z with
        | true => rfl
        | false => exact (hz (.inl e)).elim
      rw [classL_span _ _ _ _ hx hm hz1 (by have := fun h => hz (.inr h); omega)] at h
      have := classL_len _ _ _ _ _ _ _ (Nat.le_refl _) h
      exact ⟨by simp; omega, z, l, rfl, h⟩
theorem drop_bt' {s : ByteArray} {i : Nat} (r : List Int) (h : i < s.size) : (bytesOf s).drop i ++ r = bt s i :: ((bytesOf s).drop (i + 1) ++ r) := by rw [drop_bt h]; rfl

set_option linter.unusedSimpArgs false in
set_option maxRecDepth 100000 in
set_option maxHeartbeats 4000000 in
theorem single_class (a : ByteArray) (P : Part) (r : List Int) (c : Int) (w : World) (ha : a.size ≤ 4096) (h : partL (bytesOf a ++ r) = some (P, r)) (h0 : bt a 0 = 91) (c0 : 0 ≤ c) (c1 : c ≤ 255) :
    Calls Tryz.prog 85 #[.string a, .int .u8 c] w fun e w' => e = .returned (.bool (P.has c.toNat)) ∧ w = w' := by
  have hsz : 0 < a.size := by
    rcases Nat.eq_zero_or_pos a.size with e | e
    · rw [bt_end a (by omega)] at h0; simp at h0
    · exact e
  obtain ⟨nt, st, g, hst, hst1, hnt, hg, hP⟩ : ∃ (nt : Bool) (st : Nat) (g : Nat → Bool), (st = if nt then 2 else 1) ∧ 1 < a.size ∧ nt = (bt a 1 == 33) ∧ classL nt false ((bytesOf a).drop st ++ r) (fun _ => false) = some (g, r) ∧ P = ⟨g, false⟩ := by
    rw [← List.drop_zero (l := bytesOf a), drop_bt' r hsz, h0] at h
    have h1 : classF ((bytesOf a).drop 1 ++ r) = some (P, r) := by simpa [partL] using h
    have h2 := classF_len h1
    rw [List.length_append, List.length_drop, bytesOf_length] at h2
    have h3 : 1 < a.size := by omega
    unfold classF at h1
    simp only [Option.map_eq_some_iff] at h1
    obtain ⟨⟨g, r'⟩, h4, h5⟩ := h1
    simp only [Prod.mk.injEq] at h5
    obtain ⟨rfl, rfl⟩ := h5
    rw [drop_bt' r' h3] at h4
    by_cases h33 : bt a 1 = 33
    · rw [h33] at h4
      exact ⟨true, 2, g, rfl, h3, by rw [h33]; rfl, h4, rfl⟩
    · refine ⟨false, 1, g, rfl, h3, ?_, ?_, rfl⟩
      · symm; simpa using h33
      · rw [drop_bt' r' h3]
        split at h4
        · rename_i e; simp at e; exact (h33 e.1).elim
        · exact h4
  have hPc : Hid (P.has c.toNat = g c.toNat) := by show _ = _; rw [hP]
  generalize P.has c.toNat = RES at *
  have HG := Lib.hid hg
  have gx := get_bt a
  have k1 : (1 : Int) < (a.size : Int) := by omega
  have HN := Lib.hid hnt
  clear hP hg h hnt
  go_enter Tryz.func85, Tryz.ntmps85
  go_upto_if 31 with fail
  have hN2 : (bt a 1 == 33) = nt := HN.out.symm
  rw [hN2]
  clear hN2
  go_cut [6] (fun v w' => v = .int .i64 st ∧ w = w')
  case first =>
    cases nt with
    | true =>
      obtain rfl : st = 2 := hst
      go_wp2_with fail
      go_meet
      exact ⟨rfl, rfl⟩
    | false =>
      obtain rfl : st = 1 := hst
      go_wp2_with fail
      go_meet
      exact ⟨rfl, rfl⟩
  case rest =>
  obtain ⟨rfl, rfl⟩ := hcut
  have hst2 : st ≤ a.size := by rw [hst]; split; omega; omega
  clear hst
  go_wp2_with fail
  go_loop [5, 6] (fun bv iv => ∃ (i : Nat) (f : Nat → Bool) (b : Bool), iv = .int .i64 i ∧ bv = .bool (f c.toNat) ∧ i ≤ a.size ∧ Hid (classL nt b ((bytesOf a).drop i ++ r) f = some (g, r))) (fun _ iv => a.size - (intOf iv).toNat)
  case atStart => exact ⟨st, fun _ => false, false, rfl, rfl, hst2, HG⟩
  case round =>
    obtain ⟨i, f, b, rfl, rfl, hi, hC⟩ := hrel
    clear HG
    have hlt : i < a.size := by
      rcases Nat.lt_or_ge i a.size with e | e
      · exact e
      · have h1 := hC.out
        rw [drop_end e, List.nil_append] at h1
        have := classL_len _ _ _ _ _ _ _ (Nat.le_refl _) h1
        omega
    have hlt' : (i : Int) < (a.size : Int) := by omega
    have hi0 : (0 : Int) ≤ (i : Int) := by omega
    have hd := Lib.hid (drop_bt' r hlt)
    have b0 := bt_nonneg a i
    have b1 := bt_le a i
    by_cases h93 : bt a i = 93
    · have hF : Hid (RES = ((f c.toNat != nt) && (c.toNat != 47))) := by
        have h1 := hC.out
        rw [hd.out, h93] at h1
        cases b with
        | false => rw [classL_bad] at h1; simp at h1
        | true =>
          rw [classL_end] at h1
          simp only [Option.some.injEq, Prod.mk.injEq] at h1
          show _ = _
          rw [hPc.out, ← h1.1]
          rfl
      have h93' : (bt a i != 93) = false := by simpa using h93
      clear hC h93
      generalize f c.toNat = fv at *
      by_cases hf : fv = nt
      · subst hf
        go_wp2_with fail
        go_ret
        exact ⟨ret_bool (by rw [hF.out]; simp), rfl⟩
      · by_cases h47 : c = 47
        · have h47' : (c != 47) = false := by simpa using h47
          have hfn : (fv != nt) = true := by simpa using hf
          go_wp2_with fail
          go_ret
          exact ⟨ret_bool (by rw [hF.out, h47]; simp), rfl⟩
        · have h47' : (c != 47) = true := by simpa using h47
          have hfn : (fv != nt) = true := by simpa using hf
          have h47n : (c.toNat != 47) = true := by simp; omega
          have hF2 : Hid (RES = true) := by show _ = _; rw [hF.out, hfn, h47n]; rfl
          clear h47n hF
          go_wp2_with fail
          go_ret
          exact ⟨ret_bool (by rw [hF2.out]), rfl⟩
    · have h93' : (bt a i != 93) = true := by simpa using h93
      have h93n : bt a i ≠ 93 := h93
      have hmo := classL_more h93n (by have h1 := hC.out; rw [hd.out] at h1; exact h1)
      have hm := hmo.1
      have hl := hmo.2
      rw [List.length_append, List.length_drop, bytesOf_length] at hl
      have h1 : i + 1 < a.size := by omega
      have h1' : (i : Int) + 1 < (a.size : Int) := by omega
      have hd1 := Lib.hid (drop_bt' r h1)
      have HM := Lib.hid hm
      clear hmo hm hl
      by_cases h45 : bt a (i + 1) = 45
      · have h45' : (bt a (i + 1) == 45) = true := by simpa using h45
        have hda := classL_dash (l := (bytesOf a).drop (i + 1 + 1) ++ r) h93n (by have h1 := hC.out; rw [hd.out, hd1.out, h45] at h1; exact h1)
        obtain ⟨hl2, z, l', hzl, hcl⟩ := hda
        rw [List.length_append, List.length_drop, bytesOf_length] at hl2
        have h2 : i + 2 < a.size := by omega
        have h2' : (i : Int) + 2 < (a.size : Int) := by omega
        rw [drop_bt' r (show i + 1 + 1 < a.size from h2)] at hzl
        simp only [List.cons.injEq] at hzl
        obtain ⟨rfl, rfl⟩ := hzl
        have e0 := bt_nonneg a (i + 2)
        have e1 := bt_le a (i + 2)
        have HCL := Lib.hid hcl
        clear hcl h93 h93n h45 hl2
        have hF : Hid (classL nt true ((bytesOf a).drop (i + 3) ++ r) (span f (bt a i) (bt a (i + 2))) = some (g, r)) := by
          show _ = _
          exact HCL.out
        clear hC
        cases hin : f c.toNat with
        | true =>
          have hs : span f (bt a i) (bt a (i + 2)) c.toNat = true := by unfold span; rw [hin]; rfl
          have HS := Lib.hid hs
          clear hs hin
          go_wp2_with fail
          go_round
          case rel => exact ⟨(i + 3), span f (bt a i) (bt a (i + 2)), true, by go_num, by rw [HS.out], by omega, hF⟩
          case measure => simp [intOf]; omega
        | false =>
          by_cases q1 : bt a i ≤ c
          · by_cases q2 : c ≤ (bt a (i + 2))
            · have hs : span f (bt a i) (bt a (i + 2)) c.toNat = true := by unfold span; rw [hin, Bool.false_or, Bool.and_eq_true]; exact ⟨decide_eq_true (by omega), decide_eq_true (by omega)⟩
              have HS := Lib.hid hs
              clear hs hin
              go_wp2_with fail
              go_round
              case rel => exact ⟨(i + 3), span f (bt a i) (bt a (i + 2)), true, by go_num, by rw [HS.out], by omega, hF⟩
              case measure => simp [intOf]; omega
            · have hs : span f (bt a i) (bt a (i + 2)) c.toNat = false := by unfold span; rw [hin, Bool.false_or, Bool.and_eq_false_iff]; exact .inr (decide_eq_false (by omega))
              have HS := Lib.hid hs
              clear hs hin
              go_wp2_with fail
              go_round
              case rel => exact ⟨(i + 3), span f (bt a i) (bt a (i + 2)), true, by go_num, by rw [HS.out], by omega, hF⟩
              case measure => simp [intOf]; omega
          · have hs : span f (bt a i) (bt a (i + 2)) c.toNat = false := by unfold span; rw [hin, Bool.false_or, Bool.and_eq_false_iff]; exact .inl (decide_eq_false (by omega))
            have HS := Lib.hid hs
            clear hs hin
            go_wp2_with fail
            go_round
            case rel => exact ⟨(i + 3), span f (bt a i) (bt a (i + 2)), true, by go_num, by rw [HS.out], by omega, hF⟩
            case measure => simp [intOf]; omega
      · have h45' : (bt a (i + 1) == 45) = false := by simpa using h45
        have h45n : bt a (i + 1) ≠ 45 := h45
        have HCL : Hid (classL nt true ((bytesOf a).drop (i + 1) ++ r) (span f (bt a i) (bt a i)) = some (g, r)) := by
          show _ = _
          rw [← hC.out, hd.out, classL_go _ _ _ _ h93n HM.out (fun z r e => by rw [hd1.out] at e; simp at e; exact h45n e.1)]
        clear h93 h93n h45 h45n
        have hF : Hid (classL nt true ((bytesOf a).drop (i + 1) ++ r) (span f (bt a i) (bt a i)) = some (g, r)) := by
          show _ = _
          exact HCL.out
        clear hC
        cases hin : f c.toNat with
        | true =>
          have hs : span f (bt a i) (bt a i) c.toNat = true := by unfold span; rw [hin]; rfl
          have HS := Lib.hid hs
          clear hs hin
          go_wp2_with fail
          go_round
          case rel => exact ⟨(i + 1), span f (bt a i) (bt a i), true, by go_num, by rw [HS.out], by omega, hF⟩
          case measure => simp [intOf]; omega
        | false =>
          by_cases q1 : bt a i ≤ c
          · by_cases q2 : c ≤ (bt a i)
            · have hs : span f (bt a i) (bt a i) c.toNat = true := by unfold span; rw [hin, Bool.false_or, Bool.and_eq_true]; exact ⟨decide_eq_true (by omega), decide_eq_true (by omega)⟩
              have HS := Lib.hid hs
              clear hs hin
              go_wp2_with fail
              go_round
              case rel => exact ⟨(i + 1), span f (bt a i) (bt a i), true, by go_num, by rw [HS.out], by omega, hF⟩
              case measure => simp [intOf]; omega
            · have hs : span f (bt a i) (bt a i) c.toNat = false := by unfold span; rw [hin, Bool.false_or, Bool.and_eq_false_iff]; exact .inr (decide_eq_false (by omega))
              have HS := Lib.hid hs
              clear hs hin
              go_wp2_with fail
              go_round
              case rel => exact ⟨(i + 1), span f (bt a i) (bt a i), true, by go_num, by rw [HS.out], by omega, hF⟩
              case measure => simp [intOf]; omega
          · have hs : span f (bt a i) (bt a i) c.toNat = false := by unfold span; rw [hin, Bool.false_or, Bool.and_eq_false_iff]; exact .inl (decide_eq_false (by omega))
            have HS := Lib.hid hs
            clear hs hin
            go_wp2_with fail
            go_round
            case rel => exact ⟨(i + 1), span f (bt a i) (bt a i), true, by go_num, by rw [HS.out], by omega, hF⟩
            case measure => simp [intOf]; omega

set_option maxHeartbeats 1000000 in
/-- single, of a part that is like one byte. -/
theorem single_any (a : ByteArray) (P : Part) (r : List Int) (c : Int) (w : World) (ha : a.size ≤ 4096) (h : partL (bytesOf a ++ r) = some (P, r)) (hs : bt a 0 ≠ 42) (c0 : 0 ≤ c) (c1 : c ≤ 255) :
    Calls Tryz.prog 85 #[.string a, .int .u8 c] w fun e w' => e = .returned (.bool (P.has c.toNat)) ∧ w = w' := by
  have hsz : 0 < a.size := by
    have := partL_len h
    rw [List.length_append, bytesOf_length] at this
    omega
  by_cases h91 : bt a 0 = 91
  · exact single_class a P r c w ha h h91 c0 c1
  have gx := get_bt a
  rw [← List.drop_zero (l := bytesOf a), drop_bt' r hsz] at h
  have x1 : (0 : Int) < (a.size : Int) := by omega
  by_cases h63 : bt a 0 = 63
  · have hP : Hid (P.has c.toNat = (c.toNat != 47)) := by
      rw [h63] at h
      simp [partL] at h
      show _ = _
      rw [← h.1]; rfl
    have d : (bt a 0 == 63) = true := by simpa using h63
    clear h h63 hs h91
    generalize P.has c.toNat = RES at *
    by_cases h47 : c = 47
    · have h47' : (c != 47) = false := by simpa using h47
      go_enter Tryz.func85, Tryz.ntmps85
      go_wp2_with fail
      go_ret
      exact ⟨ret_bool (by rw [hP.out, h47]; simp), rfl⟩
    · have h47' : (c != 47) = true := by simpa using h47
      have h47n : (c.toNat != 47) = true := by simp; omega
      have hP2 : Hid (RES = true) := by show _ = _; rw [hP.out, h47n]
      clear h47n
      go_enter Tryz.func85, Tryz.ntmps85
      go_wp2_with fail
      go_ret
      exact ⟨ret_bool (by rw [hP2.out]), rfl⟩
  · have d63 : (bt a 0 == 63) = false := by simpa using h63
    by_cases h92 : bt a 0 = 92
    · have h1 : 1 < a.size := by
        rcases Nat.lt_or_ge 1 a.size with e | e
        · exact e
        · rw [h92, drop_end (by omega), List.nil_append] at h
          rcases r with _ | ⟨y, r⟩
          · simp [partL] at h
          · simp only [partL] at h
            simp at h
      have h1' : (1 : Int) < (a.size : Int) := by omega
      have e0 := bt_nonneg a 1
      have hP : Hid (P.has c.toNat = decide (c = bt a 1)) := by
        rw [h92, drop_bt' r h1] at h
        simp [partL] at h
        show _ = _
        rw [← h.2.1]
        simp only [oneP]
        rw [decide_eq_decide]; omega
      have d : (bt a 0 == 92) = true := by simpa using h92
      clear h h63 hs h91 h92
      generalize P.has c.toNat = RES at *
      by_cases hc : c = bt a 1
      · have hc' : (c == bt a 1) = true := by simpa using hc
        have hP2 : Hid (RES = true) := by show _ = _; rw [hP.out, decide_eq_true hc]
        clear hc
        go_enter Tryz.func85, Tryz.ntmps85
        go_wp2_with fail
        go_ret
        exact ⟨ret_bool (by rw [hP2.out]), rfl⟩
      · have hc' : (c == bt a 1) = false := by simpa using hc
        have hP2 : Hid (RES = false) := by show _ = _; rw [hP.out, decide_eq_false hc]
        clear hc
        go_enter Tryz.func85, Tryz.ntmps85
        go_wp2_with fail
        go_ret
        exact ⟨ret_bool (by rw [hP2.out]), rfl⟩
    · have d92 : (bt a 0 == 92) = false := by simpa using h92
      have d91 : (bt a 0 == 91) = false := by simpa using h91
      have e0 := bt_nonneg a 0
      have hP : Hid (P.has c.toNat = decide (c = bt a 0)) := by
        simp only [partL, if_neg hs, if_neg h63, if_neg h91, if_neg h92] at h
        split at h
        · simp only [Option.some.injEq, Prod.mk.injEq] at h
          show _ = _
          rw [← h.1]
          simp only [oneP]
          rw [decide_eq_decide]; omega
        · simp at h
      clear h h63 hs h91 h92
      generalize P.has c.toNat = RES at *
      by_cases hc : c = bt a 0
      · have hc' : (c == bt a 0) = true := by simpa using hc
        have hP2 : Hid (RES = true) := by show _ = _; rw [hP.out, decide_eq_true hc]
        clear hc
        go_enter Tryz.func85, Tryz.ntmps85
        go_wp2_with fail
        go_ret
        exact ⟨ret_bool (by rw [hP2.out]), rfl⟩
      · have hc' : (c == bt a 0) = false := by simpa using hc
        have hP2 : Hid (RES = false) := by show _ = _; rw [hP.out, decide_eq_false hc]
        clear hc
        go_enter Tryz.func85, Tryz.ntmps85
        go_wp2_with fail
        go_ret
        exact ⟨ret_bool (by rw [hP2.out]), rfl⟩

end Go.Proofs.YtmgngapkgcofnaaGreatDoor
