/- For all patterns and texts the law TopGlob returns true, and all four read as they did: what is like two patterns is like both in one, and without '**' no pattern passes a '/' that it has not. No condition. -/
import Derived.Test.YtmgngapkgcofnaaGlobTop
import Derived.Test.YtmgngapkgcofnaaLaw
import Derived.ProofKit
namespace Go.Proofs.Ytmgngapkgcofnaa.topGlob
open Go.ChangeShapes Go.WideShapes Go.ChangeAt Go.RowKit Go.PlainAid
open Go.ChangeMaps (open_string shut_string)

theorem own : ownKnob Try.prog.godebug = none := by kernel_rfl
theorem laidOut : laidOutB Try.prog = true := by kernel_rfl
theorem bytesOf_append (p q : ByteArray) : bytesOf (p ++ q) = bytesOf p ++ bytesOf q := by
  simp [bytesOf]
theorem match_open {p s : ByteArray} (h : matchB p s = true) : globF (bytesOf p) = 0 ∧ ∃ A, partsF (bytesOf p) = some A ∧ Mk A (byteN s) A.length s.size = true := by
  by_cases h0 : globF (bytesOf p) = 0
  · obtain ⟨A, hA, _, _⟩ := globF_parts h0
    exact ⟨h0, A, hA, by rw [← matchB_some h0 hA]; exact h⟩
  · unfold matchB at h; rw [if_pos h0] at h; simp at h
theorem cntN_cnt (p : ByteArray) : ∀ i, i ≤ p.size → cntN (byteN p) i = cnt ((bytesOf p).take i) := by
  intro i
  induction i with
  | zero => intro _; rfl
  | succ i ih =>
    intro hi
    rw [List.take_succ_eq_append_getElem (by rw [bytesOf_length]; omega), cnt_append, cntN, ih (by omega)]
    congr 1
    have h1 : (bytesOf p)[i]'(by rw [bytesOf_length]; omega) = bt p i := by
      have := bytesOf_at (s := p) (j := i) (by omega)
      rw [List.getElem?_eq_getElem (by rw [bytesOf_length]; omega)] at this
      exact Option.some.inj this
    rw [h1, cnt_cons, byteN_bt p i]
    by_cases e : byteN p i = 47
    · rw [if_pos e, if_pos (by omega)]; rfl
    · rw [if_neg e, if_neg (by omega)]; rfl
theorem cntN_all (p : ByteArray) : cntN (byteN p) p.size = cnt (bytesOf p) := by
  rw [cntN_cnt p _ (Nat.le_refl _), ← bytesOf_length p, List.take_length]
theorem slash_law {p s : ByteArray} (h : matchB p s = true) (h2 : twoStars (bytesOf p) = false) : cntN (byteN s) s.size = cntN (byteN p) p.size := by
  obtain ⟨_, A, hA, hM⟩ := match_open h
  rw [cntN_all p]
  exact match_slash hA h2 (byteN s) s.size hM
theorem byteN_app1 (s t : ByteArray) (j : Nat) (h : j < s.size) : byteN (s ++ t) j = byteN s j := by
  unfold byteN
  rw [dif_pos h, dif_pos (by simp; omega)]
  simp [ByteArray.getElem_append_left h]
theorem byteN_app2 (s t : ByteArray) (j : Nat) : byteN (s ++ t) (s.size + j) = byteN t j := by
  unfold byteN
  by_cases h : j < t.size
  · rw [dif_pos h, dif_pos (by simp; omega)]
    rw [ByteArray.getElem_append_right (by omega)]
    simp
  · rw [dif_neg h, dif_neg (by simp; omega)]
theorem head_begin (q : ByteArray) : (bytesOf q).head? = some 42 → beginB q = true := by
  intro h
  rcases Nat.eq_zero_or_pos q.size with h0 | h0
  · rw [bytesOf_nil h0] at h; simp at h
  · rw [← List.drop_zero (l := bytesOf q), drop_bt h0] at h
    simp at h
    unfold beginB
    simpa using h
theorem last_end (p : ByteArray) : (bytesOf p).getLast? = some 42 → endB p = true := by
  intro h
  rcases Nat.eq_zero_or_pos p.size with h0 | h0
  · rw [bytesOf_nil h0] at h; simp at h
  · rw [List.getLast?_eq_getElem?, bytesOf_length, bytesOf_at (by omega)] at h
    simp at h
    unfold endB
    simpa using h
/-- Both in one. -/
theorem join_law {p q s t : ByteArray} (h1 : matchB p s = true) (h2 : matchB q t = true) (hs : endB p = false ∨ beginB q = false) (hl : p.size + q.size ≤ 24) : globF (bytesOf (p ++ q)) = 0 ∧ matchB (p ++ q) (s ++ t) = true := by
  obtain ⟨a0, A, hA, hM⟩ := match_open h1
  obtain ⟨b0, B, hB, hN⟩ := match_open h2
  have hAB : partsF (bytesOf (p ++ q)) = some (A ++ B) := by
    rw [bytesOf_append]
    refine partsF_append hA hB (fun ⟨e1, e2⟩ => ?_)
    rcases hs with h | h
    · rw [last_end p e1] at h; simp at h
    · rw [head_begin q e2] at h; simp at h
  have hG : globF (bytesOf (p ++ q)) = 0 := by
    obtain ⟨_, _, _, hne⟩ := globF_parts a0
    unfold globF
    rw [if_neg (by rw [bytesOf_append, List.length_append, bytesOf_length, bytesOf_length]; omega), if_neg (by rw [bytesOf_append]; simp [hne]), hAB]
  refine ⟨hG, ?_⟩
  rw [matchB_some hG hAB, ByteArray.size_append]
  exact Mk_both A B (byteN_app1 s t) (byteN_app2 s t) hM hN

theorem up_yes (w : World) : Calls Try.prog 19 #[.string ⟨#[97, 63]⟩, .string ⟨#[97, 98]⟩] w fun e w' => e = .returned (.bool true) ∧ Below w.heap.size w w' := by
  have := globMatch_any ⟨#[97, 63]⟩ ⟨#[97, 98]⟩ w (by decide +kernel) (by decide +kernel)
  rw [show matchB ⟨#[97, 63]⟩ ⟨#[97, 98]⟩ = true from by decide +kernel] at this
  exact this

set_option maxRecDepth 100000 in
set_option maxHeartbeats 4000000 in
theorem walk (p q s t : ByteArray) (w : World) (hp : p.size ≤ maxLen) (hq : q.size ≤ maxLen) (hs : s.size ≤ maxLen) (ht : t.size ≤ maxLen) :
    Calls Try.prog 10 #[.string p, .string q, .string s, .string t] w fun e w' => e = .returned (.bool true) ∧ Below w.heap.size w w' := by
  unfold maxLen at hp hq hs ht
  by_cases h1 : p.size ≤ 30
  case neg =>
    have x1 : (30 : Int) < (p.size : Int) := by omega
    clear hp hq hs ht h1
    go_enter Try.func10, Try.ntmps10
    go_wp2_with (go_at_call 19; (with_reducible refine (up_yes _).mono ?_); rintro e w1 ⟨rfl, hb1⟩)
    go_ret
    exact ⟨rfl, hb1⟩
  by_cases h2 : q.size ≤ 30
  case neg =>
    have x1 : ¬ (30 : Int) < (p.size : Int) := by omega
    have x2 : (30 : Int) < (q.size : Int) := by omega
    clear hp hq hs ht h1 h2
    go_enter Try.func10, Try.ntmps10
    go_wp2_with (go_at_call 19; (with_reducible refine (up_yes _).mono ?_); rintro e w1 ⟨rfl, hb1⟩)
    go_ret
    exact ⟨rfl, hb1⟩
  by_cases h3 : s.size ≤ 60
  case neg =>
    have x1 : ¬ (30 : Int) < (p.size : Int) := by omega
    have x2 : ¬ (30 : Int) < (q.size : Int) := by omega
    have x3 : (60 : Int) < (s.size : Int) := by omega
    clear hp hq hs ht h1 h2 h3
    go_enter Try.func10, Try.ntmps10
    go_wp2_with (go_at_call 19; (with_reducible refine (up_yes _).mono ?_); rintro e w1 ⟨rfl, hb1⟩)
    go_ret
    exact ⟨rfl, hb1⟩
  by_cases h4 : t.size ≤ 60
  case neg =>
    have x1 : ¬ (30 : Int) < (p.size : Int) := by omega
    have x2 : ¬ (30 : Int) < (q.size : Int) := by omega
    have x3 : ¬ (60 : Int) < (s.size : Int) := by omega
    have x4 : (60 : Int) < (t.size : Int) := by omega
    clear hp hq hs ht h1 h2 h3 h4
    go_enter Try.func10, Try.ntmps10
    go_wp2_with (go_at_call 19; (with_reducible refine (up_yes _).mono ?_); rintro e w1 ⟨rfl, hb1⟩)
    all_goals first
      | (exfalso; omega)
      | (go_ret; exact ⟨rfl, hb1⟩)
  have x1 : ¬ (30 : Int) < (p.size : Int) := by omega
  have x2 : ¬ (30 : Int) < (q.size : Int) := by omega
  have x3 : ¬ (60 : Int) < (s.size : Int) := by omega
  have x4 : ¬ (60 : Int) < (t.size : Int) := by omega
  have z1 : p.size ≤ 4096 := by omega
  have z2 : q.size ≤ 4096 := by omega
  have z3 : s.size ≤ 100000 := by omega
  have z4 : t.size ≤ 100000 := by omega
  have z5 : p.size ≤ 100000 := by omega
  have z6 : q.size ≤ 100000 := by omega
  have HSL := Lib.hid (fun h1 h2 => slash_law (p := p) (s := s) h1 h2)
  have HJ := Lib.hid (fun h1 h2 h3 h4 => join_law (p := p) (q := q) (s := s) (t := t) h1 h2 h3 h4)
  clear hp hq hs ht h1 h2 h3 h4
  obtain ⟨a, hA⟩ : ∃ a, Hid (matchB p s = a) := ⟨_, rfl⟩
  obtain ⟨b, hB⟩ : ∃ b, Hid (matchB q t = b) := ⟨_, rfl⟩
  obtain ⟨en, hE⟩ : ∃ en, Hid (endB p = en) := ⟨_, rfl⟩
  obtain ⟨be, hBe⟩ : ∃ be, Hid (beginB q = be) := ⟨_, rfl⟩
  go_enter Try.func10, Try.ntmps10
  go_upto_region 7 with (first
    | (go_at_call 19; (with_reducible refine (up_yes _).mono ?_); rintro e w1 ⟨rfl, hb1⟩)
    | (go_at_call 60; refine (stars_any _ _ z5).mono ?_; rintro e w2 ⟨T, rfl, hT, hb2⟩; have HT := Lib.hid hT; clear hT; rw [hE.out]))
  go_upto_region 8 with (go_at_call 60; refine (stars_any _ _ z6).mono ?_; rintro e w3 ⟨T2, rfl, hT2, hb3⟩; clear hT2; rw [hBe.out])
  go_upto_region 9 with (go_at_call 19; refine (globMatch_any _ _ _ z1 z3).mono ?_; rintro e w4 ⟨rfl, hb4⟩; rw [hA.out])
  go_upto_region 10 with (go_at_call 19; refine (globMatch_any _ _ _ z2 z4).mono ?_; rintro e w5 ⟨rfl, hb5⟩; rw [hB.out])
  have hbb : Below w.heap.size w w5 := below_then (below_then (below_then (below_then hb1 (Nat.le_refl _) hb2) (Nat.le_refl _) hb3) (Nat.le_refl _) hb4) (Nat.le_refl _) hb5
  clear hb1 hb2 hb3 hb4 hb5
  cases a with
  | false =>
    go_wp2_with fail
    go_ret
    exact ⟨rfl, hbb⟩
  | true =>
    have hG : Hid (globF (bytesOf p) = 0) := (match_open hA.out).1
    go_cut [68] (fun v w' => v = .bool false ∧ w5 = w')
    case first =>
      cases T with
      | true =>
        go_wp2_with fail
        go_meet
        exact ⟨rfl, rfl⟩
      | false =>
        have hN : Hid (cntN (byteN s) s.size = cntN (byteN p) p.size) := HSL.out hA.out (HT.out rfl)
        obtain ⟨N, hN2⟩ : ∃ N, Hid (cntN (byteN p) p.size = N) := ⟨_, rfl⟩
        go_wp2_with (first
          | (go_at_call 61; (with_reducible refine (slashes_any s _ z3).mono ?_); rintro e w6 ⟨rfl, rfl⟩; rw [hN.out, hN2.out])
          | (go_at_call 61; (with_reducible refine (slashes_any p _ z5).mono ?_); rintro e w6 ⟨rfl, rfl⟩; rw [hN2.out]))
        go_meet
        exact ⟨by simp, rfl⟩
    case rest =>
      obtain ⟨rfl, rfl⟩ := hcut
      go_upto_region 14 with (go_at_call 17; refine (globCheck_any _ _ z1).mono ?_; rintro e w7 ⟨rfl, hb7⟩; rw [hG.out, errV_zero])
      have hbb2 : Below w.heap.size w w7 := below_then hbb (Nat.le_refl _) hb7
      clear hbb hb7
      cases b with
      | false =>
        go_wp2_with fail
        go_ret
        exact ⟨rfl, hbb2⟩
      | true =>
        by_cases heb : en = true ∧ be = true
        · obtain ⟨rfl, rfl⟩ := heb
          go_wp2_with fail
          go_ret
          exact ⟨rfl, hbb2⟩
        · have hor : en = false ∨ be = false := by cases en <;> cases be <;> simp_all
          clear heb
          by_cases hl : p.size + q.size ≤ 24
          · have y1 : ¬ (24 : Int) < (p.size : Int) + (q.size : Int) := by omega
            have hj := HJ.out hA.out hB.out (by rw [hE.out, hBe.out]; exact hor) hl
            have hj1 := Lib.hid hj.1
            have hj2 := Lib.hid hj.2
            have z7 : (p ++ q).size ≤ 4096 := by rw [ByteArray.size_append]; omega
            have z8 : (s ++ t).size ≤ 100000 := by rw [ByteArray.size_append]; omega
            clear hj hl
            go_cut [94] (fun v w' => v = .bool false ∧ w7 = w')
            case first =>
              cases en <;> cases be
              all_goals first
                | (rcases hor with h | h <;> simp at h; done)
                | (clear hor; go_wp2_with fail; go_meet; exact ⟨rfl, rfl⟩)
            case rest =>
              obtain ⟨rfl, rfl⟩ := hcut
              go_wp2_with (first
                | (go_at_call 17; refine (globCheck_any _ _ z7).mono ?_; rintro e w8 ⟨rfl, hb8⟩; rw [hj1.out, errV_zero])
                | (go_at_call 19; refine (globMatch_any _ _ _ z7 z8).mono ?_; rintro e w9 ⟨rfl, hb9⟩; rw [hj2.out]))
              go_ret
              exact ⟨rfl, below_then (below_then hbb2 (Nat.le_refl _) hb8) (Nat.le_refl _) hb9⟩
          · have y1 : (24 : Int) < (p.size : Int) + (q.size : Int) := by omega
            clear hl
            go_cut [94] (fun v w' => v = .bool true ∧ w7 = w')
            case first =>
              cases en <;> cases be
              all_goals first
                | (rcases hor with h | h <;> simp at h; done)
                | (clear hor; go_wp2_with fail; go_meet; exact ⟨rfl, rfl⟩)
            case rest =>
              obtain ⟨rfl, rfl⟩ := hcut
              go_wp2_with fail
              go_ret
              exact ⟨rfl, hbb2⟩

set_option maxRecDepth 100000 in
theorem lifted (os : Os) (started : os.Started) (H : Type) (enc : TypeId × Value → H) :
    ReturnsInHanded {} Try.checked os 10 .any (Rows.topGlobSpec.pre6 enc Try.prog Try.f10 Rows.topGlobRow.domain false) (Rows.topGlobSpec.post enc Try.prog Try.f10 false true false false) := by
  refine returnsInHanded_of_change (C := Try.checked) own started (by kernel_rfl) Try.func10
    (ChangeSpec.witness6 (enc := enc) (C := Try.checked) false ⟨#[], #[.string .empty, .string .empty, .string .empty, .string .empty], []⟩ 8 (by kernel_rfl) (by kernel_rfl) (by kernel_rfl) (by kernel_rfl)) ?_
  intro W base args ds gs before hval0 hW _ _
  have hval : ∀ (j : Nat) t v, Try.f10.params[j]? = some t → args[j]? = some v → Value.okWide Try.prog W .any base t v := hval0
  have hW' : DataW.Whole enc Try.prog Try.f10.params.toList Rows.topGlobSpec.vars false W args.toList ds gs before := hW
  obtain ⟨p, q, hA0, hV, rfl, hfz, hnd⟩ := hW
  have hA : DataW.TrodAll enc Try.prog W 0 (fun _ => true) true Try.f10.params.toList args.toList ds p := hA0
  rw [Try.params10] at hA hval
  obtain ⟨v0, v1, v2, v3, d0, d1, d2, d3, p0, p1, p2, p3, rfl, rfl, rfl, h0, h1, h2, h3⟩ := trodAll_four hA
  obtain ⟨rfl, rfl⟩ := trodVars_none hV
  obtain ⟨s0, rfl, rfl, rfl, hm0⟩ := open_string Try.underlying9 (hval 0 9 v0 rfl rfl) h0
  obtain ⟨s1, rfl, rfl, rfl, hm1⟩ := open_string Try.underlying9 (hval 1 9 v1 rfl rfl) h1
  obtain ⟨s2, rfl, rfl, rfl, hm2⟩ := open_string Try.underlying9 (hval 2 9 v2 rfl rfl) h2
  obtain ⟨s3, rfl, rfl, rfl, hm3⟩ := open_string Try.underlying9 (hval 3 9 v3 rfl rfl) h3
  refine (walk s0 s1 s2 s3 W hm0 hm1 hm2 hm3).mono fun e W' ⟨he, hb⟩ => ?_
  subst he
  exact ⟨_, rfl, law_post laidOut (by kernel_rfl) Try.underlying4 (by kernel_rfl) rfl hW' rfl hb⟩

theorem holds : Rows.TopGlobSaid :=
  OpenClaim.holds_of_wide 10 Try.f10 rfl rfl rfl rfl rfl rfl rfl ⟨rfl, rfl, rfl, rfl, rfl⟩ rfl rfl rfl rfl rfl (by kernel_rfl) Try.func10 (by kernel_rfl)
    (of_decide_eq_true (by kernel_rfl)) (by unfold Func.isWrapper; first | (rw [if_pos (by decide +kernel)]; kernel_rfl) | (rw [if_neg (by decide +kernel)]; exact ⟨rfl, rfl⟩))
    (fun os started H enc _ => lifted os started H enc)

end Go.Proofs.Ytmgngapkgcofnaa.topGlob
