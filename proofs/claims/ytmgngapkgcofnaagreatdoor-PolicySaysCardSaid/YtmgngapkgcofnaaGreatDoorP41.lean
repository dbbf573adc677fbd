/- The reference's Pieces and GlobFault: the walks. -/
import Derived.Test.YtmgngapkgcofnaaGreatDoorP40
import Derived.Test.YtmgngapkgcofnaaGreatDoorP08
import Derived.Maps.AppendAt
import Derived.OwnWalk
import Derived.Deep.CutBlock
namespace Go.Proofs.YtmgngapkgcofnaaGreatDoor
open Go.RowKit Go.PlainAid

theorem cells1 (W : World) (b : Nat) (t : TypeId) (v : Value) (hc : W.heap[b]? = some (.cells #[v] t (0, 0))) :
    ∀ (j : Nat) (u : Value), [v][j]? = some u → W.cell? ((⟨b, 0, none⟩ : Addr).add j) = some u := by
  intro j u hu
  match j, hu with
  | 0, hu => simp at hu; subst hu; simp [Addr.add, World.cell?, hc]
theorem str_i : (Tryz.prog.info? 9).map (fun i => (i.zero, i.size, i.bytes)) = some (some (.string ⟨#[]⟩), 1, 16) := by kernel_rfl
theorem ownsRow_ge {w : World} {B : Nat} {e : TypeId} {sz n : Nat} {v : Value} {xs : List Value} (h : w.ownsRow B e sz v n xs) : ∀ k, v.ownBlock = some k → B ≤ k := by
  obtain ⟨_, (⟨rfl, _⟩ | ⟨g, cap, cur, rfl, hB, _⟩)⟩ := h
  · intro k h; simp [Value.ownBlock] at h
  · intro k h; simp [Value.ownBlock] at h; omega

/-- Where the part at a place ends; below 0: there is none. -/
def endAt (p : ByteArray) (k : Nat) : Int := match partL ((bytesOf p).drop k) with
  | some (_, r) => (p.size : Int) - r.length
  | none => -1
/-- What Pieces answers. -/
def PiecesR (l : List Int) (B : Nat) (e : Ending) (w' : World) : Prop := match partsP l with
  | some ps => ∃ (v : Value) (ls : List ByteArray), e = .returned (.tuple #[v, .bool (decide (0 < ps.length))]) ∧ ls.map bytesOf = ps.map (·.1) ∧ w'.ownsRow B 9 1 v ps.length (ls.map Value.string)
  | none => e = .returned (.tuple #[.slice none 0 0, .bool false])
theorem bytesOf_extract (p : ByteArray) (i j : Nat) : bytesOf (p.extract i j) = ((bytesOf p).drop i).take (j - i) := by
  simp only [bytesOf, ByteArray.data_extract, Array.toList_extract, List.extract_eq_take_drop, List.map_take, List.map_drop]
theorem endAt_some {p : ByteArray} {k : Nat} {P : Part} {r : List Int} (h : partL ((bytesOf p).drop k) = some (P, r)) (hk : k ≤ p.size) : ∃ E : Nat, endAt p k = E ∧ k < E ∧ E ≤ p.size ∧ r = (bytesOf p).drop E ∧ ((bytesOf p).drop k).take (((bytesOf p).drop k).length - r.length) = bytesOf (p.extract k E) := by
  have h1 := partL_len h
  obtain ⟨a, ha⟩ := partL_suffix h
  rw [List.length_drop, bytesOf_length] at h1
  refine ⟨p.size - r.length, ?_, by omega, by omega, ?_, ?_⟩
  · unfold endAt; rw [h]; simp only; omega
  · have h2 : ((bytesOf p).drop k).drop a.length = r := by rw [ha, List.drop_left]
    rw [List.drop_drop] at h2
    have h3 : a.length + r.length = p.size - k := by
      have := congrArg List.length ha
      rw [List.length_drop, bytesOf_length, List.length_append] at this
      omega
    rw [show k + a.length = p.size - r.length from by omega] at h2
    exact h2.symm
  · rw [bytesOf_extract, List.length_drop, bytesOf_length]
    rw [show p.size - k - r.length = p.size - r.length - k from by omega]

theorem partL_star' {x : Int} (h : x ≠ 42) (r : List Int) : partL (42 :: x :: r) = some (anyP false true, x :: r) := by
  simp only [partL]
  split
  · split
    · rename_i e; simp at e; exact (h e.1).elim
    · rfl
  · rename_i e; exact (e trivial).elim
theorem endAt_42 {p : ByteArray} {k : Nat} (h : k < p.size) (hc : bt p k = 42) : endAt p k = if k + 1 < p.size ∧ bt p (k + 1) = 42 then (k : Int) + 2 else (k : Int) + 1 := by
  unfold endAt
  rw [drop_bt h, hc]
  by_cases h1 : k + 1 < p.size
  · rw [drop_bt h1]
    by_cases h2 : bt p (k + 1) = 42
    · rw [if_pos ⟨h1, h2⟩, h2]
      simp only [partL, if_true, List.length_drop, bytesOf_length]
      omega
    · rw [if_neg (fun h => h2 h.2)]
      have : partL (42 :: bt p (k + 1) :: (bytesOf p).drop (k + 1 + 1)) = some (anyP false true, bt p (k + 1) :: (bytesOf p).drop (k + 1 + 1)) := partL_star' h2 _
      rw [this]
      simp only [List.length_cons, List.length_drop, bytesOf_length]
      omega
  · rw [if_neg (fun h => h1 h.1), drop_end (by omega)]
    simp only [partL, if_true, List.length_nil]
    omega
theorem endAt_63 {p : ByteArray} {k : Nat} (h : k < p.size) (hc : bt p k = 63) : endAt p k = (k : Int) + 1 := by
  unfold endAt
  rw [drop_bt h, hc]
  simp [partL, bytesOf_length]
  omega
theorem endAt_91 {p : ByteArray} {k : Nat} (h : k < p.size) (hc : bt p k = 91) : endAt p k = classEnd p k := by
  unfold endAt classEnd
  rw [drop_bt h, hc]
  simp only [partL]
  cases classF ((bytesOf p).drop (k + 1)) <;> rfl
theorem endAt_92 {p : ByteArray} {k : Nat} (h : k < p.size) (hc : bt p k = 92) : endAt p k = if k + 1 < p.size ∧ specialF (bt p (k + 1)) = true then (k : Int) + 2 else -1 := by
  unfold endAt
  rw [drop_bt h, hc]
  by_cases h1 : k + 1 < p.size
  · rw [drop_bt h1]
    by_cases h2 : specialF (bt p (k + 1)) = true
    · rw [if_pos ⟨h1, h2⟩]
      simp [partL, h2, bytesOf_length]
      omega
    · rw [if_neg (fun h => h2 h.2)]
      simp [partL, h2]
  · rw [if_neg (fun h => h1 h.1), drop_end (by omega)]
    simp [partL]
theorem endAt_else {p : ByteArray} {k : Nat} (h : k < p.size) (h1 : bt p k ≠ 42) (h2 : bt p k ≠ 63) (h3 : bt p k ≠ 91) (h4 : bt p k ≠ 92) : endAt p k = if bt p k < 33 ∨ 126 < bt p k ∨ bt p k = 34 ∨ bt p k = 93 then -1 else (k : Int) + 1 := by
  unfold endAt
  rw [drop_bt h]
  by_cases hb : bt p k < 33 ∨ 126 < bt p k ∨ bt p k = 34 ∨ bt p k = 93
  · rw [if_pos hb]
    have : plainF (bt p k) = false := by unfold plainF; rw [decide_eq_false_iff_not]; omega
    simp [partL, h1, h2, h3, h4, this]
  · rw [if_neg hb]
    have : plainF (bt p k) = true := by unfold plainF; rw [decide_eq_true_iff]; omega
    simp [partL, h1, h2, h3, h4, this, bytesOf_length]
    omega

set_option linter.unusedSimpArgs false in
set_option maxRecDepth 100000 in
set_option maxHeartbeats 4000000 in
theorem pieces_any (p : ByteArray) (w : World) (hs2 : p.size ≤ 4096) :
    Calls Tryz.prog 67 #[.string p] w fun e w' => PiecesR (bytesOf p) w.heap.size e w' ∧ Below w.heap.size w w' := by
  obtain ⟨i0, hi, hz0, hz1, hz2⟩ := info_parts str_i
  have gx := get_bt p
  go_enter Tryz.func67, Tryz.ntmps67
  go_wp2_with fail
  go_loopw [4, 5] (fun lv kv wr => ∃ (k : Nat) (ps : List (List Int × Part)) (ls : List ByteArray), kv = .int .i64 k ∧ k ≤ p.size ∧ ps.length ≤ k ∧ ls.length = ps.length ∧ Hid (ls.map bytesOf = ps.map (·.1)) ∧ Hid (wr.ownsRow w.heap.size 9 1 lv ps.length (ls.map Value.string)) ∧ Below w.heap.size w wr ∧ Hid ((partsP ((bytesOf p).drop k)).map (ps ++ ·) = partsP (bytesOf p))) (fun _ kv _ => p.size - (intOf kv).toNat)
  case atStart =>
    refine ⟨0, [], [], rfl, Nat.zero_le _, Nat.le_refl _, rfl, rfl, World.ownsRow_nil _ _ _ _, Below.refl _ _, ?_⟩
    show _ = _
    rw [List.drop_zero]
    cases partsP (bytesOf p) <;> rfl
  case round =>
    obtain ⟨k, ps, ls, rfl, hk, hn, hll, hls, hown, hb, hC⟩ := hrel
    by_cases hlt : k < p.size
    · have hlt' : (k : Int) < (p.size : Int) := by omega
      have hk0 : (0 : Int) ≤ (k : Int) := by omega
      have b0 := bt_nonneg p k
      have b1 := bt_le p k
      go_upto_block 2 with fail
      go_cut [7] (fun ev wc => ev = .int .i64 (endAt p k) ∧ wr = wc)
      case first =>
        have hbk : Hid (bt p k = bt p k) := rfl
        by_cases c42 : bt p k = 42
        · have d : (bt p k == 42) = true := by simpa using c42
          by_cases h1 : k + 1 < p.size
          · have h1' : (k : Int) + 1 < (p.size : Int) := by omega
            by_cases h2 : bt p (k + 1) = 42
            · have d2 : (bt p (k + 1) == 42) = true := by simpa using h2
              have hE : Hid (endAt p k = (k : Int) + 2) := by show _ = _; rw [endAt_42 hlt c42, if_pos ⟨h1, h2⟩]
              clear c42 h2
              go_wp2_with fail
              go_meet
              exact ⟨by rw [hE.out]; go_num, rfl⟩
            · have d2 : (bt p (k + 1) == 42) = false := by simpa using h2
              have hE : Hid (endAt p k = (k : Int) + 1) := by show _ = _; rw [endAt_42 hlt c42, if_neg (fun h => h2 h.2)]
              clear c42 h2
              go_wp2_with fail
              go_meet
              exact ⟨by rw [hE.out], rfl⟩
          · have h1' : ¬ (k : Int) + 1 < (p.size : Int) := by omega
            have hE : Hid (endAt p k = (k : Int) + 1) := by show _ = _; rw [endAt_42 hlt c42, if_neg (fun h => h1 h.1)]
            clear c42
            go_wp2_with fail
            go_meet
            exact ⟨by rw [hE.out], rfl⟩
        · have d42 : (bt p k == 42) = false := by simpa using c42
          by_cases c91 : bt p k = 91
          · have d : (bt p k == 91) = true := by simpa using c91
            have hE : Hid (endAt p k = classEnd p k) := endAt_91 hlt c91
            clear c91 c42
            go_wp2_with (go_at_call 83; refine (refClass_any p _ _ hs2 hlt).mono ?_; rintro e w1 ⟨rfl, rfl⟩)
            go_meet
            exact ⟨by rw [hE.out], rfl⟩
          · have d91 : (bt p k == 91) = false := by simpa using c91
            by_cases c92 : bt p k = 92
            · have d : (bt p k == 92) = true := by simpa using c92
              by_cases h1 : k + 1 < p.size
              · have h1' : (k : Int) + 1 < (p.size : Int) := by omega
                have h1n : ¬ (p.size : Int) < (k : Int) + 2 := by omega
                cases h2 : specialF (bt p (k + 1)) with
                | true =>
                  have hE : Hid (endAt p k = (k : Int) + 2) := by show _ = _; rw [endAt_92 hlt c92, if_pos ⟨h1, h2⟩]
                  clear c92 c91 c42
                  go_wp2_with (go_at_call 84; refine (special_any _ _).mono ?_; rintro e w1 ⟨rfl, rfl⟩)
                  go_meet
                  exact ⟨by rw [hE.out], rfl⟩
                | false =>
                  have hE : Hid (endAt p k = -1) := by show _ = _; rw [endAt_92 hlt c92, if_neg (fun h => by rw [h2] at h; exact absurd h.2 (by simp))]
                  clear c92 c91 c42
                  go_wp2_with (go_at_call 84; refine (special_any _ _).mono ?_; rintro e w1 ⟨rfl, rfl⟩)
                  go_meet
                  exact ⟨by rw [hE.out], rfl⟩
              · have h1n : (p.size : Int) < (k : Int) + 2 := by omega
                have hE : Hid (endAt p k = -1) := by show _ = _; rw [endAt_92 hlt c92, if_neg (fun h => h1 h.1)]
                clear c92 c91 c42
                go_wp2_with fail
                go_meet
                exact ⟨by rw [hE.out], rfl⟩
            · have d92 : (bt p k == 92) = false := by simpa using c92
              by_cases c63 : bt p k = 63
              · have d : (bt p k == 63) = true := by simpa using c63
                have hE : Hid (endAt p k = (k : Int) + 1) := endAt_63 hlt c63
                clear c92 c91 c42 c63
                go_wp2_with fail
                go_meet
                exact ⟨by rw [hE.out], rfl⟩
              · have d63 : (bt p k == 63) = false := by simpa using c63
                have hel := endAt_else hlt c42 c63 c91 c92
                clear c92 c91 c42 c63
                by_cases hb : bt p k < 33 ∨ 126 < bt p k ∨ bt p k = 34 ∨ bt p k = 93
                · have hE : Hid (endAt p k = -1) := by show _ = _; rw [hel, if_pos hb]
                  clear hel
                  have hb' := Lib.hid hb
                  clear hb
                  by_cases q1 : bt p k < 33
                  · go_wp2_with fail
                    go_meet
                    exact ⟨by rw [hE.out], rfl⟩
                  · by_cases q2 : 126 < bt p k
                    · go_wp2_with fail
                      go_meet
                      exact ⟨by rw [hE.out], rfl⟩
                    · by_cases q3 : bt p k = 34
                      · have q3' : (bt p k == 34) = true := by simpa using q3
                        clear q3
                        go_wp2_with fail
                        go_meet
                        exact ⟨by rw [hE.out], rfl⟩
                      · have q3' : (bt p k == 34) = false := by simpa using q3
                        have q4 : (bt p k == 93) = true := by have := hb'.out; simp; omega
                        clear q3
                        go_wp2_with fail
                        go_meet
                        exact ⟨by rw [hE.out], rfl⟩
                · have hE : Hid (endAt p k = (k : Int) + 1) := by show _ = _; rw [hel, if_neg hb]
                  clear hel
                  have q1 : ¬ bt p k < 33 := fun h => hb (.inl h)
                  have q2 : ¬ 126 < bt p k := fun h => hb (.inr (.inl h))
                  have q3 : (bt p k == 34) = false := by simp; omega
                  have q4 : (bt p k == 93) = false := by simp; omega
                  clear hb
                  go_wp2_with fail
                  go_meet
                  exact ⟨by rw [hE.out], rfl⟩
      case rest =>
        obtain ⟨rfl, rfl⟩ := hcut
        have hne : (bytesOf p).drop k ≠ [] := by rw [drop_bt hlt]; simp
        cases hp : partL ((bytesOf p).drop k) with
        | none =>
          have hE : Hid (endAt p k = -1) := by show _ = _; unfold endAt; rw [hp]
          have hF : Hid (partsP (bytesOf p) = none) := by show _ = _; rw [← hC.out, partsP_cons hne, hp]; rfl
          clear hC hp hne
          rw [hE.out]
          go_wp2_with fail
          go_ret2
          refine ⟨?_, hb⟩
          unfold PiecesR
          rw [hF.out]
          rfl
        | some x =>
          obtain ⟨P, r⟩ := x
          obtain ⟨E, e1, e2, e3, e4, e5⟩ := endAt_some hp hk
          have hF : Hid ((partsP ((bytesOf p).drop E)).map ((ps ++ [(bytesOf (p.extract k E), P)]) ++ ·) = partsP (bytesOf p)) := by
            show _ = _
            rw [← hC.out, partsP_cons hne, hp]
            simp only [Option.bind_some]
            rw [← e4, ← e5]
            cases partsP r <;> simp
          have HE := Lib.hid e1
          rw [e1]
          clear hC hp hne e1 e4 e5
          have x1 : (k : Int) ≤ (E : Int) := by omega
          have x2 : (E : Int) ≤ (p.size : Int) := by omega
          have x3 : ¬ (E : Int) < 0 := by omega
          have hbs := hb.size
          go_wp2_with (at_builtin; refine wpList_append_own _ rfl _ _ _ rfl w.heap.size 9 i0 _ 1 16 Tryz.underlying64 hi hz0 hz1 hz2 rfl (by omega) _ ps.length (ls.map Value.string) rfl (hown.out.alloc _) ⟨wr.heap.size, 0, none⟩ 1 1 [.string (p.extract k E)] rfl rfl (cells1 _ _ _ _ (heap_alloc_new _ _)) (by simp [Value.oneCell']) (by unfold maxLen; omega) (by omega) (by simp; omega) ?_; intro v' w1 hown3 hgrow _)
          have hb4 : Below w.heap.size w w1 := (hb.alloc (by omega) _).grown hgrow (by simp; omega) (ownsRow_ge hown.out)
          have hown4 : w1.ownsRow w.heap.size 9 1 v' (ps ++ [(bytesOf (p.extract k E), P)]).length ((ls ++ [p.extract k E]).map Value.string) := by simpa using hown3
          have HO4 := Lib.hid hown4
          have hls4 : Hid ((ls ++ [p.extract k E]).map bytesOf = (ps ++ [(bytesOf (p.extract k E), P)]).map (·.1)) := by show _ = _; rw [List.map_append, List.map_append, hls.out]; rfl
          clear hown3 hgrow hown4 hown hls
          go_wp2_with fail
          go_roundw
          case rel => exact ⟨E, ps ++ [(bytesOf (p.extract k E), P)], ls ++ [p.extract k E], rfl, e3, by simp; omega, by simp; omega, hls4, HO4, hb4, hF⟩
          case measure => simp [intOf]; omega
    · obtain rfl : k = p.size := by omega
      have hF : Hid (partsP (bytesOf p) = some ps) := by
        show _ = _
        rw [← hC.out, drop_end (Nat.le_refl _), partsP_nil]; simp
      clear hC
      obtain ⟨v, hv⟩ : ∃ v, Hid (u4 = v) := ⟨_, rfl⟩
      have hO : Hid (wr.ownsRow w.heap.size 9 1 v ps.length (ls.map Value.string)) := by rw [← hv.out]; exact hown.out
      have hbf : ¬ (p.size : Int) < (p.size : Int) := by omega
      rcases hown.out with ⟨_, (⟨e1, e2⟩ | ⟨g, cap, cur, e1, _⟩)⟩
      · have e3 : ps.length = 0 := e2
        have hd : Hid (decide (0 < ps.length) = false) := by show _ = _; rw [e3]; rfl
        clear hown
        rw [hv.out] at e1
        have hvv : Hid (v = .slice none 0 0) := e1
        have huv : u4 = .slice none 0 0 := by rw [hv.out, e1]
        clear hv e1 e2 e3
        subst huv
        go_wp2_with fail
        go_ret2
        refine ⟨?_, hb⟩
        unfold PiecesR
        rw [hF.out]
        refine ⟨v, ls, ?_, hls.out, hO.out⟩
        rw [hd.out, hvv.out]
        rfl
      · have hvv : Hid (v = .slice (some ⟨g, 0, none⟩) ps.length cap) := by show _ = _; rw [← hv.out]; exact e1
        have huv : u4 = .slice (some ⟨g, 0, none⟩) ps.length cap := e1
        clear hv e1 hown
        subst huv
        have hpl : Hid (decide ((0 : Int) < (ps.length : Int)) = decide (0 < ps.length)) := by show _ = _; rw [decide_eq_decide]; omega
        rcases Nat.eq_zero_or_pos ps.length with h0 | h0
        · have hd : Hid (decide (0 < ps.length) = false) := by show _ = _; rw [h0]; rfl
          have h1 : ¬ (0 : Int) < (ps.length : Int) := by omega
          clear h0
          go_wp2_with fail
          go_ret2
          refine ⟨?_, hb⟩
          unfold PiecesR
          rw [hF.out]
          refine ⟨v, ls, ?_, hls.out, hO.out⟩
          rw [hd.out, hvv.out]
          rfl
        · have hd : Hid (decide (0 < ps.length) = true) := decide_eq_true h0
          have h1 : (0 : Int) < (ps.length : Int) := by omega
          clear h0
          go_wp2_with fail
          go_ret2
          refine ⟨?_, hb⟩
          unfold PiecesR
          rw [hF.out]
          refine ⟨v, ls, ?_, hls.out, hO.out⟩
          rw [hd.out, hvv.out]
          rfl

end Go.Proofs.YtmgngapkgcofnaaGreatDoor
