/- The reference's class: the walk. -/
import Derived.Test.YtmgngapkgcofnaaGreatDoorP11
import Derived.Test.YtmgngapkgcofnaaGreatDoorP08
import Derived.Deep.DeepCutAuto
import Derived.PlainAid
namespace Go.Proofs.YtmgngapkgcofnaaGreatDoor
open Go.RowKit Go.PlainAid

theorem drop_bt {s : ByteArray} {i : Nat} (h : i < s.size) : (bytesOf s).drop i = bt s i :: (bytesOf s).drop (i + 1) := by
  rw [List.drop_eq_getElem_cons (by rw [bytesOf_length]; exact h)]
  congr 1
  simp [bytesOf, bt, h]
  rfl
theorem drop_end {s : ByteArray} {i : Nat} (h : s.size ≤ i) : (bytesOf s).drop i = [] := List.drop_eq_nil_of_le (by rw [bytesOf_length]; exact h)
theorem bytesOf_drop0 (s : ByteArray) : (bytesOf s).drop 0 = bytesOf s := rfl

/-- Where a class ends; below 0: it is none. -/
def classEnd (p : ByteArray) (at_ : Nat) : Int := match classF ((bytesOf p).drop (at_ + 1)) with
  | some (_, r) => (p.size : Int) - r.length
  | none => -1
def endOf (p : ByteArray) : Option (List Int) → Int
  | some r => (p.size : Int) - r.length
  | none => -1
theorem classEnd_eq (p : ByteArray) (k : Nat) : classEnd p k = endOf p ((classF ((bytesOf p).drop (k + 1))).map (·.2)) := by
  unfold classEnd endOf
  cases classF ((bytesOf p).drop (k + 1)) <;> rfl
theorem start_class (p : ByteArray) (k : Nat) : ∃ st, (st = k + 1 ∨ st = k + 2) ∧ (st = k + 2 → k + 1 < p.size ∧ bt p (k + 1) = 33) ∧ (st = k + 1 → k + 1 < p.size → bt p (k + 1) ≠ 33) ∧
    (classL false false ((bytesOf p).drop st) (fun _ => false)).map (·.2) = (classF ((bytesOf p).drop (k + 1))).map (·.2) := by
  by_cases h : k + 1 < p.size
  · by_cases h33 : bt p (k + 1) = 33
    · refine ⟨k + 2, .inr rfl, fun _ => ⟨h, h33⟩, fun e => by omega, ?_⟩
      rw [drop_bt h, h33]
      simp only [classF, Option.map_map]
      rw [classL_rest false true _ false _ _ _ (Nat.le_refl _)]
      rfl
    · refine ⟨k + 1, .inl rfl, fun e => by omega, fun _ _ => h33, ?_⟩
      unfold classF
      split
      · rename_i e; rw [drop_bt h] at e; simp at e; exact (h33 e.1).elim
      · simp only [Option.map_map]; rfl
  · refine ⟨k + 1, .inl rfl, fun e => by omega, fun _ e => (h e).elim, ?_⟩
    rw [drop_end (by omega)]
    rfl

set_option linter.unusedSimpArgs false in
set_option maxRecDepth 100000 in
set_option maxHeartbeats 2000000 in
theorem refClass_any (p : ByteArray) (k : Nat) (w : World) (hp : p.size ≤ 4096) (hk : k < p.size) :
    Calls Tryz.prog 83 #[.string p, .int .i64 k] w fun e w' => e = .returned (.int .i64 (classEnd p k)) ∧ w = w' := by
  have HE := Lib.hid (classEnd_eq p k)
  obtain ⟨st, s0, s1, s2, hst⟩ := start_class p k
  have HS := Lib.hid hst
  clear hst
  have gx := get_bt p
  generalize classEnd p k = RES at *
  go_enter Tryz.func83, Tryz.ntmps83
  go_upto_region 2 with fail
  go_cut [19] (fun v w' => v = .bool (decide (st = k + 2)) ∧ w = w')
  case first =>
    by_cases h : k + 1 < p.size
    · have h' : (k : Int) + 1 < (p.size : Int) := by omega
      have h2 : (0 : Int) ≤ (k : Int) + 1 := by omega
      rcases s0 with rfl | rfl
      · have h3 := s2 rfl h
        have h4 : (bt p (k + 1) == 33) = false := by simpa using h3
        have e : decide (k + 1 = k + 2) = false := by simp
        clear s1 s2 h3
        go_wp2_with fail
        go_meet
        exact ⟨by rw [e], rfl⟩
      · have h3 := (s1 rfl).2
        have e : decide (k + 2 = k + 2) = true := by simp
        clear s1 s2
        go_wp2_with fail
        go_meet
        exact ⟨by rw [e], rfl⟩
    · have h' : ¬ (k : Int) + 1 < (p.size : Int) := by omega
      have e : st = k + 1 := by rcases s0 with h1 | h1; exact h1; exact (h (s1 h1).1).elim
      have e : decide (st = k + 2) = false := by simp; omega
      clear s0 s1 s2
      go_wp2_with fail
      go_meet
      exact ⟨by rw [e], rfl⟩
  case rest =>
  obtain ⟨rfl, rfl⟩ := hcut
  go_upto_if 19 with fail
  go_cut [5] (fun v w' => v = .int .i64 st ∧ w = w')
  case first =>
    rcases s0 with rfl | rfl
    · have e : decide (k + 1 = k + 2) = false := by simp
      rw [e]
      clear s1 s2
      go_wp2_with fail
      go_meet
      exact ⟨by go_num, rfl⟩
    · have e : decide (k + 2 = k + 2) = true := by simp
      rw [e]
      clear s1 s2
      go_wp2_with fail
      go_meet
      exact ⟨by go_num, rfl⟩
  case rest =>
  obtain ⟨rfl, rfl⟩ := hcut
  have hst : st ≤ p.size := by rcases s0 with h | h; omega; have := (s1 h).1; omega
  clear s0 s1 s2
  go_wp2_with fail
  go_loop [5, 6] (fun iv nv => ∃ i n : Nat, iv = .int .i64 i ∧ nv = .int .i64 n ∧ i ≤ p.size ∧ n ≤ i ∧ Hid (RES = endOf p ((classL false (decide (0 < n)) ((bytesOf p).drop i) (fun _ => false)).map (·.2)))) (fun iv _ => p.size - (intOf iv).toNat)
  case atStart => exact ⟨st, 0, rfl, rfl, hst, Nat.zero_le _, by show _ = _; rw [HE.out, ← HS.out]; rfl⟩
  case round =>
    obtain ⟨i, n, rfl, rfl, hi, hn, HR⟩ := hrel
    clear HE HS
    by_cases hlt : i < p.size
    · have hlt' : (i : Int) < (p.size : Int) := by omega
      have hi0 : (0 : Int) ≤ (i : Int) := by omega
      have hd := Lib.hid (drop_bt hlt)
      have b0 := bt_nonneg p i
      have b1 := bt_le p i
      by_cases h93 : bt p i = 93
      · rcases Nat.eq_zero_or_pos n with hn0 | hn0
        · subst hn0
          have hF : Hid (RES = -1) := by show _ = _; rw [HR.out, hd.out, h93]; simp only [Nat.lt_irrefl, decide_false]; rw [classL_bad]; rfl
          have h4 : ((i : Int) == (p.size : Int)) = false := by simp; omega
          clear HR
          go_wp2_with fail
          go_ret
          exact ⟨by rw [hF.out]; rfl, rfl⟩
        · have hF : Hid (RES = (i : Int) + 1) := by
            show _ = _
            rw [HR.out, hd.out, h93, show decide (0 < n) = true from by simpa using hn0, classL_end]
            simp only [Option.map_some, endOf, List.length_drop, bytesOf_length]
            omega
          have h4 : ((i : Int) == (p.size : Int)) = false := by simp; omega
          have h5 : ((n : Int) == 0) = false := by simp; omega
          clear HR
          go_wp2_with fail
          go_ret
          exact ⟨by rw [hF.out]; rfl, rfl⟩
      · have h93' : (bt p i != 93) = true := by simpa using h93
        have h93n : bt p i ≠ 93 := h93
        cases hm : memberF (bt p i) with
        | false =>
          have hF : Hid (RES = -1) := by show _ = _; rw [HR.out, hd.out, classL_not _ _ _ _ h93n hm]; rfl
          clear h93n h93
          clear HR
          go_wp2_with (go_at_call 99; refine (letter_any _ _).mono ?_; rintro e w1 ⟨rfl, rfl⟩)
          go_ret
          exact ⟨by rw [hF.out]; rfl, rfl⟩
        | true =>
          by_cases h1 : i + 1 < p.size
          · have hd1 := Lib.hid (drop_bt h1)
            have h1' : (i : Int) + 1 < (p.size : Int) := by omega
            have c0 := bt_nonneg p (i + 1)
            by_cases h45 : bt p (i + 1) = 45
            · have h45' : (bt p (i + 1) == 45) = true := by simpa using h45
              by_cases h2 : i + 1 + 1 < p.size
              · have hd2 := Lib.hid (drop_bt h2)
                have h2' : (i : Int) + 1 + 1 < (p.size : Int) := by omega
                have h3' : ((i : Int) + 1 + 1 == (p.size : Int)) = false := by simp; omega
                have e0 := bt_nonneg p (i + 1 + 1)
                have e1 := bt_le p (i + 1 + 1)
                cases hz : memberF (bt p (i + 1 + 1)) with
                | false =>
                  have hF : Hid (RES = -1) := by show _ = _; rw [HR.out, hd.out, hd1.out, hd2.out, h45, classL_worse _ _ _ _ h93n hm (.inl hz)]; rfl
                  clear h93n h93 h45
                  clear HR
                  go_wp2_with (go_at_call 99; refine (letter_any _ _).mono ?_; rintro e w1 ⟨rfl, rfl⟩)
                  go_ret
                  exact ⟨by rw [hF.out]; rfl, rfl⟩
                | true =>
                  by_cases hzx : bt p (i + 1 + 1) < bt p i
                  · have hF : Hid (RES = -1) := by show _ = _; rw [HR.out, hd.out, hd1.out, hd2.out, h45, classL_worse _ _ _ _ h93n hm (.inr hzx)]; rfl
                    clear h93n h93 h45
                    clear HR
                    go_wp2_with (go_at_call 99; refine (letter_any _ _).mono ?_; rintro e w1 ⟨rfl, rfl⟩)
                    go_ret
                    exact ⟨by rw [hF.out]; rfl, rfl⟩
                  · have hF : Hid (RES = endOf p ((classL false true ((bytesOf p).drop (i + 3)) (fun _ => false)).map (·.2))) := by
                      show _ = _
                      rw [HR.out, hd.out, hd1.out, hd2.out, h45, classL_span _ _ _ _ h93n hm hz (by omega), classL_rest false false _ true _ _ (fun _ => false) (Nat.le_refl _)]
                    clear HR h93n h93 h45
                    go_wp2_with (go_at_call 99; refine (letter_any _ _).mono ?_; rintro e w1 ⟨rfl, rfl⟩)
                    go_round
                    case rel => exact ⟨i + 3, n + 1, by go_num, by go_num, by omega, by omega, by rw [show decide (0 < n + 1) = true from by simp]; exact hF⟩
                    case measure => simp [intOf]; omega
              · have h3' : ((i : Int) + 1 + 1 == (p.size : Int)) = true := by simp; omega
                have hF : Hid (RES = -1) := by
                  show _ = _
                  rw [HR.out, hd.out, hd1.out, h45, drop_end (by omega), classL_two _ _ _ h93n hm, classL_last _ _ _ (by decide)]; rfl
                clear h93n h93 h45
                clear HR
                go_wp2_with (go_at_call 99; refine (letter_any _ _).mono ?_; rintro e w1 ⟨rfl, rfl⟩)
                go_ret
                exact ⟨by rw [hF.out]; rfl, rfl⟩
            · have h45' : (bt p (i + 1) == 45) = false := by simpa using h45
              have hF : Hid (RES = endOf p ((classL false true ((bytesOf p).drop (i + 1)) (fun _ => false)).map (·.2))) := by
                show _ = _
                rw [HR.out, hd.out, classL_go _ _ _ _ h93n hm (fun z r e => by rw [hd1.out] at e; simp at e; exact h45 e.1), classL_rest false false _ true _ _ (fun _ => false) (Nat.le_refl _)]
              clear HR h93n h93 h45
              go_wp2_with (go_at_call 99; refine (letter_any _ _).mono ?_; rintro e w1 ⟨rfl, rfl⟩)
              go_round
              case rel => exact ⟨i + 1, n + 1, by go_num, by go_num, by omega, by omega, by rw [show decide (0 < n + 1) = true from by simp]; exact hF⟩
              case measure => simp [intOf]; omega
          · have h1' : ¬ (i : Int) + 1 < (p.size : Int) := by omega
            have hF : Hid (RES = endOf p ((classL false true ((bytesOf p).drop (i + 1)) (fun _ => false)).map (·.2))) := by
              show _ = _
              rw [HR.out, hd.out, drop_end (by omega), classL_last _ _ _ h93n]; rfl
            clear HR h93n h93
            go_wp2_with (go_at_call 99; refine (letter_any _ _).mono ?_; rintro e w1 ⟨rfl, rfl⟩)
            go_round
            case rel => exact ⟨i + 1, n + 1, by go_num, by go_num, by omega, by omega, by rw [show decide (0 < n + 1) = true from by simp]; exact hF⟩
            case measure => simp [intOf]; omega
    · obtain rfl : i = p.size := by omega
      have hF : Hid (RES = -1) := by show _ = _; rw [HR.out, drop_end (Nat.le_refl _)]; rfl
      have h4 : ((p.size : Int) == (p.size : Int)) = true := by simp
      clear HR
      go_wp2_with fail
      go_ret
      exact ⟨by rw [hF.out]; rfl, rfl⟩

end Go.Proofs.YtmgngapkgcofnaaGreatDoor
