/- The law TopAddr: the walk. -/
import Derived.Test.YtmgngapkgcofnabDoorTopAddrLaw
namespace Go.Proofs.YtmgngapkgcofnabDoor
open Go.RowKit Go.PlainAid

theorem text_len {x : NetD} (hok : x.ok) (hf : netF x = 0) : (textN x).length ≤ 1000000 := by
  have hs := parts_small hok hf
  have key : ∀ (cs : List UInt8) (ks : List Nat), (∀ k ∈ ks, k ≤ 70000) → (joinT cs ks).length ≤ 6 * (ks.length + 1) := by
    intro cs
    induction cs with
    | nil =>
      intro ks hk
      match ks with
      | [] => simp [joinT]
      | [k] =>
        have := nDigits_le5 (u := k) (by have := hk k (by simp); omega)
        simp only [joinT, Lib.decDigits_length, List.length_cons, List.length_nil]; omega
      | _ :: _ :: _ => simp [joinT]
    | cons c cs ih =>
      intro ks hk
      match ks with
      | [] => simp [joinT]
      | k :: ks =>
        have h1 := nDigits_le5 (u := k) (by have := hk k (by simp); omega)
        have h2 := ih ks (fun y hy => hk y (by simp [hy]))
        simp only [joinT, List.length_append, Lib.decDigits_length, List.length_cons]; omega
  have := key sepsN (partsN x) hs
  have e : (partsN x).length = 7 := rfl
  unfold textN
  omega
set_option linter.unusedSimpArgs false in
set_option maxRecDepth 100000 in
set_option maxHeartbeats 8000000 in
theorem topAddr_walk (x : NetD) (ip : Nat) (port : Int) (w : World) (hok : x.ok) (hip : ip < 4294967296) (htab : Lib.TabIs Tryd.prog w "internal/strconv.uint64pow10" .u64 Lib.pow10Tab) :
    Calls Tryd.prog 3 #[x.v, .int .u32 ip, .int .i64 port] w fun e w' => e = .returned (.bool true) ∧ Below w.heap.size w w' := by
  have HTB := Lib.hid (tab_below htab)
  have HIP := Lib.hid hip
  clear htab
  have HTX : Hid (∀ W, Below w.heap.size w W → Calls Tryd.prog 7 #[x.v] W fun e w' => e = .returned (.tuple #[.string ⟨(if netF x = 0 then textN x else []).toArray⟩, errV (netF x)]) ∧ Below W.heap.size W w') := fun W hb => text_any x W hok (HTB.out W hb)
  have HHA : Hid (∀ w, Calls Tryd.prog 8 #[x.v, .int .u32 ip, .int .i64 port] w fun e w' => e = .returned (.bool (hasN x ip port)) ∧ Below w.heap.size w w') := fun w => has_any x ip port w hok hip
  have HBYT : Hid (∀ w, Calls Tryd.prog 5 #[.int .u32 ip, .int .i64 port] w fun e w' => e = .returned (if port < 0 ∨ 65535 < port then .tuple #[.string ⟨#[]⟩, .iface 64 (.int .i64 1)] else .tuple #[.string ⟨(bytesA ip port.toNat).toArray⟩, .nilIface]) ∧ Below w.heap.size w w') := fun w => bytes_any ip port w hip
  have hi32 := hok.1
  obtain ⟨xip, xb, xlo, xhi⟩ := x
  simp only at hi32
  obtain ⟨xp, rfl⟩ : ∃ p : Nat, xip = p := ⟨xip.toNat, by omega⟩
  have HC4 := Lib.hid (box_cells w (.int .u32 (xp : Int)) (.int .i64 xb) (.int .i64 xlo) (.int .i64 xhi) 24)
  have HAB := Lib.hid (box_below w (.cells #[.int .u32 (xp : Int), .int .i64 xb, .int .i64 xlo, .int .i64 xhi] 24))
  unfold NetD.v at *
  simp only at *
  by_cases hp : port < 0 ∨ 65535 < port
  · have HBY2 : Hid (∀ w, Calls Tryd.prog 5 #[.int .u32 ip, .int .i64 port] w fun e w' => e = .returned (.tuple #[.string ⟨#[]⟩, .iface 64 (.int .i64 1)]) ∧ Below w.heap.size w w') := by
      have := HBYT.out
      rw [if_pos hp] at this
      exact this
    clear HBYT hp
    go_enter Tryd.func3, Tryd.ntmps3
    go_upto_region 6 with (go_at_call 5; refine cargs (by simp [Act.eval]) ((HBY2.out _).mono ?_); rintro e w2 ⟨rfl, hb2⟩; have HB2 := Lib.hid hb2; clear hb2)
    obtain ⟨c0, c1, c2, c3⟩ := HC4.out w2 HB2.out
    by_cases hf : netF ⟨xp, xb, xlo, xhi⟩ = 0
    · obtain ⟨q1, q2, q3, q4, q5, q6⟩ := netF_zero hf
      simp only at q1 q2 q3 q4 q5 q6
      obtain ⟨xn, rfl⟩ : ∃ n : Nat, xb = n := ⟨xb.toNat, by omega⟩
      simp only [Int.toNat_natCast] at q6
      have HTX2 : Hid (∀ W, Below w.heap.size w W → Calls Tryd.prog 7 #[.agg #[.int .u32 (xp : Int), .int .i64 (xn : Int), .int .i64 xlo, .int .i64 xhi]] W fun e w' => e = .returned (.tuple #[.string ⟨(textN ⟨xp, xn, xlo, xhi⟩).toArray⟩, .nilIface]) ∧ Below W.heap.size W w') := fun W hb => by
        have := HTX.out W hb
        rw [if_pos hf, hf] at this; exact this
      have htl : (textN ⟨xp, xn, xlo, xhi⟩).length ≤ 1000000 := text_len hok hf
      have HPA2 : Hid (∀ w, Calls Tryd.prog 9 #[.string ⟨(textN ⟨xp, xn, xlo, xhi⟩).toArray⟩] w fun e w' => e = .returned (.tuple #[.agg #[.int .u32 (xp : Int), .int .i64 (xn : Int), .int .i64 xlo, .int .i64 xhi], .nilIface]) ∧ Below w.heap.size w w') := fun w => (parse_any ⟨(textN ⟨xp, xn, xlo, xhi⟩).toArray⟩ w (by rw [bsz]; exact htl)).mono fun e w' ⟨r', h1, h2, h3⟩ => by
        have hr' : r' = some ⟨xp, xn, xlo, xhi⟩ := ReadN.same h1 (show ReadN _ (some _) from ⟨hok, hf, rfl⟩)
        subst hr'
        exact ⟨h2, h3⟩
      have HA1 : Hid (∀ w, Calls Tryd.prog 8 #[.agg #[.int .u32 (xp : Int), .int .i64 (xn : Int), .int .i64 xlo, .int .i64 xhi], .int .u32 (xp : Int), .int .i64 xlo] w fun e w' => e = .returned (.bool true) ∧ Below w.heap.size w w') := fun w => by
        have := has_any ⟨xp, xn, xlo, xhi⟩ xp xlo w hok (by have := hok.1; simp only at this; omega)
        have h2 := has_own hok hf xlo (Int.le_refl _) (by simp only; omega)
        simp only [Int.toNat_natCast] at h2
        rw [h2] at this; exact this
      have HA2 : Hid (∀ w, Calls Tryd.prog 8 #[.agg #[.int .u32 (xp : Int), .int .i64 (xn : Int), .int .i64 xlo, .int .i64 xhi], .int .u32 (xp : Int), .int .i64 xhi] w fun e w' => e = .returned (.bool true) ∧ Below w.heap.size w w') := fun w => by
        have := has_any ⟨xp, xn, xlo, xhi⟩ xp xhi w hok (by have := hok.1; simp only at this; omega)
        have h2 := has_own hok hf xhi (by simp only; omega) (Int.le_refl _)
        simp only [Int.toNat_natCast] at h2
        rw [h2] at this; exact this
      go_upto_region 10 with (first
        | (go_at_call 7; refine cargs (by simp [Act.eval]) ((HTX2.out _ (HAB.out _ HB2.out)).mono ?_); rintro e w3 ⟨rfl, hb3⟩; have HB3 := Lib.hid (HB2.out.trans (hb3.mono HB2.out.size)); clear hb3)
        | (go_at_call 9; refine cargs (by simp [Act.eval]) ((HPA2.out _).mono ?_); rintro e w4 ⟨rfl, hb4⟩; have HB4 := Lib.hid (HB3.out.trans (hb4.mono HB3.out.size)); clear hb4))
      obtain ⟨m0, m1, m2, m3⟩ := box_cells w4 (.int .u32 (xp : Int)) (.int .i64 (xn : Int)) (.int .i64 xlo) (.int .i64 xhi) 24 _ (Below.refl _ _)
      have HB5 : Hid (Below (w.alloc (.cells #[.int .u32 (xp : Int), .int .i64 (xn : Int), .int .i64 xlo, .int .i64 xhi] 24)).heap.size (w.alloc (.cells #[.int .u32 (xp : Int), .int .i64 (xn : Int), .int .i64 xlo, .int .i64 xhi] 24)) (w4.alloc (.cells #[.int .u32 (xp : Int), .int .i64 (xn : Int), .int .i64 xlo, .int .i64 xhi] 24))) := HB4.out.alloc HB4.out.size _
      obtain ⟨d0, d1, d2, d3⟩ := HC4.out _ HB5.out
      generalize w4.alloc (.cells #[.int .u32 (xp : Int), .int .i64 (xn : Int), .int .i64 xlo, .int .i64 xhi] 24) = W5 at *
      go_upto_region 12 with (first
        | (go_at_call 8; refine cargs (by first | (simp [Act.eval]; done) | fail) ((HA1.out _).mono ?_); rintro e w6 ⟨rfl, hb6⟩; have HB6 := Lib.hid (HB5.out.trans (hb6.mono HB5.out.size)); obtain ⟨f0, f1, f2, f3⟩ := HC4.out w6 HB6.out; clear hb6)
        | (go_at_call 8; refine cargs (by first | (simp [Act.eval]; done) | fail) ((HA2.out _).mono ?_); rintro e w7 ⟨rfl, hb7⟩; have HB7 := Lib.hid (HB6.out.trans (hb7.mono HB6.out.size)); obtain ⟨g0, g1, g2, g3⟩ := HC4.out w7 HB7.out; clear hb7))
      clear m0 m1 m2 m3 d0 d1 d2 d3 f0 f1 f2 f3 c0 c1 c2 c3 HA1 HA2 HPA2 HTX2 htl
      by_cases hz : xn = 0
      · subst hz
        go_wp2_with fail
        go_returns
        exact ⟨rfl, HAB.out _ HB7.out⟩
      · have hz' : ¬ (xn : Int) = 0 := by omega
        have hz2 : ((xn : Int) == 0) = false := by simp; omega
        have hwok := wide_ok hok hf (by simp only; omega)
        have hwF := wide_F hok hf (by simp only; omega)
        have HWH : Hid (hasN ⟨xp, xn, xlo, xhi⟩ ip port = true → hasN (wideN ⟨xp, xn, xlo, xhi⟩) ip port = true) := wide_has hf hok (by simp only; omega) ip port
        obtain ⟨V, HV⟩ : ∃ V : Nat, Hid (V = xp / 2 ^ (33 - xn) * 2 ^ (33 - xn)) := ⟨_, rfl⟩
        have HWV : Hid ((wideN ⟨xp, xn, xlo, xhi⟩).v = .agg #[.int .u32 (V : Int), .int .i64 ((xn : Int) - 1), .int .i64 xlo, .int .i64 xhi]) := by
          show _ = _
          rw [HV.out]; rfl
        have HCK2 : Hid (∀ w, Calls Tryd.prog 10 #[.agg #[.int .u32 (V : Int), .int .i64 ((xn : Int) - 1), .int .i64 xlo, .int .i64 xhi]] w fun e' w' => e' = .returned .nilIface ∧ Below w.heap.size w w') := fun w => by
          have := netCheck_any (wideN ⟨xp, xn, xlo, xhi⟩) w hwok
          rw [hwF, HWV.out] at this; exact this
        have HHW : Hid (∀ w, Calls Tryd.prog 8 #[.agg #[.int .u32 (V : Int), .int .i64 ((xn : Int) - 1), .int .i64 xlo, .int .i64 xhi], .int .u32 ip, .int .i64 port] w fun e w' => e = .returned (.bool (hasN (wideN ⟨xp, xn, xlo, xhi⟩) ip port)) ∧ Below w.heap.size w w') := fun w => by
          have := has_any (wideN ⟨xp, xn, xlo, xhi⟩) ip port w hwok HIP.out
          rw [HWV.out] at this; exact this
        have hand : bits .andNot .u32 (xp : Int) ((2 ^ (32 - xn) : Nat) : Int) = (V : Int) := by
          rw [andNot_bit xp (32 - xn) (by have := hok.1; simp only at this; omega) (by omega) (by simpa using q6), HV.out, show 32 - xn + 1 = 33 - xn from by omega]
        have hsh : (0 : Int) ≤ 32 - (xn : Int) := by omega
        generalize hasN (wideN ⟨xp, xn, xlo, xhi⟩) ip port = HW at *
        have hwb : wrap64 ((xn : Int) - 1) = (xn : Int) - 1 := IntWalk.wrap64_in _ (by omega)
        have ka0 := fun o => (HC4.out _ (HB7.out.alloc HB7.out.size o)).1
        have ka1 := fun o => (HC4.out _ (HB7.out.alloc HB7.out.size o)).2.1
        have ka2 := fun o => (HC4.out _ (HB7.out.alloc HB7.out.size o)).2.2.1
        have ka3 := fun o => (HC4.out _ (HB7.out.alloc HB7.out.size o)).2.2.2
        go_upto_region 16 with fail
        have hand2 : bits .andNot .u32 (xp : Int) ((2 : Int) ^ (32 - xn) % 4294967296) = (V : Int) := by
          rw [← hand]
          congr 1
          have h1 := pow_le32 (31 - (xn - 1)) (by omega)
          have h2 : 2 ^ (32 - xn) ≤ 2 ^ 31 := Nat.pow_le_pow_right (by omega) (by omega)
          have h3 : ((2 ^ (32 - xn) : Nat) : Int) = (2 : Int) ^ (32 - xn) := by simp
          rw [← h3]
          have h4 : (2 : Nat) ^ 31 = 2147483648 := by decide
          omega
        have HWC := Lib.hid (box_cells w7 (.int .u32 (V : Int)) (.int .i64 ((xn : Int) - 1)) (.int .i64 xlo) (.int .i64 xhi) 24)
        go_region
        all_goals
          have HB8 : Hid (Below (w.alloc (.cells #[.int .u32 (xp : Int), .int .i64 (xn : Int), .int .i64 xlo, .int .i64 xhi] 24)).heap.size (w.alloc (.cells #[.int .u32 (xp : Int), .int .i64 (xn : Int), .int .i64 xlo, .int .i64 xhi] 24)) (w7.alloc (.cells #[.int .u32 (V : Int), .int .i64 ((xn : Int) - 1), .int .i64 xlo, .int .i64 xhi] 24)).drew) := (HB7.out.alloc HB7.out.size _).drew
          have HD8 : Hid (Below (w7.alloc (.cells #[.int .u32 (V : Int), .int .i64 ((xn : Int) - 1), .int .i64 xlo, .int .i64 xhi] 24)).heap.size (w7.alloc (.cells #[.int .u32 (V : Int), .int .i64 ((xn : Int) - 1), .int .i64 xlo, .int .i64 xhi] 24)) (w7.alloc (.cells #[.int .u32 (V : Int), .int .i64 ((xn : Int) - 1), .int .i64 xlo, .int .i64 xhi] 24)).drew) := (Below.refl _ _).drew
          generalize (w7.alloc (.cells #[.int .u32 (V : Int), .int .i64 ((xn : Int) - 1), .int .i64 xlo, .int .i64 xhi] 24)).drew = W8 at *
          obtain ⟨a0, a1, a2, a3⟩ := HC4.out W8 HB8.out
          obtain ⟨b0, b1, b2, b3⟩ := HWC.out W8 HD8.out
          clear ka0 ka1 ka2 ka3 hand hand2 hsh hwb
          cases hH : hasN ⟨xp, xn, xlo, xhi⟩ ip port with
          | false =>
            have HHA2 : Hid (∀ w, Calls Tryd.prog 8 #[.agg #[.int .u32 (xp : Int), .int .i64 (xn : Int), .int .i64 xlo, .int .i64 xhi], .int .u32 ip, .int .i64 port] w fun e w' => e = .returned (.bool false) ∧ Below w.heap.size w w') := fun w => by
              have := HHA.out w
              rw [hH] at this; exact this
            clear HHA HHW hH
            go_wp2_with (first
              | (go_at_call 10; refine cargs (by simp [Act.eval]) ((HCK2.out _).mono ?_); rintro e w9 ⟨rfl, hb9⟩; have HB9 := Lib.hid (HB8.out.trans (hb9.mono HB8.out.size)); obtain ⟨e0, e1, e2, e3⟩ := HC4.out w9 HB9.out; clear hb9)
              | (go_at_call 8; refine cargs (by first | (simp [Act.eval]; done) | fail) ((HHA2.out _).mono ?_); rintro e wa ⟨rfl, hba⟩; have HBA := Lib.hid (HB9.out.trans (hba.mono HB9.out.size)); clear hba))
            go_returns
            exact ⟨rfl, HAB.out _ HBA.out⟩
          | true =>
            have HHA2 : Hid (∀ w, Calls Tryd.prog 8 #[.agg #[.int .u32 (xp : Int), .int .i64 (xn : Int), .int .i64 xlo, .int .i64 xhi], .int .u32 ip, .int .i64 port] w fun e w' => e = .returned (.bool true) ∧ Below w.heap.size w w') := fun w => by
              have := HHA.out w
              rw [hH] at this; exact this
            rw [HWH.out hH] at HHW
            clear HHA hH HWH
            go_wp2_with (first
              | (go_at_call 10; refine cargs (by simp [Act.eval]) ((HCK2.out _).mono ?_); rintro e w9 ⟨rfl, hb9⟩; have HB9 := Lib.hid (HB8.out.trans (hb9.mono HB8.out.size)); have HD9 := Lib.hid (HD8.out.trans (hb9.mono HD8.out.size)); obtain ⟨e0, e1, e2, e3⟩ := HC4.out w9 HB9.out; clear hb9)
              | (go_at_call 8; refine cargs (by first | (simp [Act.eval]; done) | fail) ((HHA2.out _).mono ?_); rintro e wa ⟨rfl, hba⟩; have HBA := Lib.hid (HB9.out.trans (hba.mono HB9.out.size)); obtain ⟨i0, i1, i2, i3⟩ := HWC.out wa (HD9.out.trans (hba.mono HD9.out.size)); clear hba)
              | (go_at_call 8; refine cargs (by first | (simp [Act.eval]; done) | fail) ((HHW.out _).mono ?_); rintro e wb ⟨rfl, hbb⟩; have HBB := Lib.hid (HBA.out.trans (hbb.mono HBA.out.size)); clear hbb))
            go_returns
            exact ⟨rfl, HAB.out _ HBB.out⟩
    · have HF : Hid (hasN ⟨xp, xb, xlo, xhi⟩ ip port = false) := by show _ = _; unfold hasN; rw [decide_eq_false hf]; rfl
      have HTX2 : Hid (∀ W, Below w.heap.size w W → Calls Tryd.prog 7 #[.agg #[.int .u32 (xp : Int), .int .i64 xb, .int .i64 xlo, .int .i64 xhi]] W fun e w' => e = .returned (.tuple #[.string ⟨#[]⟩, .iface 64 (.int .i64 (netF ⟨xp, xb, xlo, xhi⟩))]) ∧ Below W.heap.size W w') := fun W hb => by
        have := HTX.out W hb
        rw [if_neg hf, errV_pos hf] at this; exact this
      have HHA2 : Hid (∀ w, Calls Tryd.prog 8 #[.agg #[.int .u32 (xp : Int), .int .i64 xb, .int .i64 xlo, .int .i64 xhi], .int .u32 ip, .int .i64 port] w fun e w' => e = .returned (.bool false) ∧ Below w.heap.size w w') := fun w => by
        have := HHA.out w
        rw [HF.out] at this; exact this
      generalize netF ⟨xp, xb, xlo, xhi⟩ = nf at *
      clear HF hf HHA HTX
      go_wp2_with (first
        | (go_at_call 7; refine cargs (by simp [Act.eval]) ((HTX2.out _ (HAB.out _ HB2.out)).mono ?_); rintro e w3 ⟨rfl, hb3⟩; have HB3 := Lib.hid (HB2.out.trans (hb3.mono HB2.out.size)); obtain ⟨d0, d1, d2, d3⟩ := HC4.out w3 HB3.out; clear hb3)
        | (go_at_call 8; refine cargs (by simp [Act.eval]) ((HHA2.out _).mono ?_); rintro e w4 ⟨rfl, hb4⟩; have HB4 := Lib.hid (HB3.out.trans (hb4.mono HB3.out.size)); clear hb4))
      go_returns
      exact ⟨rfl, HAB.out _ HB4.out⟩
  · obtain ⟨pn, rfl⟩ : ∃ p : Nat, port = p := ⟨port.toNat, by omega⟩
    have HBY2 : Hid (∀ w, Calls Tryd.prog 5 #[.int .u32 ip, .int .i64 (pn : Int)] w fun e w' => e = .returned (.tuple #[.string ⟨(bytesA ip pn).toArray⟩, .nilIface]) ∧ Below w.heap.size w w') := by
      have := HBYT.out
      rw [if_neg hp, Int.toNat_natCast] at this
      exact this
    have HRD2 : Hid (∀ w, Calls Tryd.prog 6 #[.string ⟨(bytesA ip pn).toArray⟩] w fun e w' => e = .returned (.tuple #[.int .u32 ip, .int .i64 (pn : Int), .nilIface]) ∧ Below w.heap.size w w') := fun w => by
      have := read_any ⟨(bytesA ip pn).toArray⟩ w
      rw [readA_bytes ip pn hip (by omega)] at this
      exact this
    generalize bytesA ip pn = X at *
    clear HBYT hp
    go_enter Tryd.func3, Tryd.ntmps3
    go_upto_region 6 with (first
      | (go_at_call 5; refine cargs (by simp [Act.eval]) ((HBY2.out _).mono ?_); rintro e w1 ⟨rfl, hb1⟩; have HB1 := Lib.hid hb1; clear hb1)
      | (go_at_call 6; refine cargs (by simp [Act.eval]) ((HRD2.out _).mono ?_); rintro e w2 ⟨rfl, hb2⟩; have HB2 := Lib.hid (HB1.out.trans (hb2.mono HB1.out.size)); clear hb2))
    obtain ⟨c0, c1, c2, c3⟩ := HC4.out w2 HB2.out
    by_cases hf : netF ⟨xp, xb, xlo, xhi⟩ = 0
    · obtain ⟨q1, q2, q3, q4, q5, q6⟩ := netF_zero hf
      simp only at q1 q2 q3 q4 q5 q6
      obtain ⟨xn, rfl⟩ : ∃ n : Nat, xb = n := ⟨xb.toNat, by omega⟩
      simp only [Int.toNat_natCast] at q6
      have HTX2 : Hid (∀ W, Below w.heap.size w W → Calls Tryd.prog 7 #[.agg #[.int .u32 (xp : Int), .int .i64 (xn : Int), .int .i64 xlo, .int .i64 xhi]] W fun e w' => e = .returned (.tuple #[.string ⟨(textN ⟨xp, xn, xlo, xhi⟩).toArray⟩, .nilIface]) ∧ Below W.heap.size W w') := fun W hb => by
        have := HTX.out W hb
        rw [if_pos hf, hf] at this; exact this
      have htl : (textN ⟨xp, xn, xlo, xhi⟩).length ≤ 1000000 := text_len hok hf
      have HPA2 : Hid (∀ w, Calls Tryd.prog 9 #[.string ⟨(textN ⟨xp, xn, xlo, xhi⟩).toArray⟩] w fun e w' => e = .returned (.tuple #[.agg #[.int .u32 (xp : Int), .int .i64 (xn : Int), .int .i64 xlo, .int .i64 xhi], .nilIface]) ∧ Below w.heap.size w w') := fun w => (parse_any ⟨(textN ⟨xp, xn, xlo, xhi⟩).toArray⟩ w (by rw [bsz]; exact htl)).mono fun e w' ⟨r', h1, h2, h3⟩ => by
        have hr' : r' = some ⟨xp, xn, xlo, xhi⟩ := ReadN.same h1 (show ReadN _ (some _) from ⟨hok, hf, rfl⟩)
        subst hr'
        exact ⟨h2, h3⟩
      have HA1 : Hid (∀ w, Calls Tryd.prog 8 #[.agg #[.int .u32 (xp : Int), .int .i64 (xn : Int), .int .i64 xlo, .int .i64 xhi], .int .u32 (xp : Int), .int .i64 xlo] w fun e w' => e = .returned (.bool true) ∧ Below w.heap.size w w') := fun w => by
        have := has_any ⟨xp, xn, xlo, xhi⟩ xp xlo w hok (by have := hok.1; simp only at this; omega)
        have h2 := has_own hok hf xlo (Int.le_refl _) (by simp only; omega)
        simp only [Int.toNat_natCast] at h2
        rw [h2] at this; exact this
      have HA2 : Hid (∀ w, Calls Tryd.prog 8 #[.agg #[.int .u32 (xp : Int), .int .i64 (xn : Int), .int .i64 xlo, .int .i64 xhi], .int .u32 (xp : Int), .int .i64 xhi] w fun e w' => e = .returned (.bool true) ∧ Below w.heap.size w w') := fun w => by
        have := has_any ⟨xp, xn, xlo, xhi⟩ xp xhi w hok (by have := hok.1; simp only at this; omega)
        have h2 := has_own hok hf xhi (by simp only; omega) (Int.le_refl _)
        simp only [Int.toNat_natCast] at h2
        rw [h2] at this; exact this
      go_upto_region 10 with (first
        | (go_at_call 7; refine cargs (by simp [Act.eval]) ((HTX2.out _ (HAB.out _ HB2.out)).mono ?_); rintro e w3 ⟨rfl, hb3⟩; have HB3 := Lib.hid (HB2.out.trans (hb3.mono HB2.out.size)); clear hb3)
        | (go_at_call 9; refine cargs (by simp [Act.eval]) ((HPA2.out _).mono ?_); rintro e w4 ⟨rfl, hb4⟩; have HB4 := Lib.hid (HB3.out.trans (hb4.mono HB3.out.size)); clear hb4))
      obtain ⟨m0, m1, m2, m3⟩ := box_cells w4 (.int .u32 (xp : Int)) (.int .i64 (xn : Int)) (.int .i64 xlo) (.int .i64 xhi) 24 _ (Below.refl _ _)
      have HB5 : Hid (Below (w.alloc (.cells #[.int .u32 (xp : Int), .int .i64 (xn : Int), .int .i64 xlo, .int .i64 xhi] 24)).heap.size (w.alloc (.cells #[.int .u32 (xp : Int), .int .i64 (xn : Int), .int .i64 xlo, .int .i64 xhi] 24)) (w4.alloc (.cells #[.int .u32 (xp : Int), .int .i64 (xn : Int), .int .i64 xlo, .int .i64 xhi] 24))) := HB4.out.alloc HB4.out.size _
      obtain ⟨d0, d1, d2, d3⟩ := HC4.out _ HB5.out
      generalize w4.alloc (.cells #[.int .u32 (xp : Int), .int .i64 (xn : Int), .int .i64 xlo, .int .i64 xhi] 24) = W5 at *
      go_upto_region 12 with (first
        | (go_at_call 8; refine cargs (by first | (simp [Act.eval]; done) | fail) ((HA1.out _).mono ?_); rintro e w6 ⟨rfl, hb6⟩; have HB6 := Lib.hid (HB5.out.trans (hb6.mono HB5.out.size)); obtain ⟨f0, f1, f2, f3⟩ := HC4.out w6 HB6.out; clear hb6)
        | (go_at_call 8; refine cargs (by first | (simp [Act.eval]; done) | fail) ((HA2.out _).mono ?_); rintro e w7 ⟨rfl, hb7⟩; have HB7 := Lib.hid (HB6.out.trans (hb7.mono HB6.out.size)); obtain ⟨g0, g1, g2, g3⟩ := HC4.out w7 HB7.out; clear hb7))
      clear m0 m1 m2 m3 d0 d1 d2 d3 f0 f1 f2 f3 c0 c1 c2 c3 HA1 HA2 HPA2 HTX2 htl
      by_cases hz : xn = 0
      · subst hz
        go_wp2_with fail
        go_returns
        exact ⟨rfl, HAB.out _ HB7.out⟩
      · have hz' : ¬ (xn : Int) = 0 := by omega
        have hz2 : ((xn : Int) == 0) = false := by simp; omega
        have hwok := wide_ok hok hf (by simp only; omega)
        have hwF := wide_F hok hf (by simp only; omega)
        have HWH : Hid (hasN ⟨xp, xn, xlo, xhi⟩ ip (pn : Int) = true → hasN (wideN ⟨xp, xn, xlo, xhi⟩) ip (pn : Int) = true) := wide_has hf hok (by simp only; omega) ip (pn : Int)
        obtain ⟨V, HV⟩ : ∃ V : Nat, Hid (V = xp / 2 ^ (33 - xn) * 2 ^ (33 - xn)) := ⟨_, rfl⟩
        have HWV : Hid ((wideN ⟨xp, xn, xlo, xhi⟩).v = .agg #[.int .u32 (V : Int), .int .i64 ((xn : Int) - 1), .int .i64 xlo, .int .i64 xhi]) := by
          show _ = _
          rw [HV.out]; rfl
        have HCK2 : Hid (∀ w, Calls Tryd.prog 10 #[.agg #[.int .u32 (V : Int), .int .i64 ((xn : Int) - 1), .int .i64 xlo, .int .i64 xhi]] w fun e' w' => e' = .returned .nilIface ∧ Below w.heap.size w w') := fun w => by
          have := netCheck_any (wideN ⟨xp, xn, xlo, xhi⟩) w hwok
          rw [hwF, HWV.out] at this; exact this
        have HHW : Hid (∀ w, Calls Tryd.prog 8 #[.agg #[.int .u32 (V : Int), .int .i64 ((xn : Int) - 1), .int .i64 xlo, .int .i64 xhi], .int .u32 ip, .int .i64 (pn : Int)] w fun e w' => e = .returned (.bool (hasN (wideN ⟨xp, xn, xlo, xhi⟩) ip (pn : Int))) ∧ Below w.heap.size w w') := fun w => by
          have := has_any (wideN ⟨xp, xn, xlo, xhi⟩) ip (pn : Int) w hwok HIP.out
          rw [HWV.out] at this; exact this
        have hand : bits .andNot .u32 (xp : Int) ((2 ^ (32 - xn) : Nat) : Int) = (V : Int) := by
          rw [andNot_bit xp (32 - xn) (by have := hok.1; simp only at this; omega) (by omega) (by simpa using q6), HV.out, show 32 - xn + 1 = 33 - xn from by omega]
        have hsh : (0 : Int) ≤ 32 - (xn : Int) := by omega
        generalize hasN (wideN ⟨xp, xn, xlo, xhi⟩) ip (pn : Int) = HW at *
        have hwb : wrap64 ((xn : Int) - 1) = (xn : Int) - 1 := IntWalk.wrap64_in _ (by omega)
        have ka0 := fun o => (HC4.out _ (HB7.out.alloc HB7.out.size o)).1
        have ka1 := fun o => (HC4.out _ (HB7.out.alloc HB7.out.size o)).2.1
        have ka2 := fun o => (HC4.out _ (HB7.out.alloc HB7.out.size o)).2.2.1
        have ka3 := fun o => (HC4.out _ (HB7.out.alloc HB7.out.size o)).2.2.2
        go_upto_region 16 with fail
        have hand2 : bits .andNot .u32 (xp : Int) ((2 : Int) ^ (32 - xn) % 4294967296) = (V : Int) := by
          rw [← hand]
          congr 1
          have h1 := pow_le32 (31 - (xn - 1)) (by omega)
          have h2 : 2 ^ (32 - xn) ≤ 2 ^ 31 := Nat.pow_le_pow_right (by omega) (by omega)
          have h3 : ((2 ^ (32 - xn) : Nat) : Int) = (2 : Int) ^ (32 - xn) := by simp
          rw [← h3]
          have h4 : (2 : Nat) ^ 31 = 2147483648 := by decide
          omega
        have HWC := Lib.hid (box_cells w7 (.int .u32 (V : Int)) (.int .i64 ((xn : Int) - 1)) (.int .i64 xlo) (.int .i64 xhi) 24)
        go_region
        all_goals
          have HB8 : Hid (Below (w.alloc (.cells #[.int .u32 (xp : Int), .int .i64 (xn : Int), .int .i64 xlo, .int .i64 xhi] 24)).heap.size (w.alloc (.cells #[.int .u32 (xp : Int), .int .i64 (xn : Int), .int .i64 xlo, .int .i64 xhi] 24)) (w7.alloc (.cells #[.int .u32 (V : Int), .int .i64 ((xn : Int) - 1), .int .i64 xlo, .int .i64 xhi] 24)).drew) := (HB7.out.alloc HB7.out.size _).drew
          have HD8 : Hid (Below (w7.alloc (.cells #[.int .u32 (V : Int), .int .i64 ((xn : Int) - 1), .int .i64 xlo, .int .i64 xhi] 24)).heap.size (w7.alloc (.cells #[.int .u32 (V : Int), .int .i64 ((xn : Int) - 1), .int .i64 xlo, .int .i64 xhi] 24)) (w7.alloc (.cells #[.int .u32 (V : Int), .int .i64 ((xn : Int) - 1), .int .i64 xlo, .int .i64 xhi] 24)).drew) := (Below.refl _ _).drew
          generalize (w7.alloc (.cells #[.int .u32 (V : Int), .int .i64 ((xn : Int) - 1), .int .i64 xlo, .int .i64 xhi] 24)).drew = W8 at *
          obtain ⟨a0, a1, a2, a3⟩ := HC4.out W8 HB8.out
          obtain ⟨b0, b1, b2, b3⟩ := HWC.out W8 HD8.out
          clear ka0 ka1 ka2 ka3 hand hand2 hsh hwb
          cases hH : hasN ⟨xp, xn, xlo, xhi⟩ ip (pn : Int) with
          | false =>
            have HHA2 : Hid (∀ w, Calls Tryd.prog 8 #[.agg #[.int .u32 (xp : Int), .int .i64 (xn : Int), .int .i64 xlo, .int .i64 xhi], .int .u32 ip, .int .i64 (pn : Int)] w fun e w' => e = .returned (.bool false) ∧ Below w.heap.size w w') := fun w => by
              have := HHA.out w
              rw [hH] at this; exact this
            clear HHA HHW hH
            go_wp2_with (first
              | (go_at_call 10; refine cargs (by simp [Act.eval]) ((HCK2.out _).mono ?_); rintro e w9 ⟨rfl, hb9⟩; have HB9 := Lib.hid (HB8.out.trans (hb9.mono HB8.out.size)); obtain ⟨e0, e1, e2, e3⟩ := HC4.out w9 HB9.out; clear hb9)
              | (go_at_call 8; refine cargs (by first | (simp [Act.eval]; done) | fail) ((HHA2.out _).mono ?_); rintro e wa ⟨rfl, hba⟩; have HBA := Lib.hid (HB9.out.trans (hba.mono HB9.out.size)); clear hba))
            go_returns
            exact ⟨rfl, HAB.out _ HBA.out⟩
          | true =>
            have HHA2 : Hid (∀ w, Calls Tryd.prog 8 #[.agg #[.int .u32 (xp : Int), .int .i64 (xn : Int), .int .i64 xlo, .int .i64 xhi], .int .u32 ip, .int .i64 (pn : Int)] w fun e w' => e = .returned (.bool true) ∧ Below w.heap.size w w') := fun w => by
              have := HHA.out w
              rw [hH] at this; exact this
            rw [HWH.out hH] at HHW
            clear HHA hH HWH
            go_wp2_with (first
              | (go_at_call 10; refine cargs (by simp [Act.eval]) ((HCK2.out _).mono ?_); rintro e w9 ⟨rfl, hb9⟩; have HB9 := Lib.hid (HB8.out.trans (hb9.mono HB8.out.size)); have HD9 := Lib.hid (HD8.out.trans (hb9.mono HD8.out.size)); obtain ⟨e0, e1, e2, e3⟩ := HC4.out w9 HB9.out; clear hb9)
              | (go_at_call 8; refine cargs (by first | (simp [Act.eval]; done) | fail) ((HHA2.out _).mono ?_); rintro e wa ⟨rfl, hba⟩; have HBA := Lib.hid (HB9.out.trans (hba.mono HB9.out.size)); obtain ⟨i0, i1, i2, i3⟩ := HWC.out wa (HD9.out.trans (hba.mono HD9.out.size)); clear hba)
              | (go_at_call 8; refine cargs (by first | (simp [Act.eval]; done) | fail) ((HHW.out _).mono ?_); rintro e wb ⟨rfl, hbb⟩; have HBB := Lib.hid (HBA.out.trans (hbb.mono HBA.out.size)); clear hbb))
            go_returns
            exact ⟨rfl, HAB.out _ HBB.out⟩
    · have HF : Hid (hasN ⟨xp, xb, xlo, xhi⟩ ip (pn : Int) = false) := by show _ = _; unfold hasN; rw [decide_eq_false hf]; rfl
      have HTX2 : Hid (∀ W, Below w.heap.size w W → Calls Tryd.prog 7 #[.agg #[.int .u32 (xp : Int), .int .i64 xb, .int .i64 xlo, .int .i64 xhi]] W fun e w' => e = .returned (.tuple #[.string ⟨#[]⟩, .iface 64 (.int .i64 (netF ⟨xp, xb, xlo, xhi⟩))]) ∧ Below W.heap.size W w') := fun W hb => by
        have := HTX.out W hb
        rw [if_neg hf, errV_pos hf] at this; exact this
      have HHA2 : Hid (∀ w, Calls Tryd.prog 8 #[.agg #[.int .u32 (xp : Int), .int .i64 xb, .int .i64 xlo, .int .i64 xhi], .int .u32 ip, .int .i64 (pn : Int)] w fun e w' => e = .returned (.bool false) ∧ Below w.heap.size w w') := fun w => by
        have := HHA.out w
        rw [HF.out] at this; exact this
      generalize netF ⟨xp, xb, xlo, xhi⟩ = nf at *
      clear HF hf HHA HTX
      go_wp2_with (first
        | (go_at_call 7; refine cargs (by simp [Act.eval]) ((HTX2.out _ (HAB.out _ HB2.out)).mono ?_); rintro e w3 ⟨rfl, hb3⟩; have HB3 := Lib.hid (HB2.out.trans (hb3.mono HB2.out.size)); obtain ⟨d0, d1, d2, d3⟩ := HC4.out w3 HB3.out; clear hb3)
        | (go_at_call 8; refine cargs (by simp [Act.eval]) ((HHA2.out _).mono ?_); rintro e w4 ⟨rfl, hb4⟩; have HB4 := Lib.hid (HB3.out.trans (hb4.mono HB3.out.size)); clear hb4))
      go_returns
      exact ⟨rfl, HAB.out _ HB4.out⟩

end Go.Proofs.YtmgngapkgcofnabDoor
