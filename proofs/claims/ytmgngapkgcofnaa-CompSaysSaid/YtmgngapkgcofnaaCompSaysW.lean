/- CompSays: the walk, over Own's contract (handed in as a premise here; the row's text discharges it). -/
import Derived.Test.YtmgngapkgcofnaaCompiles
import Derived.Test.YtmgngapkgcofnaaPolFault
import Derived.Test.YtmgngapkgcofnaaLightP
namespace Go.Proofs.Ytmgngapkgcofnaa
open Go.RowKit Go.PlainAid

/-- What Own answers: the same policy in its own memory. -/
def OwnSaid : Prop := ∀ (v : Value) (p : PolD) (w : World), PolAt w w.heap.size v p → lightP p = true → Calls Try.prog 55 #[v] w fun e w' => ∃ u, e = .returned u ∧ PolAt w' w'.heap.size u p ∧ Below w.heap.size w w'
theorem PolAt.up {w w' : World} {v : Value} {p : PolD} (h : PolAt w w.heap.size v p) (hb : Below w.heap.size w w') : PolAt w' w'.heap.size v p := by
  obtain ⟨A, c, rfl, hr⟩ := h
  exact ⟨A, c, rfl, (hr.below hb (Nat.le_refl _)).mono hb.size⟩
theorem lightP_gets {p : PolD} (h : lightP p = true) : (∀ r ∈ p.rules, ∀ c ∈ r.conds, c.glob.size ≤ 4096) ∧ p.rules.length ≤ 4096 ∧ ∀ r ∈ p.rules, r.conds.length ≤ 4096 := by
  obtain ⟨h1, h2⟩ := (lightP_iff p).1 h
  exact ⟨fun r hr c hc => by have := (h2 r hr).2 c hc; omega, by omega, fun r hr => by have := (h2 r hr).1; omega⟩
theorem same_dec (n f : Int) (w : World) (hn : 0 ≤ n) (b : Bool) (hb : decide (n = f) = b) : Calls Try.prog 14 #[errV n, .int .i64 f] w fun e w' => e = .returned (.bool b) ∧ w = w' := by
  have := same_any n f w hn
  rw [hb] at this
  exact this

set_option linter.unusedSimpArgs false in
set_option maxRecDepth 100000 in
set_option maxHeartbeats 4000000 in
theorem compSays_walk (HOWN : OwnSaid) (n : Nat) (v : Value) (p : PolD) (w : World) (hn : n < 4294967296) (h : PolAt w w.heap.size v p) :
    Calls Try.prog 8 #[.int .u32 n, v] w fun e w' => e = .returned (.bool true) ∧ Below w.heap.size w w' := by
  have hpol := h
  obtain ⟨A, cp, rfl, hr⟩ := h
  obtain ⟨rules, pk, pe⟩ := p
  simp only at hpol hr
  have HPOL := Lib.hid hpol
  have HC3 := Lib.hid (cell3 w (.slice A rules.length cp) (.int .i64 pk) (.int .i64 pe) 96)
  have HAB := Lib.hid (above w (.cells #[.slice A rules.length cp, .int .i64 pk, .int .i64 pe] 96))
  have HLT : Hid (∀ W, Below w.heap.size w W → Calls Try.prog 51 #[.agg #[.slice A rules.length cp, .int .i64 pk, .int .i64 pe]] W fun e w' => e = .returned (.bool (lightP ⟨rules, pk, pe⟩)) ∧ Below W.heap.size W w') := fun W hb => lightPolicy_any _ _ W (hpol.up hb)
  have HW0 : Hid (∀ W, Below (w.alloc (.cells #[.slice A rules.length cp, .int .i64 pk, .int .i64 pe] 96)).heap.size (w.alloc (.cells #[.slice A rules.length cp, .int .i64 pk, .int .i64 pe] 96)) W → w.heap.size < W.heap.size) := fun W hb => by have := hb.size; simp at this; omega
  clear hr hpol
  cases hL : lightP ⟨rules, pk, pe⟩ with
  | false =>
    rw [hL] at HLT
    clear hL
    go_enter Try.func8, Try.ntmps8
    go_wp2_with (first
      | (go_at_call 50; refine cargs (by simp [Act.eval]) ((compiles_any _).mono ?_); rintro e w1 ⟨rfl, hb1⟩; have HB1 := Lib.hid (HAB.out w1 hb1); obtain ⟨p0, p1, p2⟩ := HC3.out w1 hb1)
      | (go_at_call 51; refine cargs (by simp [Act.eval]) ((HLT.out _ HB1.out).mono ?_); rintro e w2 ⟨rfl, hb2⟩))
    go_ret
    exact ⟨rfl, HB1.out.trans (hb2.mono HB1.out.size)⟩
  | true =>
    obtain ⟨lg1, lg2, lg3⟩ := lightP_gets hL
    have HLG := Lib.hid (And.intro lg1 (And.intro lg2 lg3))
    have HO : Hid (∀ W, Below w.heap.size w W → Calls Try.prog 55 #[.agg #[.slice A rules.length cp, .int .i64 pk, .int .i64 pe]] W fun e w' => ∃ u, e = .returned u ∧ PolAt w' w'.heap.size u ⟨rules, pk, pe⟩ ∧ Below W.heap.size W w') := fun W hb => HOWN _ _ W (HPOL.out.up hb) hL
    have HPF : Hid (∀ W, Below w.heap.size w W → Calls Try.prog 56 #[.agg #[.slice A rules.length cp, .int .i64 pk, .int .i64 pe]] W fun e w' => e = .returned (.int .i64 (polF ⟨rules, pk, pe⟩)) ∧ Below W.heap.size W w') := fun W hb => polFault_any _ _ W (HPOL.out.up hb) lg1 lg2 lg3
    have HPG := polF_ge ⟨rules, pk, pe⟩
    rw [hL] at HLT
    clear hL lg1 lg2 lg3 HOWN
    go_enter Try.func8, Try.ntmps8
    go_upto_region 4 with (first
      | (go_at_call 50; refine cargs (by simp [Act.eval]) ((compiles_any _).mono ?_); rintro e w1 ⟨rfl, hb1⟩; have HB1 := Lib.hid (HAB.out w1 hb1); obtain ⟨p0, p1, p2⟩ := HC3.out w1 hb1)
      | (go_at_call 51; refine cargs (by simp [Act.eval]) ((HLT.out _ HB1.out).mono ?_); rintro e w2 ⟨rfl, hb2⟩))
    have hs2 := hb2.size
    have hs1 := HW0.out w1 hb1
    have hb12 : Below (w.alloc (.cells #[.slice A rules.length cp, .int .i64 pk, .int .i64 pe] 96)).heap.size (w.alloc (.cells #[.slice A rules.length cp, .int .i64 pk, .int .i64 pe] 96)) w2 := hb1.trans (hb2.mono hb1.size)
    have HB12 := Lib.hid hb12
    clear hb1 hb2 hb12 p0 p1 p2
    cases hv : verdF n with
    | some y =>
      obtain ⟨vk, vx, vr⟩ := y
      have HV : Hid (∀ W : World, Calls Try.prog 52 #[.int .u32 n] W fun e w' => e = .returned (.tuple #[.agg #[.int .i64 vk, .int .i64 vx, .int .i64 vr], .nilIface]) ∧ Below W.heap.size W w') := fun W => by
        have := verdict_any n W hn
        rw [hv] at this; exact this
      have HVO : Hid (∀ W : World, Calls Try.prog 53 #[.int .u32 n] W fun e w' => e = .returned (.tuple #[.agg #[.int .i64 vk, .int .i64 vx, .int .i64 vr], .bool true]) ∧ Below W.heap.size W w') := fun W => (verdictOf_any n W hn).mono fun e w' ⟨⟨k, x, r, b, h1, h2, h3⟩, h4⟩ => by
        have h5 := h3 _ hv
        simp only [Prod.mk.injEq] at h5
        obtain ⟨rfl, rfl, rfl⟩ := h5
        rw [hv] at h2
        obtain rfl : b = true := h2
        exact ⟨h1, h4⟩
      have HS0 : Hid (∀ w : World, Calls Try.prog 14 #[.nilIface, .int .i64 0] w fun e w' => e = .returned (.bool true) ∧ w = w') := fun w => same_dec 0 0 w (by omega) true (by simp)
      clear hv
      go_upto_region 5 with (go_at_call 52; refine cargs (by simp [Act.eval]) ((HV.out _).mono ?_); rintro e w3 ⟨rfl, hb3⟩)
      have HT6 := Lib.hid (cell3 w3 (.int .i64 vk) (.int .i64 vx) (.int .i64 vr) 99)
      have HB3 : Hid (Below (w.alloc (.cells #[.slice A rules.length cp, .int .i64 pk, .int .i64 pe] 96)).heap.size (w.alloc (.cells #[.slice A rules.length cp, .int .i64 pk, .int .i64 pe] 96)) (w3.alloc (.cells #[.int .i64 vk, .int .i64 vx, .int .i64 vr] 99))) := (HB12.out.trans (hb3.mono HB12.out.size)).alloc (Nat.le_trans HB12.out.size hb3.size) _
      go_upto_region 6 with (go_at_call 53; refine cargs (by simp [Act.eval]) ((HVO.out _).mono ?_); rintro e w4 ⟨rfl, hb4⟩)
      have HBX0 : Hid (Below (w.alloc (.cells #[.slice A rules.length cp, .int .i64 pk, .int .i64 pe] 96)).heap.size (w.alloc (.cells #[.slice A rules.length cp, .int .i64 pk, .int .i64 pe] 96)) (w4.alloc (.cells #[.int .i64 vk, .int .i64 vx, .int .i64 vr] 99))) := (HB3.out.trans (hb4.mono HB3.out.size)).alloc (Nat.le_trans HB3.out.size hb4.size) _
      obtain ⟨j0, j1, j2⟩ := HT6.out _ (hb4.alloc (by have := hb4.size; omega) (.cells #[.int .i64 vk, .int .i64 vx, .int .i64 vr] 99))
      obtain ⟨l0, l1, l2⟩ := cell3 w4 (.int .i64 vk) (.int .i64 vx) (.int .i64 vr) 99 _ (Below.refl _ _)
      obtain ⟨p0, p1, p2⟩ := HC3.out _ HBX0.out
      have HBX := Lib.hid (HAB.out _ HBX0.out)
      clear hb3 hb4
      generalize w4.alloc (.cells #[.int .i64 vk, .int .i64 vx, .int .i64 vr] 99) = WX at *
      go_upto_region 8 with (go_at_call 14; refine cargs (by simp [Act.eval]) ((HS0.out _).mono ?_); rintro e w5 ⟨rfl, rfl⟩)
      by_cases hp : polF ⟨rules, pk, pe⟩ = 0
      · rw [hp] at HPF
        have HCO : Hid (∀ W u, PolAt W W.heap.size u ⟨rules, pk, pe⟩ → Calls Try.prog 54 #[u] W fun e w' => ∃ A c n, e = .returned (.tuple #[.slice A n c, .nilIface]) ∧ 0 < n ∧ Below W.heap.size W w') := fun W u hu => comp_ok hp (compile_any u _ W hu HLG.out.1 HLG.out.2.1 HLG.out.2.2)
        have HSA : Hid (∀ w : World, Calls Try.prog 14 #[.nilIface, .int .i64 0] w fun e w' => e = .returned (.bool true) ∧ w = w') := fun w => same_dec 0 0 w (by omega) true (by simp)
        clear hp HPG
        go_upto_region 9 with (first
          | (go_at_call 55; refine cargs (by simp [Act.eval]) ((HO.out _ HBX.out).mono ?_); rintro e w6 ⟨u, rfl, hpu, hb6⟩; have HPU := Lib.hid hpu; have HB6 := Lib.hid hb6; clear hpu hb6)
          | (go_at_call 54; refine cargs (by simp [Act.eval]) ((HCO.out _ _ HPU.out).mono ?_); rintro e w7 ⟨A7, c7, n7, rfl, hn7, hb7⟩; have hn7' : (0 : Int) < (n7 : Int) := Int.natCast_pos.2 hn7; have HB7 := Lib.hid hb7; clear hb7))
        have HB07 : Hid (Below (w.alloc (.cells #[.slice A rules.length cp, .int .i64 pk, .int .i64 pe] 96)).heap.size (w.alloc (.cells #[.slice A rules.length cp, .int .i64 pk, .int .i64 pe] 96)) w7) := HBX0.out.trans ((HB6.out.mono HBX0.out.size).trans (HB7.out.mono (Nat.le_trans HBX0.out.size HB6.out.size)))
        obtain ⟨p0, p1, p2⟩ := HC3.out w7 HB07.out
        go_wp2_with (first
          | (go_at_call 56; refine cargs (by simp [Act.eval]) ((HPF.out _ (HAB.out _ HB07.out)).mono ?_); rintro e w8 ⟨rfl, hb8⟩)
          | (go_at_call 14; refine cargs (by simp [Act.eval]) ((HSA.out _).mono ?_); rintro e w9 ⟨rfl, rfl⟩))
        go_ret
        exact ⟨rfl, (HAB.out _ HB07.out).trans (hb8.mono (HAB.out _ HB07.out).size)⟩
      · have HCO : Hid (∀ W u, PolAt W W.heap.size u ⟨rules, pk, pe⟩ → Calls Try.prog 54 #[u] W fun e w' => e = .returned (.tuple #[.slice none 0 0, .iface 114 (.int .i64 (polF ⟨rules, pk, pe⟩))]) ∧ Below W.heap.size W w') := fun W u hu => by
          have := comp_bad hp (compile_any u _ W hu HLG.out.1 HLG.out.2.1 HLG.out.2.2)
          rw [errV_pos hp] at this; exact this
        have HSA : Hid (∀ w : World, Calls Try.prog 14 #[.iface 114 (.int .i64 (polF ⟨rules, pk, pe⟩)), .int .i64 (polF ⟨rules, pk, pe⟩)] w fun e w' => e = .returned (.bool true) ∧ w = w') := fun w => by
          have := same_dec (polF ⟨rules, pk, pe⟩) (polF ⟨rules, pk, pe⟩) w HPG true (by simp)
          rw [errV_pos hp] at this; exact this
        have hpp : 0 < polF ⟨rules, pk, pe⟩ := by omega
        have hpq : (polF ⟨rules, pk, pe⟩ == 0) = false := by simp; exact hp
        generalize polF ⟨rules, pk, pe⟩ = pf at *
        clear hp HPG
        go_upto_region 9 with (first
          | (go_at_call 55; refine cargs (by simp [Act.eval]) ((HO.out _ HBX.out).mono ?_); rintro e w6 ⟨u, rfl, hpu, hb6⟩; have HPU := Lib.hid hpu; have HB6 := Lib.hid hb6; clear hpu hb6)
          | (go_at_call 54; refine cargs (by simp [Act.eval]) ((HCO.out _ _ HPU.out).mono ?_); rintro e w7 ⟨rfl, hb7⟩; have HB7 := Lib.hid hb7; clear hb7))
        have HB07 : Hid (Below (w.alloc (.cells #[.slice A rules.length cp, .int .i64 pk, .int .i64 pe] 96)).heap.size (w.alloc (.cells #[.slice A rules.length cp, .int .i64 pk, .int .i64 pe] 96)) w7) := HBX0.out.trans ((HB6.out.mono HBX0.out.size).trans (HB7.out.mono (Nat.le_trans HBX0.out.size HB6.out.size)))
        obtain ⟨p0, p1, p2⟩ := HC3.out w7 HB07.out
        go_wp2_with (first
          | (go_at_call 56; refine cargs (by simp [Act.eval]) ((HPF.out _ (HAB.out _ HB07.out)).mono ?_); rintro e w8 ⟨rfl, hb8⟩)
          | (go_at_call 14; refine cargs (by simp [Act.eval]) ((HSA.out _).mono ?_); rintro e w9 ⟨rfl, rfl⟩))
        go_ret
        exact ⟨rfl, (HAB.out _ HB07.out).trans (hb8.mono (HAB.out _ HB07.out).size)⟩
    | none =>
      have HV : Hid (∀ W : World, Calls Try.prog 52 #[.int .u32 n] W fun e w' => e = .returned (.tuple #[.agg #[.int .i64 0, .int .i64 0, .int .i64 0], .iface 114 (.int .i64 3)]) ∧ Below W.heap.size W w') := fun W => by
        have := verdict_any n W hn
        rw [hv] at this; exact this
      have HVO : Hid (∀ W : World, Calls Try.prog 53 #[.int .u32 n] W fun e w' => (∃ k x r, e = .returned (.tuple #[.agg #[.int .i64 k, .int .i64 x, .int .i64 r], .bool false])) ∧ Below W.heap.size W w') := fun W => (verdictOf_any n W hn).mono fun e w' ⟨⟨k, x, r, b, h1, h2, h3⟩, h4⟩ => by
        rw [hv] at h2
        obtain rfl : b = false := h2
        exact ⟨⟨k, x, r, h1⟩, h4⟩
      have HS0 : Hid (∀ w : World, Calls Try.prog 14 #[.iface 114 (.int .i64 3), .int .i64 0] w fun e w' => e = .returned (.bool false) ∧ w = w') := fun w => same_dec 3 0 w (by omega) false (by decide)
      have HS3 : Hid (∀ w : World, Calls Try.prog 14 #[.iface 114 (.int .i64 3), .int .i64 3] w fun e w' => e = .returned (.bool true) ∧ w = w') := fun w => same_dec 3 3 w (by omega) true (by decide)
      clear hv
      go_upto_region 5 with (go_at_call 52; refine cargs (by simp [Act.eval]) ((HV.out _).mono ?_); rintro e w3 ⟨rfl, hb3⟩)
      have HT6 := Lib.hid (cell3 w3 (.int .i64 0) (.int .i64 0) (.int .i64 0) 99)
      have HB3 : Hid (Below (w.alloc (.cells #[.slice A rules.length cp, .int .i64 pk, .int .i64 pe] 96)).heap.size (w.alloc (.cells #[.slice A rules.length cp, .int .i64 pk, .int .i64 pe] 96)) (w3.alloc (.cells #[.int .i64 0, .int .i64 0, .int .i64 0] 99))) := (HB12.out.trans (hb3.mono HB12.out.size)).alloc (Nat.le_trans HB12.out.size hb3.size) _
      go_upto_region 6 with (go_at_call 53; refine cargs (by simp [Act.eval]) ((HVO.out _).mono ?_); rintro e w4 ⟨⟨vk, vx, vr, rfl⟩, hb4⟩)
      have HBX0 : Hid (Below (w.alloc (.cells #[.slice A rules.length cp, .int .i64 pk, .int .i64 pe] 96)).heap.size (w.alloc (.cells #[.slice A rules.length cp, .int .i64 pk, .int .i64 pe] 96)) (w4.alloc (.cells #[.int .i64 vk, .int .i64 vx, .int .i64 vr] 99))) := (HB3.out.trans (hb4.mono HB3.out.size)).alloc (Nat.le_trans HB3.out.size hb4.size) _
      obtain ⟨j0, j1, j2⟩ := HT6.out _ (hb4.alloc (by have := hb4.size; omega) (.cells #[.int .i64 vk, .int .i64 vx, .int .i64 vr] 99))
      obtain ⟨l0, l1, l2⟩ := cell3 w4 (.int .i64 vk) (.int .i64 vx) (.int .i64 vr) 99 _ (Below.refl _ _)
      obtain ⟨p0, p1, p2⟩ := HC3.out _ HBX0.out
      have HBX := Lib.hid (HAB.out _ HBX0.out)
      clear hb3 hb4
      generalize w4.alloc (.cells #[.int .i64 vk, .int .i64 vx, .int .i64 vr] 99) = WX at *
      go_upto_region 8 with (first
        | (go_at_call 14; refine cargs (by first | (simp [Act.eval]; done) | fail) ((HS0.out _).mono ?_); rintro e w5 ⟨rfl, rfl⟩)
        | (go_at_call 14; refine cargs (by first | (simp [Act.eval]; done) | fail) ((HS3.out _).mono ?_); rintro e w5 ⟨rfl, rfl⟩))
      by_cases hp : polF ⟨rules, pk, pe⟩ = 0
      · rw [hp] at HPF
        have HCO : Hid (∀ W u, PolAt W W.heap.size u ⟨rules, pk, pe⟩ → Calls Try.prog 54 #[u] W fun e w' => ∃ A c n, e = .returned (.tuple #[.slice A n c, .nilIface]) ∧ 0 < n ∧ Below W.heap.size W w') := fun W u hu => comp_ok hp (compile_any u _ W hu HLG.out.1 HLG.out.2.1 HLG.out.2.2)
        have HSA : Hid (∀ w : World, Calls Try.prog 14 #[.nilIface, .int .i64 0] w fun e w' => e = .returned (.bool true) ∧ w = w') := fun w => same_dec 0 0 w (by omega) true (by simp)
        clear hp HPG
        go_upto_region 9 with (first
          | (go_at_call 55; refine cargs (by simp [Act.eval]) ((HO.out _ HBX.out).mono ?_); rintro e w6 ⟨u, rfl, hpu, hb6⟩; have HPU := Lib.hid hpu; have HB6 := Lib.hid hb6; clear hpu hb6)
          | (go_at_call 54; refine cargs (by simp [Act.eval]) ((HCO.out _ _ HPU.out).mono ?_); rintro e w7 ⟨A7, c7, n7, rfl, hn7, hb7⟩; have hn7' : (0 : Int) < (n7 : Int) := Int.natCast_pos.2 hn7; have HB7 := Lib.hid hb7; clear hb7))
        have HB07 : Hid (Below (w.alloc (.cells #[.slice A rules.length cp, .int .i64 pk, .int .i64 pe] 96)).heap.size (w.alloc (.cells #[.slice A rules.length cp, .int .i64 pk, .int .i64 pe] 96)) w7) := HBX0.out.trans ((HB6.out.mono HBX0.out.size).trans (HB7.out.mono (Nat.le_trans HBX0.out.size HB6.out.size)))
        obtain ⟨p0, p1, p2⟩ := HC3.out w7 HB07.out
        go_wp2_with (first
          | (go_at_call 56; refine cargs (by simp [Act.eval]) ((HPF.out _ (HAB.out _ HB07.out)).mono ?_); rintro e w8 ⟨rfl, hb8⟩)
          | (go_at_call 14; refine cargs (by simp [Act.eval]) ((HSA.out _).mono ?_); rintro e w9 ⟨rfl, rfl⟩))
        go_ret
        exact ⟨rfl, (HAB.out _ HB07.out).trans (hb8.mono (HAB.out _ HB07.out).size)⟩
      · have HCO : Hid (∀ W u, PolAt W W.heap.size u ⟨rules, pk, pe⟩ → Calls Try.prog 54 #[u] W fun e w' => e = .returned (.tuple #[.slice none 0 0, .iface 114 (.int .i64 (polF ⟨rules, pk, pe⟩))]) ∧ Below W.heap.size W w') := fun W u hu => by
          have := comp_bad hp (compile_any u _ W hu HLG.out.1 HLG.out.2.1 HLG.out.2.2)
          rw [errV_pos hp] at this; exact this
        have HSA : Hid (∀ w : World, Calls Try.prog 14 #[.iface 114 (.int .i64 (polF ⟨rules, pk, pe⟩)), .int .i64 (polF ⟨rules, pk, pe⟩)] w fun e w' => e = .returned (.bool true) ∧ w = w') := fun w => by
          have := same_dec (polF ⟨rules, pk, pe⟩) (polF ⟨rules, pk, pe⟩) w HPG true (by simp)
          rw [errV_pos hp] at this; exact this
        have hpp : 0 < polF ⟨rules, pk, pe⟩ := by omega
        have hpq : (polF ⟨rules, pk, pe⟩ == 0) = false := by simp; exact hp
        generalize polF ⟨rules, pk, pe⟩ = pf at *
        clear hp HPG
        go_upto_region 9 with (first
          | (go_at_call 55; refine cargs (by simp [Act.eval]) ((HO.out _ HBX.out).mono ?_); rintro e w6 ⟨u, rfl, hpu, hb6⟩; have HPU := Lib.hid hpu; have HB6 := Lib.hid hb6; clear hpu hb6)
          | (go_at_call 54; refine cargs (by simp [Act.eval]) ((HCO.out _ _ HPU.out).mono ?_); rintro e w7 ⟨rfl, hb7⟩; have HB7 := Lib.hid hb7; clear hb7))
        have HB07 : Hid (Below (w.alloc (.cells #[.slice A rules.length cp, .int .i64 pk, .int .i64 pe] 96)).heap.size (w.alloc (.cells #[.slice A rules.length cp, .int .i64 pk, .int .i64 pe] 96)) w7) := HBX0.out.trans ((HB6.out.mono HBX0.out.size).trans (HB7.out.mono (Nat.le_trans HBX0.out.size HB6.out.size)))
        obtain ⟨p0, p1, p2⟩ := HC3.out w7 HB07.out
        go_wp2_with (first
          | (go_at_call 56; refine cargs (by simp [Act.eval]) ((HPF.out _ (HAB.out _ HB07.out)).mono ?_); rintro e w8 ⟨rfl, hb8⟩)
          | (go_at_call 14; refine cargs (by simp [Act.eval]) ((HSA.out _).mono ?_); rintro e w9 ⟨rfl, rfl⟩))
        go_ret
        exact ⟨rfl, (HAB.out _ HB07.out).trans (hb8.mono (HAB.out _ HB07.out).size)⟩

end Go.Proofs.Ytmgngapkgcofnaa
