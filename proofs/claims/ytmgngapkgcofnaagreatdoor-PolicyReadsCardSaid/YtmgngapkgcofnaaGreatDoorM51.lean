/- lets: the closed fact. -/
import Derived.Test.YtmgngapkgcofnaaGreatDoorM49
import Derived.Test.YtmgngapkgcofnaaGreatDoorM36
import Derived.Test.YtmgngapkgcofnaaGreatDoorM14
namespace Go.Proofs.YtmgngapkgcofnaaGreatDoor
open Go.RowKit Go.PlainAid

/-- What Parse answers, and where it lies. -/
theorem ParseA.at {s : ByteArray} {w : World} {e : Ending} {w' : World} (h : ParseA s w e w') : Below w.heap.size w w' ∧ ((8000 < s.size ∧ e = .returned (.tuple #[.agg zero3, .iface 63 (.int .i64 2)])) ∨ (s.size ≤ 8000 ∧ ReadP (bL s) none ∧ e = .returned (.tuple #[.agg zero3, .iface 63 (.int .i64 4)])) ∨
    (s.size ≤ 8000 ∧ ∃ (p : PolD) (A : Option Addr) (c : Nat), ReadP (bL s) (some p) ∧ e = .returned (.tuple #[.agg #[.slice A p.rules.length c, .int .i64 p.kind, .int .i64 p.errno], .nilIface]) ∧ PolAt w' w'.heap.size (.agg #[.slice A p.rules.length c, .int .i64 p.kind, .int .i64 p.errno]) p)) := by
  obtain ⟨h1, h2⟩ := h
  refine ⟨h1, h2.imp id (Or.imp id ?_)⟩
  rintro ⟨h3, p, A, c, xs, h4, h5, h6, h7⟩
  exact ⟨h3, p, A, c, h4, h5, A, c, rfl, rulesSl_own h6 h7.own⟩
/-- The closed fact's policy. -/
def letP : PolD := ⟨[⟨0, [⟨0, 3, 5, 0, ByteArray.empty, ⟨0, 0, 0, 0⟩⟩], 1, 0⟩], 3, 0⟩
def letS : ByteArray := ⟨#[101, 108, 115, 101, 32, 107, 105, 108, 108, 10, 97, 108, 108, 111, 119, 32, 114, 101, 97, 100, 32, 105, 102, 32, 48, 32, 60, 32, 53, 10]⟩
theorem letP_ok : PolOk letP := fun r hr c hc => by
  simp only [letP, List.mem_singleton] at hr
  subst hr
  simp only [List.mem_singleton] at hc
  subst hc
  exact ⟨wf_small (by decide) (by decide), wf_small (by decide) (by decide), by decide, by decide, by simp, net0_ok⟩
theorem letP_f : polF letP = 0 := by decide
theorem letP_t : bL letS = polT letP := by decide +kernel
theorem letP_read : ReadP (bL letS) (some letP) := ⟨letP_ok, letP_f, letP_t⟩
theorem lets_parse (HN : NumSaid) (w : World) (hG : Grd w) (htab : Lib.TabIs Tryz.prog w "internal/strconv.uint64pow10" .u64 Lib.pow10Tab) :
    Calls Tryz.prog 6 #[.string letS] w fun e w' => ∃ A c, e = .returned (.tuple #[.agg #[.slice A 1 c, .int .i64 3, .int .i64 0], .nilIface]) ∧ Hid (PolAt w' w'.heap.size (.agg #[.slice A 1 c, .int .i64 3, .int .i64 0]) letP) ∧ Below w.heap.size w w' :=
  (parse_any_pol HN letS w (by decide) hG htab).mono fun e w' h => by
    obtain ⟨h1, h2⟩ := h.at
    rcases h2 with ⟨h3, _⟩ | ⟨_, h3, _⟩ | ⟨_, p, A, c, h3, h4, h5⟩
    · exact absurd h3 (by decide)
    · cases ReadP.same h3 letP_read
    · cases ReadP.same h3 letP_read
      exact ⟨A, c, h4, h5, h1⟩
theorem lets_judge (a : Nat) (k : Int) (A : Option Addr) (c : Nat) (w : World) (hp : PolAt w w.heap.size (.agg #[.slice A 1 c, .int .i64 3, .int .i64 0]) letP) (hj : judgeF letP ⟨3221225534, 0, a, 0, 0, 0⟩ = (k, 0, 0)) :
    Calls Tryz.prog 15 #[.agg #[.slice A 1 c, .int .i64 3, .int .i64 0], .agg #[.int .u32 3221225534, .int .u32 0, .int .u64 (a : Int), .int .u64 0, .int .u64 0, .int .u64 0]] w fun e w' => e = .returned (.tuple #[.agg #[.int .i64 k, .int .i64 0, .int .i64 0], .nilIface]) ∧ Below w.heap.size w w' := by
  have := judge_any _ letP ⟨3221225534, 0, a, 0, 0, 0⟩ w hp (by decide) (by decide) (by decide)
  rw [hj, letP_f] at this
  exact this
set_option linter.unusedSimpArgs false in
set_option maxRecDepth 100000 in
set_option maxHeartbeats 4000000 in
theorem lets_any (HN : NumSaid) (w : World) (hG : Grd w) (htab : Lib.TabIs Tryz.prog w "internal/strconv.uint64pow10" .u64 Lib.pow10Tab) :
    Calls Tryz.prog 5 #[] w fun e w' => e = .returned (.bool true) ∧ Below w.heap.size w w' := by
  have HP := Lib.hid (lets_parse HN w hG htab)
  have HS : Hid (∀ w : World, Calls Tryz.prog 8 #[.nilIface, .int .i64 0] w fun e w' => e = .returned (.bool true) ∧ w = w') := fun w => by
    have := same_any 0 0 w (by omega)
    exact this
  have HUP : Hid (∀ (W W' : World) (v : Value), Below W.heap.size W W' → PolAt W W.heap.size v letP → PolAt W' W'.heap.size v letP) := fun W W' v hb h => by
    obtain ⟨A, c, rfl, hr⟩ := h
    exact ⟨A, c, rfl, (hr.below hb (Nat.le_refl _)).mono hb.size⟩
  unfold letS at HP
  go_enter Tryz.func5, Tryz.ntmps5
  go_upto_region 2 with (go_at_call 6; refine cargs (by simp [Act.eval]) (HP.out.mono ?_); rintro e w1 ⟨A, c, rfl, hp1, hb1⟩; have HB1 := Lib.hid hb1; clear hb1)
  have HP2 : Hid (PolAt (w1.alloc (.cells #[.slice A 1 c, .int .i64 3, .int .i64 0] 27)) (w1.alloc (.cells #[.slice A 1 c, .int .i64 3, .int .i64 0] 27)).heap.size (.agg #[.slice A 1 c, .int .i64 3, .int .i64 0]) letP) := HUP.out _ _ _ ((Below.refl _ _).alloc (Nat.le_refl _) _) hp1.out
  have HC3 := Lib.hid (cell3 w1 (.slice A 1 c) (.int .i64 3) (.int .i64 0) 27)
  obtain ⟨p0, p1, p2⟩ := HC3.out _ (Below.refl _ _)
  have HBW : Hid (Below w.heap.size w (w1.alloc (.cells #[.slice A 1 c, .int .i64 3, .int .i64 0] 27))) := HB1.out.alloc HB1.out.size _
  clear hp1 HB1 HP
  generalize w1.alloc (.cells #[.slice A 1 c, .int .i64 3, .int .i64 0] 27) = W2 at *
  have HJ1 := Lib.hid (fun (W : World) h => lets_judge 4 1 A c W h (by decide))
  have HJ2 := Lib.hid (fun (W : World) h => lets_judge 5 3 A c W h (by decide))
  go_upto_region 5 with (go_at_call 15; refine cargs (by simp [Act.eval]) ((HJ1.out _ HP2.out).mono ?_); rintro e w3 ⟨rfl, hb3⟩; have HB3 := Lib.hid hb3; clear hb3)
  clear p0 p1 p2
  have HT3 := Lib.hid (cell3 w3 (.int .i64 1) (.int .i64 0) (.int .i64 0) 53)
  have HB4 : Hid (Below W2.heap.size W2 (w3.alloc (.cells #[.int .i64 1, .int .i64 0, .int .i64 0] 53))) := HB3.out.alloc HB3.out.size _
  generalize w3.alloc (.cells #[.int .i64 1, .int .i64 0, .int .i64 0] 53) = W4 at *
  obtain ⟨p0, p1, p2⟩ := HC3.out _ HB4.out
  have HP4 := Lib.hid (HUP.out _ _ _ HB4.out HP2.out)
  go_upto_region 6 with (go_at_call 15; refine cargs (by simp [Act.eval]) ((HJ2.out _ HP4.out).mono ?_); rintro e w5 ⟨rfl, hb5⟩; have HB5 := Lib.hid hb5; clear hb5)
  have HB6 : Hid (Below W4.heap.size W4 (w5.alloc (.cells #[.int .i64 3, .int .i64 0, .int .i64 0] 53))) := HB5.out.alloc HB5.out.size _
  obtain ⟨s0, s1, s2⟩ := cell3 w5 (.int .i64 3) (.int .i64 0) (.int .i64 0) 53 _ (Below.refl _ _)
  obtain ⟨r0, r1, r2⟩ := HT3.out _ HB6.out
  have HBF : Hid (Below w.heap.size w (w5.alloc (.cells #[.int .i64 3, .int .i64 0, .int .i64 0] 53))) := HBW.out.trans ((HB4.out.trans (HB6.out.mono HB4.out.size)).mono HBW.out.size)
  generalize w5.alloc (.cells #[.int .i64 3, .int .i64 0, .int .i64 0] 53) = W6 at *
  clear p0 p1 p2 HB6 HB5 HT3 HB4
  go_wp2_with (go_at_call 8; refine cargs (by simp [Act.eval]) ((HS.out _).mono ?_); rintro e w7 ⟨rfl, rfl⟩)
  go_ret
  exact ⟨rfl, HBF.out⟩
end Go.Proofs.YtmgngapkgcofnaaGreatDoor
