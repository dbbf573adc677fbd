/- compiles: the closed fact. -/
import Derived.Test.YtmgngapkgcofnaaCompile
import Derived.Test.YtmgngapkgcofnaaVerdict
namespace Go.Proofs.Ytmgngapkgcofnaa
open Go.RowKit Go.PlainAid

theorem comp_ok {v : Value} {p : PolD} {w : World} (hp : polF p = 0) (hc : Calls Try.prog 54 #[v] w (CompR p w)) : Calls Try.prog 54 #[v] w fun e w' => ∃ A c n, e = .returned (.tuple #[.slice A n c, .nilIface]) ∧ 0 < n ∧ Below w.heap.size w w' :=
  hc.mono fun e w' ⟨h1, h2⟩ => by
    rw [if_pos hp] at h2
    obtain ⟨u, B, rfl, _, ho⟩ := h2
    obtain ⟨A, c, rfl⟩ := own_form2 ho
    exact ⟨A, c, _, rfl, progL_pos p, h1⟩
theorem comp_bad {v : Value} {p : PolD} {w : World} (hp : polF p ≠ 0) (hc : Calls Try.prog 54 #[v] w (CompR p w)) : Calls Try.prog 54 #[v] w fun e w' => e = .returned (.tuple #[.slice none 0 0, errV (polF p)]) ∧ Below w.heap.size w w' :=
  hc.mono fun e w' ⟨h1, h2⟩ => by
    rw [if_neg hp] at h2
    exact ⟨h2, h1⟩
set_option linter.unusedSimpArgs false in
set_option maxRecDepth 100000 in
set_option maxHeartbeats 2000000 in
theorem compiles_any (w : World) : Calls Try.prog 50 #[] w fun e w' => e = .returned (.bool true) ∧ Below w.heap.size w w' := by
  have hp : polF ⟨[], 2, 3⟩ = 0 := by simp [polF, actF, firstNZ]
  have hv : verdF 327683 = some (2, 3, 0) := by simp [verdF]
  have HC := Lib.hid (comp_ok hp (compile_any (.agg #[.slice none 0 0, .int .i64 2, .int .i64 3]) ⟨[], 2, 3⟩ w ⟨none, 0, rfl, none, 0, rfl, Or.inl rfl⟩ (by simp) (by simp) (by simp)))
  have HV : Hid (∀ w : World, Calls Try.prog 52 #[.int .u32 327683] w fun e w' => e = .returned (.tuple #[.agg #[.int .i64 2, .int .i64 3, .int .i64 0], .nilIface]) ∧ Below w.heap.size w w') := fun w => by
    have := verdict_any 327683 w (by omega)
    rw [hv] at this
    exact this
  have HS : Hid (∀ w : World, Calls Try.prog 14 #[.nilIface, .int .i64 0] w fun e w' => e = .returned (.bool true) ∧ w = w') := fun w => by
    have := same_any 0 0 w (by omega)
    exact this
  clear hp
  go_enter Try.func50, Try.ntmps50
  go_wp2_with (first
    | (go_at_call 54; refine cargs (by simp [Act.eval]) (HC.out.mono ?_); rintro e w1 ⟨A1, c1, n1, rfl, hn1, hb1⟩; have hn1' : (0 : Int) < (n1 : Int) := by omega)
    | (go_at_call 52; refine cargs (by simp [Act.eval]) ((HV.out _).mono ?_); rintro e w2 ⟨rfl, hb2⟩)
    | (go_at_call 14; refine cargs (by simp [Act.eval]) ((HS.out _).mono ?_); rintro e w3 ⟨rfl, rfl⟩))
  go_ret
  have hs1 := hb1.size
  have hs2 := hb2.size
  exact ⟨rfl, (hb1.trans (hb2.mono hs1)).alloc (by omega) _⟩

end Go.Proofs.Ytmgngapkgcofnaa
