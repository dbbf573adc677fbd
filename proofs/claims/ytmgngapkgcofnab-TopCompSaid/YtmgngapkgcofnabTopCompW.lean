/- TopComp: the walk. -/
import Derived.Test.YtmgngapkgcofnabCompSim4
import Derived.Test.YtmgngapkgcofnabJudge
import Derived.Test.YtmgngapkgcofnabVerdict
import Derived.Test.YtmgngapkgcofnabCompile
import Derived.Test.YtmgngapkgcofnabLightP
import Derived.Test.YtmgngapkgcofnabRunW
import Derived.Test.YtmgngapkgcofnabOpenCalls
namespace Go.Proofs.Ytmgngapkgcofnab
open Go.RowKit Go.PlainAid

theorem PolAt.up' {w w' : World} {v : Value} {p : PolD} (h : PolAt w w.heap.size v p) (hb : Below w.heap.size w w') : PolAt w' w'.heap.size v p := by
  obtain ⟨A, c, rfl, hr⟩ := h
  exact ⟨A, c, rfl, (hr.below hb (Nat.le_refl _)).mono hb.size⟩
theorem lightP_gets' {p : PolD} (h : lightP p = true) : (∀ r ∈ p.rules, ∀ c ∈ r.conds, c.glob.size ≤ 4096) ∧ p.rules.length ≤ 4096 ∧ ∀ r ∈ p.rules, r.conds.length ≤ 4096 := by
  obtain ⟨h1, h2⟩ := (lightP_iff p).1 h
  exact ⟨fun r hr c hc => by have := (h2 r hr).2 c hc; omega, by omega, fun r hr => by have := (h2 r hr).1; omega⟩
/-- The conditions of a policy that came in are in range. -/
theorem PolAt.condsOk {w : World} {B : Nat} {v : Value} {p : PolD} (h : PolAt w B v p) : ∀ r ∈ p.rules, ∀ c ∈ r.conds, c.ok := fun r hr c hc => by
  obtain ⟨A, cp, _, A1, c1, _, h2⟩ := h
  rcases h2 with h2 | ⟨b, o, _, _, h3⟩
  · rw [h2] at hr; cases hr
  · obtain ⟨i, hi⟩ := List.getElem?_of_mem hr
    obtain ⟨_, _, h4, _⟩ := h3 i r hi
    exact h4.1 c hc
theorem rightP_of {w : World} {B : Nat} {v : Value} {p : PolD} (h : PolAt w B v p) (hf : polF p = 0) : RightP p := by
  obtain ⟨h1, h2, h3⟩ := polF_zero hf
  refine ⟨h1, h2, fun r hr => ?_, fun r hr x hx => ?_⟩
  · obtain ⟨k1, k2, k3, _, k5⟩ := ruleF_zero (h3 r hr)
    exact ⟨k1, k2, k3, k5⟩
  · obtain ⟨_, _, _, k4, _⟩ := ruleF_zero (h3 r hr)
    obtain ⟨a1, a2, a3, _⟩ := k4 x hx
    obtain ⟨_, _, v1, m1, _⟩ := h.condsOk r hr x hx
    exact ⟨a1, a2, a3, v1.1, v1.2, m1.1, m1.2⟩
/-- A call of a slice, cell by cell. -/
theorem call_row {w : World} {b o : Nat} {l : List CallD} (h : CallRow w b o l) {i : Nat} {x : CallD} (hx : l[i]? = some x) :
    w.cell? ⟨b, o + i * 6, none⟩ = some (.int .u32 x.arch) ∧ w.cell? ⟨b, o + i * 6 + 1, none⟩ = some (.int .u32 x.nr) ∧ w.cell? ⟨b, o + i * 6 + 2, none⟩ = some (.int .u64 x.a0) ∧ w.cell? ⟨b, o + i * 6 + 3, none⟩ = some (.int .u64 x.a1) ∧ w.cell? ⟨b, o + i * 6 + 4, none⟩ = some (.int .u64 x.a2) ∧ w.cell? ⟨b, o + i * 6 + 5, none⟩ = some (.int .u64 x.a3) :=
  ⟨h i x hx 0 _ rfl, h i x hx 1 _ rfl, h i x hx 2 _ rfl, h i x hx 3 _ rfl, h i x hx 4 _ rfl, h i x hx 5 _ rfl⟩
/-- What a policy's program gives of a call. -/
theorem comp_right {p : PolD} (hp : RightP p) : (∀ c : CallD, c.ok → ((runF (progL p) c (progL p).length 0 0 0).1 = resF p c ∧ (runF (progL p) c (progL p).length 0 0 0).2 ≤ ((progL p).length : Int))) := fun c hc => by
  obtain ⟨h1, h2, h3⟩ := prog_right hp
  refine ⟨prog_run p c hc hp.con, ?_⟩
  obtain ⟨k0, k1, k2, k3⟩ := check_ok h2
  have := (run_law c h1 k2 k3 (progL p).length 0 0 0 k0 (by omega)).2.1
  simpa using this
theorem one_ok (w : World) : PolAt w w.heap.size (.agg #[.slice none 0 0, .int .i64 1, .int .i64 0]) ⟨[], 1, 0⟩ := ⟨none, 0, rfl, none, 0, rfl, Or.inl rfl⟩
theorem comp_ok' {v : Value} {p : PolD} {w : World} (hp : polF p = 0) (hr : RightP p) (hc : Calls Try.prog 4 #[v] w (CompR p w)) : Calls Try.prog 4 #[v] w fun e w' => ∃ A c n, e = .returned (.tuple #[.slice A n c, .nilIface]) ∧ Hid (n = (progL p).length ∧ InsSl w' w'.heap.size (.slice A n c) (progL p)) ∧ (0 < n ∧ n ≤ 600) ∧ Below w.heap.size w w' :=
  hc.mono fun e w' ⟨h1, h2⟩ => by
    rw [if_pos hp] at h2
    obtain ⟨u, B, rfl, _, ho⟩ := h2
    obtain ⟨A, c, rfl⟩ := own_form2 ho
    exact ⟨A, c, _, rfl, ⟨rfl, insSl_of_own ho (prog_right hr).1⟩, ⟨progL_pos p, (prog_right hr).2.2⟩, h1⟩
end Go.Proofs.Ytmgngapkgcofnab
