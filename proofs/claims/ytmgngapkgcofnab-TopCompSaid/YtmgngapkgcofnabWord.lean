/- A call's record: record, Word of the reference, Word of bpf. -/
import Derived.Test.YtmgngapkgcofnabBase
namespace Go.Proofs.Ytmgngapkgcofnab
open Go.RowKit

structure CallD where
  arch : Int
  nr : Int
  a0 : Int
  a1 : Int
  a2 : Int
  a3 : Int
def CallD.v (c : CallD) : Value := .agg #[.int .u32 c.arch, .int .u32 c.nr, .int .u64 c.a0, .int .u64 c.a1, .int .u64 c.a2, .int .u64 c.a3]
def u64ok (x : Int) : Prop := 0 ≤ x ∧ x ≤ 18446744073709551615
def u32ok (x : Int) : Prop := 0 ≤ x ∧ x < 4294967296
def CallD.ok (c : CallD) : Prop := u32ok c.arch ∧ u32ok c.nr ∧ u64ok c.a0 ∧ u64ok c.a1 ∧ u64ok c.a2 ∧ u64ok c.a3
def CallD.record (c : CallD) : List Int := [c.nr, c.arch, c.a0 % 4294967296, c.a0 / 4294967296, c.a1 % 4294967296, c.a1 / 4294967296, c.a2 % 4294967296, c.a2 / 4294967296, c.a3 % 4294967296, c.a3 / 4294967296]

def wordE (p : Int) : Int := if p % 4 = 0 ∧ p < 40 then 0 else 1
def CallD.word (c : CallD) (p : Int) : Int := if p % 4 = 0 ∧ p < 40 then (c.record[(p / 4).toNat]?).getD 0 else 0

theorem places {p : Int} (h0 : 0 ≤ p) (h : p % 4 = 0 ∧ p < 40) : p = 0 ∨ p = 4 ∨ p = 8 ∨ p = 12 ∨ p = 16 ∨ p = 20 ∨ p = 24 ∨ p = 28 ∨ p = 32 ∨ p = 36 := by omega

set_option maxHeartbeats 1000000 in
theorem word_any (c : CallD) (p : Int) (w : World) (hc : c.ok) (h0 : 0 ≤ p) (h1 : p < 4294967296) :
    Calls Try.prog 19 #[c.v, .int .u32 p] w fun e w' => e = .returned (.tuple #[.int .u32 (c.word p), errV (wordE p)]) ∧ Below w.heap.size w w' := by
  by_cases hp : p % 4 = 0 ∧ p < 40
  · have HW : Hid (c.word p = (c.record[(p / 4).toNat]?).getD 0) := by show _ = _; unfold CallD.word; rw [if_pos hp]
    have HE : Hid (wordE p = 0) := by show _ = _; unfold wordE; rw [if_pos hp]
    obtain ⟨arch, nr, a0, a1, a2, a3⟩ := c
    obtain ⟨⟨_, _⟩, ⟨_, _⟩, ⟨p0, q0⟩, ⟨p1, q1⟩, ⟨p2, q2⟩, ⟨p3, q3⟩⟩ := hc
    simp only at p0 q0 p1 q1 p2 q2 p3 q3
    unfold CallD.v CallD.record at *
    simp only at HW ⊢
    rcases places h0 hp with rfl | rfl | rfl | rfl | rfl | rfl | rfl | rfl | rfl | rfl
    all_goals
      clear h0 h1 hp
      go_enter Try.func19, Try.ntmps19
      go_wp2
      go_returns
      refine ⟨by rw [HW.out, HE.out]; rfl, by go_grown⟩
  · have HW : Hid (c.word p = 0) := by show _ = _; unfold CallD.word; rw [if_neg hp]
    have HE : Hid (wordE p = 1) := by show _ = _; unfold wordE; rw [if_neg hp]
    obtain ⟨arch, nr, a0, a1, a2, a3⟩ := c
    clear hc
    unfold CallD.v at *
    go_enter Try.func19, Try.ntmps19
    go_wp2
    all_goals first
      | (exfalso; omega)
      | (go_returns
         refine ⟨by rw [HW.out, HE.out]; rfl, by go_grown⟩)

end Go.Proofs.Ytmgngapkgcofnab
