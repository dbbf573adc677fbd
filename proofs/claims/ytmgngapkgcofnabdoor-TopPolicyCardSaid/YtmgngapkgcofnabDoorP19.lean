/- bpf.Run: the walk. -/
import Derived.Test.YtmgngapkgcofnabDoorP18
namespace Go.Proofs.YtmgngapkgcofnabDoor
open Go.RowKit

def RunR (l : List Ins) (c : CallD) (e : Ending) : Prop :=
  if checkF l = 0 then e = .returned (.tuple #[.int .u32 (runF l c l.length 0 0 0).1, .int .i64 (runF l c l.length 0 0 0).2, errV 0])
  else e = .returned (.tuple #[.int .u32 0, .int .i64 0, errV (checkF l)])

theorem runF_1 {l : List Ins} {c : CallD} {n p : Nat} {a st : Int} (h : p < l.length) (h1 : l[p].op = 1) : runF l c (n + 1) p a st = runF l c n (p + 1) (c.word l[p].k) (st + 1) := by
  rw [runF, List.getElem?_eq_getElem h]; simp only; rw [if_pos h1]
theorem runF_2 {l : List Ins} {c : CallD} {n p : Nat} {a st : Int} (h : p < l.length) (h1 : l[p].op = 2) : runF l c (n + 1) p a st = runF l c n (p + 1) (bits .and .u32 a l[p].k) (st + 1) := by
  rw [runF, List.getElem?_eq_getElem h]; simp only; rw [if_neg (by omega), if_pos h1]
theorem runF_3 {l : List Ins} {c : CallD} {n p : Nat} {a st : Int} (h : p < l.length) (h1 : l[p].op = 3) : runF l c (n + 1) p a st = runF l c n (p + 1 + l[p].k.toNat) a (st + 1) := by
  rw [runF, List.getElem?_eq_getElem h]; simp only; rw [if_neg (by omega), if_neg (by omega), if_pos h1]
theorem runF_8 {l : List Ins} {c : CallD} {n p : Nat} {a st : Int} (h : p < l.length) (h1 : l[p].op = 8) : runF l c (n + 1) p a st = (l[p].k, st + 1) := by
  rw [runF, List.getElem?_eq_getElem h]; simp only; rw [if_neg (by omega), if_neg (by omega), if_neg (by omega), if_pos h1]
theorem runF_b {l : List Ins} {c : CallD} {n p : Nat} {a st : Int} (h : p < l.length) (h1 : 4 ≤ l[p].op ∧ l[p].op ≤ 7) : runF l c (n + 1) p a st =
    if holdsF l[p].op a l[p].k then runF l c n (p + 1 + l[p].jt.toNat) a (st + 1) else runF l c n (p + 1 + l[p].jf.toNat) a (st + 1) := by
  rw [runF, List.getElem?_eq_getElem h]; simp only; rw [if_neg (by omega), if_neg (by omega), if_neg (by omega), if_neg (by omega)]
theorem and_range {a k : Int} (a0 : 0 ≤ a) (a1 : a < 4294967296) (k0 : 0 ≤ k) (k1 : k < 4294967296) : 0 ≤ bits .and .u32 a k ∧ bits .and .u32 a k < 4294967296 := by
  rw [u32_and a k a0 a1 k0 k1]
  have : a.toNat &&& k.toNat ≤ a.toNat := Nat.and_le_left
  omega
theorem word_range (c : CallD) (hc : c.ok) (p : Int) : 0 ≤ c.word p ∧ c.word p < 4294967296 := by
  obtain ⟨⟨_, _⟩, ⟨_, _⟩, ⟨_, _⟩, ⟨_, _⟩, ⟨_, _⟩, ⟨_, _⟩⟩ := hc
  unfold CallD.word
  split
  · next h =>
    have hall : ∀ x ∈ c.record, 0 ≤ x ∧ x < 4294967296 := by
      intro x hx
      simp only [CallD.record, List.mem_cons, List.not_mem_nil, or_false] at hx
      rcases hx with rfl | rfl | rfl | rfl | rfl | rfl | rfl | rfl | rfl | rfl <;> omega
    cases hg : c.record[(p / 4).toNat]? with
    | none => simp
    | some x => exact hall x (List.mem_of_getElem? hg)
  · omega

end Go.Proofs.YtmgngapkgcofnabDoor
