/- Run of bpf: what a program returns of a call, in how many steps. -/
import Derived.Test.YtmgngapkgcofnabDoorP01
import Derived.Laws.BitsAllLaws
namespace Go.Proofs.YtmgngapkgcofnabDoor
open Go.RowKit

def holdsF (op a k : Int) : Bool := if op = 4 then a == k else if op = 5 then decide (k < a) else if op = 6 then decide (k ≤ a) else (bits .and .u32 a k) != 0
/-- From a place on, the number at hand, the steps done: what is returned, and in how many steps; so many rounds at most. -/
def runF (l : List Ins) (c : CallD) : Nat → Nat → Int → Int → Int × Int
  | 0, _, _, st => (0, st)
  | n + 1, p, a, st =>
    match l[p]? with
    | none => (0, st)
    | some i =>
      if i.op = 1 then runF l c n (p + 1) (c.word i.k) (st + 1)
      else if i.op = 2 then runF l c n (p + 1) (bits .and .u32 a i.k) (st + 1)
      else if i.op = 3 then runF l c n (p + 1 + i.k.toNat) a (st + 1)
      else if i.op = 8 then (i.k, st + 1)
      else if holdsF i.op a i.k then runF l c n (p + 1 + i.jt.toNat) a (st + 1) else runF l c n (p + 1 + i.jf.toNat) a (st + 1)

/-- What Check lets through of an instruction, of which so many stand behind it. -/
structure Fine (x : Ins) (b : Int) : Prop where
  op : 1 ≤ x.op ∧ x.op ≤ 8
  jt : 0 ≤ x.jt ∧ x.jt ≤ 255
  jf : 0 ≤ x.jf ∧ x.jf ≤ 255
  word : x.op = 1 → x.k % 4 = 0 ∧ x.k < 40
  jump : x.op = 3 → x.k < b
  branch : 4 ≤ x.op → x.op ≤ 7 → x.jt < b ∧ x.jf < b
theorem fine_of {x : Ins} {b : Int} (hok : x.ok) (h : oneF x.op x.jt x.jf x.k b = 0) : Fine x b := by
  obtain ⟨k0, k1⟩ := hok
  unfold oneF at h
  repeat' split at h
  all_goals first
    | (exfalso; omega)
    | (constructor <;> omega)
theorem fine_at {l : List Ins} (hok : ∀ x ∈ l, x.ok) (h : scanF l = 0) : ∀ (k : Nat) (hk : k < l.length), Fine l[k] ((l.length : Int) - 1 - k) := by
  induction l with
  | nil => intro k hk; simp at hk
  | cons x r ih =>
    unfold scanF at h
    split at h
    · next h0 =>
      intro k hk
      cases k with
      | zero =>
        have := fine_of (hok x (by simp)) h0
        have e : (((x :: r).length : Nat) : Int) - 1 - ((0 : Nat) : Int) = (r.length : Int) := by simp
        rw [e]; exact this
      | succ k =>
        have := ih (fun y hy => hok y (by simp [hy])) h k (by simpa using hk)
        have e : (((x :: r).length : Nat) : Int) - 1 - ((k + 1 : Nat) : Int) = (r.length : Int) - 1 - k := by simp; omega
        rw [e]; simpa using this
    · next h0 => exact absurd h h0
/-- Check passes: within the bounds, each instruction fine, the last a Ret. -/
theorem check_ok {l : List Ins} (h : checkF l = 0) : 0 < l.length ∧ l.length ≤ 4096 ∧ scanF l = 0 ∧ (l[l.length - 1]?).map (·.op) = some 8 := by
  unfold checkF at h
  split at h
  · omega
  · next h1 =>
    split at h
    · next h2 => exact absurd h h2
    · next h2 =>
      split at h
      · next h3 => exact ⟨by omega, by omega, by omega, h3⟩
      · omega

end Go.Proofs.YtmgngapkgcofnabDoor
