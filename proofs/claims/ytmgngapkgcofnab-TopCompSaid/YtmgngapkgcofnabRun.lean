/- Run of bpf: what a program returns of a call, in how many steps. -/
import Derived.Test.YtmgngapkgcofnabBpf
import Derived.Test.YtmgngapkgcofnabWord
import Derived.Laws.BitsAllLaws
namespace Go.Proofs.Ytmgngapkgcofnab
open Go.RowKit

def holdsF (op a k : Int) : Bool := if op = 4 then a == k else if op = 5 then decide (k < a) else if op = 6 then decide (k ≤ a) else (bits .and .u32 a k) != 0
/-- From a place on, the number at hand, the steps done: what is returned, and in how many steps; so many rounds at most. -/
def runF (l : List Ins) (c : CallD) : Nat → Nat → Int → Int → Int × Int
  | 0, _, _, st => (0, st)
  | n + 1, p, a, st =>
    match l[p]? with
    | none => (0, st)
    | some i =>
      if i.op = 1 then runF l c n (p + 1) (c.word i.k) (st + 1)
      else if i.op = 2 then runF l c n (p + 1) (bits .and .u32 a i.k) (st + 1)
      else if i.op = 3 then runF l c n (p + 1 + i.k.toNat) a (st + 1)
      else if i.op = 8 then (i.k, st + 1)
      else if holdsF i.op a i.k then runF l c n (p + 1 + i.jt.toNat) a (st + 1) else runF l c n (p + 1 + i.jf.toNat) a (st + 1)

/-- What Check lets through of an instruction, of which so many stand behind it. -/
structure Fine (x : Ins) (b : Int) : Prop where
  op : 1 ≤ x.op ∧ x.op ≤ 8
  jt : 0 ≤ x.jt ∧ x.jt ≤ 255
  jf : 0 ≤ x.jf ∧ x.jf ≤ 255
  word : x.op = 1 → x.k % 4 = 0 ∧ x.k < 40
  jump : x.op = 3 → x.k < b
  branch : 4 ≤ x.op → x.op ≤ 7 → x.jt < b ∧ x.jf < b
theorem fine_of {x : Ins} {b : Int} (hok : x.ok) (h : oneF x.op x.jt x.jf x.k b = 0) : Fine x b := by
  obtain ⟨k0, k1⟩ := hok
  unfold oneF at h
  repeat' split at h
  all_goals first
    | (exfalso; omega)
    | (constructor <;> omega)
theorem fine_at {l : List Ins} (hok : ∀ x ∈ l, x.ok) (h : scanF l = 0) : ∀ (k : Nat) (hk : k < l.length), Fine l[k] ((l.length : Int) - 1 - k) := by
  induction l with
  | nil => intro k hk; simp at hk
  | cons x r ih =>
    unfold scanF at h
    split at h
    · next h0 =>
      intro k hk
      cases k with
      | zero =>
        have := fine_of (hok x (by simp)) h0
        have e : (((x :: r).length : Nat) : Int) - 1 - ((0 : Nat) : Int) = (r.length : Int) := by simp
        rw [e]; exact this
      | succ k =>
        have := ih (fun y hy => hok y (by simp [hy])) h k (by simpa using hk)
        have e : (((x :: r).length : Nat) : Int) - 1 - ((k + 1 : Nat) : Int) = (r.length : Int) - 1 - k := by simp; omega
        rw [e]; simpa using this
    · next h0 => exact absurd h h0
/-- Check passes: within the bounds, each instruction fine, the last a Ret. -/
theorem check_ok {l : List Ins} (h : checkF l = 0) : 0 < l.length ∧ l.length ≤ 4096 ∧ scanF l = 0 ∧ (l[l.length - 1]?).map (·.op) = some 8 := by
  unfold checkF at h
  split at h
  · omega
  · next h1 =>
    split at h
    · next h2 => exact absurd h h2
    · next h2 =>
      split at h
      · next h3 => exact ⟨by omega, by omega, by omega, h3⟩
      · omega

theorem holds_any (op a k : Int) (w : World) :
    Calls Try.prog 20 #[.int .i64 op, .int .u32 a, .int .u32 k] w fun e w' => e = .returned (.bool (holdsF op a k)) ∧ w = w' := by
  by_cases h4 : op = 4
  · subst h4
    go_enter Try.func20, Try.ntmps20
    go_wp2
    go_ret
    exact ⟨rfl, rfl⟩
  by_cases h5 : op = 5
  · subst h5
    go_enter Try.func20, Try.ntmps20
    go_wp2
    go_ret
    exact ⟨rfl, rfl⟩
  by_cases h6 : op = 6
  · subst h6
    go_enter Try.func20, Try.ntmps20
    go_wp2
    go_ret
    exact ⟨rfl, rfl⟩
  have HF : Hid (holdsF op a k = ((bits .and .u32 a k) != 0)) := by show _ = _; unfold holdsF; rw [if_neg h4, if_neg h5, if_neg h6]
  have b4 : (op == 4) = false := beq_eq_false_iff_ne.2 h4
  have b5 : (op == 5) = false := beq_eq_false_iff_ne.2 h5
  have b6 : (op == 6) = false := beq_eq_false_iff_ne.2 h6
  clear h4 h5 h6
  go_enter Try.func20, Try.ntmps20
  go_wp2
  go_ret
  exact ⟨by rw [HF.out]; rfl, rfl⟩

end Go.Proofs.Ytmgngapkgcofnab
