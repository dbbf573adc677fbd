/- Policies as plain data; actions: checkAction and the reference's actionFault. -/
import Derived.Test.YtmgngapkgcofnabDoorP02
namespace Go.Proofs.YtmgngapkgcofnabDoor
open Go.RowKit

structure CondD where
  arg : Int
  op : Int
  v : Int
  m : Int
  glob : ByteArray
  net : NetD
def CondD.row (c : CondD) : List Value := [.int .i64 c.arg, .int .i64 c.op, .int .u64 c.v, .int .u64 c.m, .string c.glob, .int .u32 c.net.ip, .int .i64 c.net.bits, .int .i64 c.net.lo, .int .i64 c.net.hi]
def CondD.val (c : CondD) : Value := .agg #[.int .i64 c.arg, .int .i64 c.op, .int .u64 c.v, .int .u64 c.m, .string c.glob, .int .u32 c.net.ip, .int .i64 c.net.bits, .int .i64 c.net.lo, .int .i64 c.net.hi]
def CondD.ok (c : CondD) : Prop := (Lit.int .i64 c.arg).wf = true ∧ (Lit.int .i64 c.op).wf = true ∧ (0 ≤ c.v ∧ c.v < 18446744073709551616) ∧ (0 ≤ c.m ∧ c.m < 18446744073709551616) ∧ c.glob.size ≤ maxLen ∧ c.net.ok
structure RuleD where
  nr : Int
  conds : List CondD
  kind : Int
  errno : Int
structure PolD where
  rules : List RuleD
  kind : Int
  errno : Int
def actV (kind errno : Int) : Value := .agg #[.int .i64 kind, .int .i64 errno]
def actF (kind errno : Int) : Int := if kind = 1 ∨ kind = 3 then (if errno = 0 then 0 else 3) else if kind = 2 then (if errno < 1 ∨ 255 < errno then 1 else 0) else 3
theorem actF_ge (k e : Int) : 0 ≤ actF k e := by
  unfold actF
  split
  · split <;> omega
  · split
    · split <;> omega
    · omega
set_option linter.unusedSimpArgs false in
set_option maxHeartbeats 2000000 in
theorem checkAction_any (k e : Int) (w : World) :
    Calls Tryd.prog 28 #[actV k e] w fun e' w' => e' = .returned (errV (actF k e)) ∧ Below w.heap.size w w' := by
  unfold actV
  by_cases h1 : k = 1 ∨ k = 3
  · by_cases h2 : e = 0
    · have HF : Hid (errV (actF k e) = .nilIface) := by show _ = _; unfold actF; rw [if_pos h1, if_pos h2]; rfl
      subst h2
      rcases h1 with rfl | rfl
      all_goals
        go_enter Tryd.func28, Tryd.ntmps28
        go_wp2_with fail
        go_ret
        exact ⟨by rw [HF.out]; rfl, by go_grown⟩
    · have HF : Hid (errV (actF k e) = .iface 64 (.int .i64 3)) := by show _ = _; unfold actF; rw [if_pos h1, if_neg h2]; rfl
      rcases h1 with rfl | rfl
      all_goals
        go_enter Tryd.func28, Tryd.ntmps28
        go_wp2_with fail
        go_ret
        exact ⟨by rw [HF.out]; rfl, by go_grown⟩
  · have k1 : ¬ k = 1 := fun h => h1 (Or.inl h)
    have k3 : ¬ k = 3 := fun h => h1 (Or.inr h)
    by_cases h2 : k = 2
    · by_cases h3 : e < 1
      · have HF : Hid (errV (actF k e) = .iface 64 (.int .i64 1)) := by show _ = _; unfold actF; rw [if_neg h1, if_pos h2, if_pos (Or.inl h3)]; rfl
        subst h2
        clear h1 k1 k3
        go_enter Tryd.func28, Tryd.ntmps28
        go_wp2_with fail
        go_ret
        exact ⟨by rw [HF.out]; rfl, by go_grown⟩
      · by_cases h4 : 255 < e
        · have HF : Hid (errV (actF k e) = .iface 64 (.int .i64 1)) := by show _ = _; unfold actF; rw [if_neg h1, if_pos h2, if_pos (Or.inr h4)]; rfl
          subst h2
          clear h1 k1 k3
          go_enter Tryd.func28, Tryd.ntmps28
          go_wp2_with fail
          go_ret
          exact ⟨by rw [HF.out]; rfl, by go_grown⟩
        · have HF : Hid (errV (actF k e) = .nilIface) := by show _ = _; unfold actF; rw [if_neg h1, if_pos h2, if_neg (fun h => h.elim h3 h4)]; rfl
          subst h2
          clear h1 k1 k3
          go_enter Tryd.func28, Tryd.ntmps28
          go_wp2_with fail
          go_ret
          exact ⟨by rw [HF.out]; rfl, by go_grown⟩
    · have HF : Hid (errV (actF k e) = .iface 64 (.int .i64 3)) := by show _ = _; unfold actF; rw [if_neg h1, if_neg h2]; rfl
      clear h1
      go_enter Tryd.func28, Tryd.ntmps28
      go_wp2_with fail
      go_ret
      exact ⟨by rw [HF.out]; rfl, by go_grown⟩

end Go.Proofs.YtmgngapkgcofnabDoor
