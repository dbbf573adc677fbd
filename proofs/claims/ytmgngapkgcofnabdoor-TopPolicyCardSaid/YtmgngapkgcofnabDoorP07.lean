/- Conditions: what is wrong with one; plain words; Forms' and Kind's tables by index. -/
import Derived.Test.YtmgngapkgcofnabDoorP03
import Derived.Test.YtmgngapkgcofnabDoorP04
import Derived.Test.YtmgngapkgcofnabDoorP01
import Derived.Test.YtmgngapkgcofnabDoorP06
import Derived.Laws.StructEq
namespace Go.Proofs.YtmgngapkgcofnabDoor
open Go.RowKit

def kindOf (op : Int) : Int := if op = 8 then 2 else if op = 9 then 3 else 1
def CondD.bad (nr : Nat) (c : CondD) : Prop := kindF nr c.arg.toNat ≠ kindOf c.op ∨ (c.op ≠ 7 ∧ c.m ≠ 0) ∨ (7 < c.op ∧ c.v ≠ 0) ∨ (c.op ≠ 8 ∧ c.glob.size ≠ 0) ∨ (c.op ≠ 9 ∧ c.net ≠ ⟨0, 0, 0, 0⟩)
instance (nr : Nat) (c : CondD) : Decidable (c.bad nr) := by unfold CondD.bad; infer_instance
def condF (nr : Nat) (c : CondD) : Int := if c.arg < 0 ∨ 3 < c.arg ∨ c.op < 1 ∨ 9 < c.op then 1 else if c.bad nr then 3 else if c.op = 8 then globF (bytesOf c.glob) else if c.op = 9 then netF c.net else 0
def formName (nr : Nat) : ByteArray := [(⟨#[114, 101, 97, 100]⟩ : ByteArray), ⟨#[119, 114, 105, 116, 101]⟩, ⟨#[111, 112, 101, 110]⟩, ⟨#[99, 108, 111, 115, 101]⟩, ⟨#[115, 116, 97, 116]⟩, ⟨#[114, 101, 110, 97, 109, 101]⟩, ⟨#[99, 111, 110, 110, 101, 99, 116]⟩, ⟨#[108, 105, 110, 107]⟩, ⟨#[115, 101, 110, 100]⟩].getD nr ⟨#[]⟩
theorem formIdx0 (w : World) : (Instr.index 93 (.agg formsRow) (.int .i64 0)).run Tryd.prog w = .ok (.agg #[.string (formName 0), .int .i64 (kindF 0 0), .int .i64 (kindF 0 1), .int .i64 (kindF 0 2), .int .i64 (kindF 0 3)]) w := by kernel_rfl
theorem formIdx1 (w : World) : (Instr.index 93 (.agg formsRow) (.int .i64 1)).run Tryd.prog w = .ok (.agg #[.string (formName 1), .int .i64 (kindF 1 0), .int .i64 (kindF 1 1), .int .i64 (kindF 1 2), .int .i64 (kindF 1 3)]) w := by kernel_rfl
theorem formIdx2 (w : World) : (Instr.index 93 (.agg formsRow) (.int .i64 2)).run Tryd.prog w = .ok (.agg #[.string (formName 2), .int .i64 (kindF 2 0), .int .i64 (kindF 2 1), .int .i64 (kindF 2 2), .int .i64 (kindF 2 3)]) w := by kernel_rfl
theorem formIdx3 (w : World) : (Instr.index 93 (.agg formsRow) (.int .i64 3)).run Tryd.prog w = .ok (.agg #[.string (formName 3), .int .i64 (kindF 3 0), .int .i64 (kindF 3 1), .int .i64 (kindF 3 2), .int .i64 (kindF 3 3)]) w := by kernel_rfl
theorem formIdx4 (w : World) : (Instr.index 93 (.agg formsRow) (.int .i64 4)).run Tryd.prog w = .ok (.agg #[.string (formName 4), .int .i64 (kindF 4 0), .int .i64 (kindF 4 1), .int .i64 (kindF 4 2), .int .i64 (kindF 4 3)]) w := by kernel_rfl
theorem formIdx5 (w : World) : (Instr.index 93 (.agg formsRow) (.int .i64 5)).run Tryd.prog w = .ok (.agg #[.string (formName 5), .int .i64 (kindF 5 0), .int .i64 (kindF 5 1), .int .i64 (kindF 5 2), .int .i64 (kindF 5 3)]) w := by kernel_rfl
theorem formIdx6 (w : World) : (Instr.index 93 (.agg formsRow) (.int .i64 6)).run Tryd.prog w = .ok (.agg #[.string (formName 6), .int .i64 (kindF 6 0), .int .i64 (kindF 6 1), .int .i64 (kindF 6 2), .int .i64 (kindF 6 3)]) w := by kernel_rfl
theorem formIdx7 (w : World) : (Instr.index 93 (.agg formsRow) (.int .i64 7)).run Tryd.prog w = .ok (.agg #[.string (formName 7), .int .i64 (kindF 7 0), .int .i64 (kindF 7 1), .int .i64 (kindF 7 2), .int .i64 (kindF 7 3)]) w := by kernel_rfl
theorem formIdx8 (w : World) : (Instr.index 93 (.agg formsRow) (.int .i64 8)).run Tryd.prog w = .ok (.agg #[.string (formName 8), .int .i64 (kindF 8 0), .int .i64 (kindF 8 1), .int .i64 (kindF 8 2), .int .i64 (kindF 8 3)]) w := by kernel_rfl
theorem formIdx (nr : Nat) (h : nr < 9) (w : World) : (Instr.index 93 (.agg formsRow) (.int .i64 (nr : Int))).run Tryd.prog w = .ok (.agg #[.string (formName nr), .int .i64 (kindF nr 0), .int .i64 (kindF nr 1), .int .i64 (kindF nr 2), .int .i64 (kindF nr 3)]) w := by
  have h1 : nr = 0 ∨ nr = 1 ∨ nr = 2 ∨ nr = 3 ∨ nr = 4 ∨ nr = 5 ∨ nr = 6 ∨ nr = 7 ∨ nr = 8 := by omega
  clear h
  rcases h1 with rfl | rfl | rfl | rfl | rfl | rfl | rfl | rfl | rfl
  · exact formIdx0 w
  · exact formIdx1 w
  · exact formIdx2 w
  · exact formIdx3 w
  · exact formIdx4 w
  · exact formIdx5 w
  · exact formIdx6 w
  · exact formIdx7 w
  · exact formIdx8 w
theorem argIdx (nr a : Nat) (h : a < 4) (w : World) : (Instr.index 90 (.agg #[.int .i64 (kindF nr 0), .int .i64 (kindF nr 1), .int .i64 (kindF nr 2), .int .i64 (kindF nr 3)]) (.int .i64 (a : Int))).run Tryd.prog w = .ok (.int .i64 (kindF nr a)) w := by
  have h1 : a = 0 ∨ a = 1 ∨ a = 2 ∨ a = 3 := by omega
  have hi : (Tryd.prog.info? 3).map (fun i => i.size) = some 1 := by kernel_rfl
  clear h
  rcases h1 with rfl | rfl | rfl | rfl <;> simp [Instr.index, run_underlying Tryd.underlying90, asIntOf, go_sem]
theorem isEmpty_of2 (t : ByteArray) : t.toList.isEmpty = decide (t.size = 0) := by
  rw [ByteArray.toList_eq, Bool.eq_iff_iff]
  simp [← ByteArray.size_data]
theorem formFld (s : ByteArray) (a b c d : Int) (w : World) : (Instr.field 92 (.agg #[.string s, .int .i64 a, .int .i64 b, .int .i64 c, .int .i64 d]) 1).run Tryd.prog w = .ok (.agg #[.int .i64 a, .int .i64 b, .int .i64 c, .int .i64 d]) w := by kernel_rfl
theorem netNeq (n : NetD) (w : World) : (binOp .neq 24 (.agg #[.int .u32 n.ip, .int .i64 n.bits, .int .i64 n.lo, .int .i64 n.hi]) (.agg #[.int .u32 0, .int .i64 0, .int .i64 0, .int .i64 0])).run Tryd.prog w = .ok (.bool (decide (n ≠ ⟨0, 0, 0, 0⟩))) w := by
  obtain ⟨ip, b, lo, hi⟩ := n
  simp only [NetD.mk.injEq, ne_eq]
  rw [run_neq_struct, run_equalIn_struct w 9999 _ _ _ (by kernel_rfl) (by kernel_rfl)]
  have hfs : (Tryd.prog.fieldsOf 24).toList.map (fun f => (f.name, f.type, f.offset)) = [("IP", 22, 0), ("Bits", 3, 1), ("Lo", 3, 2), ("Hi", 3, 3)] := by kernel_rfl
  obtain ⟨f0, f1, f2, f3, hl⟩ : ∃ f0 f1 f2 f3, (Tryd.prog.fieldsOf 24).toList = [f0, f1, f2, f3] := by
    generalize (Tryd.prog.fieldsOf 24).toList = l at hfs
    have hln : l.length = 4 := by have := congrArg List.length hfs; simpa using this
    match l, hln with
    | [a, b, c, d], _ => exact ⟨a, b, c, d, rfl⟩
  rw [hl] at hfs ⊢
  simp only [List.map_cons, List.map_nil, List.cons.injEq, Prod.mk.injEq, and_true] at hfs
  obtain ⟨⟨a0, a1, a2⟩, ⟨b0, b1, b2⟩, ⟨c0, c1, c2⟩, d0, d1, d2⟩ := hfs
  by_cases e0 : ip = 0 <;> by_cases e1 : b = 0 <;> by_cases e2 : lo = 0 <;> by_cases e3 : hi = 0 <;>
    simp [Op.eqFields, a0, a1, a2, b0, b1, b2, c0, c1, c2, d0, d1, d2, e0, e1, e2, e3, go_sem, part, isAgg, run_underlying Tryd.underlying22, run_underlying Tryd.underlying3, run_equalIn_int _ _ _ _ _ _ _ Tryd.underlying22, run_equalIn_int _ _ _ _ _ _ _ Tryd.underlying3]

end Go.Proofs.YtmgngapkgcofnabDoor
