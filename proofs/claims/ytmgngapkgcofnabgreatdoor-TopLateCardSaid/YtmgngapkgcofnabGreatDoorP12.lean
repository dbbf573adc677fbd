/- Package mem: New, Seal: the walks; laws of a new variable and of a string copied. -/
import Derived.Test.YtmgngapkgcofnabGreatDoorP11
import Derived.Lib.LazyBuf
namespace Go.Proofs.YtmgngapkgcofnabGreatDoor
open Go.RowKit Go.PlainAid
theorem wpList_allocTo {P : Program} {ops : Array Oper} {rest : List Oper} {o : Oper} {a : Act} {w : World} {Q : Exit → Act → World → Prop} (hg : o.guard = none) (t : TypeId) (ho : o.op = .alloc t)
  (dst : Option Tmp) (hdst : o.dst = dst) (N : Nat) (hN : w.heap.size = N) (z : Value) (hz : (P.info? t).bind (·.zero) = some z) (cells : Array Value) (hx : z.cells = cells)
  (h : wpList P ops Q rest (a.put dst (.pointer (some ⟨N, 0, none⟩))) (w.alloc (.cells cells t))) : wpList P ops Q (o :: rest) a w := by
 subst hdst hN hx; obtain ⟨i, hi, hiz⟩ := Option.bind_eq_some_iff.1 hz; refine wpList_plain hg fun K hK => ?_; unfold Oper.wp execOp; simp [ho, Sem.run_bind, Instr.alloc, zeroValue, typeInfo, hi, hiz, newVar, newRow, Result.andThen]; exact hK _ _ h
theorem wpList_copyStr {P : Program} {ops : Array Oper} {rest : List Oper} {o : Oper} {a : Act} {w : World} {Q : Exit → Act → World → Prop} (hgd : o.guard = none) (x y : Operand) (dT sT e : TypeId)
  (ho : o.op = .call { callee := .builtin .copy, args := #[x, y], argTypes := #[dT, sT] }) (hu : P.underlying dT = some (.slice e)) (hz : ∀ w, (Go.sizeOf e).run P w = .ok 1 w)
  (b k n c : Nat) (s : ByteArray) (hx : a.eval x = .slice (some ⟨b, k, none⟩) n c) (hy : a.eval y = .string s) (hs : s.size ≤ n) (hth : w.there b k s.size) (d : Option Tmp) (hd : o.dst = d) (vs : List Value) (hvs : s.data.toList.map (fun x => Value.int .u8 (x.toNat : Int)) = vs)
  (h : wpList P ops Q rest (a.put d (goInt s.size)) (w.setCells b k vs)) : wpList P ops Q (o :: rest) a w := by
 subst hd hvs; refine wpList_plain hgd fun K hK => ?_; have hrun := run_copy_string (P := P) w dT sT o.type e b k n c s hu hz hs (fun j hj => (hth j hj).1) (fun j hj => (hth j hj).2); unfold Oper.wp execOp; simp [ho, resolve, invoke, builtin, hx, hy, hrun, Result.andThen]; exact hK _ _ h
def memZero : Array Value := rowOf 532 fun i => if i < 528 then (if i % 66 < 64 then .int .u8 0 else .bool false) else .pointer none
theorem memZero_new (i : Nat) (_ : i < 532) : (if i < 528 then (if i % 66 < 64 then .int .u8 0 else .bool false) else .pointer none : Value) = memCell MemS.new (fun _ => none) i := by
 unfold memCell MemS.new
 by_cases h1 : i < 528
 ·rw [if_pos h1, if_pos h1]; simp
 ·rw [if_neg h1, if_neg h1]; rfl
theorem zero_mem : Tryz.zeroCells161 = memZero := by kernel_rfl
theorem new_ok : MemS.new.ok := ⟨fun _ _ => by simp [MemS.new], fun _ _ h => by simp [MemS.new] at h⟩
set_option maxRecDepth 100000 in
set_option maxHeartbeats 2000000 in
theorem memNew_any (w : World) :
  Calls Tryz.prog 38 #[] w fun e w' => e = .returned (.pointer (some ⟨w.heap.size, 0, none⟩)) ∧ w'.heap.size = w.heap.size + 1 ∧ (∀ B : Nat → Prop, B w.heap.size → MemAt w' B w.heap.size MemS.new) ∧ Below w.heap.size w w' := by
 have hF : Hid (∀ B : Nat → Prop, B w.heap.size → MemAt (w.alloc (.cells Tryz.zeroCells161 161)) B w.heap.size MemS.new) := fun B hB => by
  rw [zero_mem]; exact ⟨hB, new_ok, _, fun _ => none, heap_alloc_new _ _, memZero_new, fun _ _ => trivial⟩
 go_enter Tryz.func38, Tryz.ntmps38
 go_wp2_with fail; go_ret; exact ⟨rfl, by simp, hF.out, (Below.refl _ _).alloc (Nat.le_refl _) _⟩
end Go.Proofs.YtmgngapkgcofnabGreatDoor
