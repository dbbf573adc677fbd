/- Shared words of the proofs over doorward: errors as values, and the contract of 'same'. -/
import Derived.Test.YtmgngapkgcofnabDoorProg
import Derived.WalkKit
import Derived.WalkSpells
import Derived.WalkLawsBesides
import Derived.BigGuardPart
import Derived.Lib.Hide
import Derived.Handy
import Derived.Outline
import Derived.KernelRfl
namespace Go.Proofs.YtmgngapkgcofnabDoor
open Go.RowKit

/-- An error of package api by its number; 0: nil. -/
def errV (n : Int) : Value := if n = 0 then .nilIface else .iface 64 (.int .i64 n)
theorem errV_zero : errV 0 = .nilIface := rfl
theorem errV_pos {n : Int} (h : n ≠ 0) : errV n = .iface 64 (.int .i64 n) := if_neg h

theorem below_box {B : Nat} {w wr w' : World} {o : Obj} (hb : Below B w wr) (hB : B ≤ w.heap.size) (h : Below (wr.alloc o).heap.size (wr.alloc o) w') : Below B w w' :=
  (hb.alloc (Nat.le_trans hB hb.size) o).trans (h.mono (by have := hb.size; simp; omega))
theorem below_then {B : Nat} {w wr w' : World} (hb : Below B w wr) (hB : B ≤ w.heap.size) (h : Below wr.heap.size wr w') : Below B w w' :=
  hb.trans (h.mono (by have := hb.size; omega))

theorem cell_via {B : Nat} {w a b : World} {k o : Nat} {v : Value} (h2 : Below B w b) (h1 : Below B w a) (hp : k < B) (h : a.cell? ⟨k, o, none⟩ = some v) : b.cell? ⟨k, o, none⟩ = some v :=
  (h2.cell (p := ⟨k, o, none⟩) hp).trans ((h1.cell (p := ⟨k, o, none⟩) hp).symm.trans h)

theorem ret_bool {a b : Bool} (h : a = b) : Ending.returned (.bool a) = .returned (.bool b) := by rw [h]
theorem ret_int {k : IntKind} {a b : Int} (h : a = b) : Ending.returned (.int k a) = .returned (.int k b) := by rw [h]

theorem assert_errno (n : Int) (w : World) : (Instr.typeAssert (.iface 64 (.int .i64 n)) 26 64 true).run Tryd.prog w = .ok (.tuple #[.int .i64 n, .bool true]) w := by kernel_rfl

end Go.Proofs.YtmgngapkgcofnabDoor
/- The reference's Kind: a call's argument's kind, out of a table of texts. -/
namespace Go.Proofs.YtmgngapkgcofnabDoor
open Go.RowKit

def kindT : List (List Int) := [[1, 1, 0, 0], [1, 1, 0, 0], [2, 1, 1, 0], [1, 0, 0, 0], [2, 0, 0, 0], [2, 2, 0, 0], [1, 3, 0, 0], [2, 2, 1, 0], [1, 1, 3, 1]]
def kindF (i k : Nat) : Int := (kindT.getD i []).getD k 0
end Go.Proofs.YtmgngapkgcofnabDoor
/- Great zero values: nothing is wanted here, the load has their facts. -/
namespace Go.Proofs.YtmgngapkgcofnabDoor
end Go.Proofs.YtmgngapkgcofnabDoor
/- Package bpf and its reference: the contracts of branch, one, Check, ProgramFault. -/
namespace Go.Proofs.YtmgngapkgcofnabDoor
open Go.RowKit

structure Ins where
  op : Int
  jt : Int
  jf : Int
  k : Int
deriving DecidableEq

def Ins.v (x : Ins) : Value := .agg #[.int .i64 x.op, .int .i64 x.jt, .int .i64 x.jf, .int .u32 x.k]
def Ins.ok (x : Ins) : Prop := 0 ≤ x.k ∧ x.k < 4294967296
/-- Where the row's cells lie: four a place. -/
def InsRow (w : World) (b o : Nat) (l : List Ins) : Prop :=
  ∀ i x, l[i]? = some x → w.cell? ⟨b, o + i * 4, none⟩ = some (.int .i64 x.op) ∧ w.cell? ⟨b, o + i * 4 + 1, none⟩ = some (.int .i64 x.jt) ∧
    w.cell? ⟨b, o + i * 4 + 2, none⟩ = some (.int .i64 x.jf) ∧ w.cell? ⟨b, o + i * 4 + 3, none⟩ = some (.int .u32 x.k)
theorem InsRow.below {w w' : World} {B b o : Nat} {l : List Ins} (h : InsRow w b o l) (hb : Below B w w') (hB : b < B) : InsRow w' b o l := fun i x hx => by
  obtain ⟨a, b, c, d⟩ := h i x hx
  exact ⟨(hb.cell (p := ⟨_, _, none⟩) hB).trans a, (hb.cell (p := ⟨_, _, none⟩) hB).trans b, (hb.cell (p := ⟨_, _, none⟩) hB).trans c, (hb.cell (p := ⟨_, _, none⟩) hB).trans d⟩
/-- A slice value that reads as a program, below block B. -/
def InsSl (w : World) (B : Nat) (v : Value) (l : List Ins) : Prop :=
  (∀ x ∈ l, x.ok) ∧ ∃ A c, v = .slice A l.length c ∧ (l = [] ∨ ∃ b o, A = some ⟨b, o, none⟩ ∧ b < B ∧ InsRow w b o l)
theorem InsSl.below {w w' : World} {B : Nat} {v : Value} {l : List Ins} (h : InsSl w B v l) (hb : Below B w w') : InsSl w' B v l := by
  obtain ⟨h0, A, c, h1, h2⟩ := h
  refine ⟨h0, A, c, h1, h2.imp id ?_⟩
  rintro ⟨b, o, ha, hB, hr⟩
  exact ⟨b, o, ha, hB, hr.below hb hB⟩
theorem InsSl.mono {w : World} {B B' : Nat} {v : Value} {l : List Ins} (h : InsSl w B v l) (hb : B ≤ B') : InsSl w B' v l := by
  obtain ⟨h0, A, c, h1, h2⟩ := h
  refine ⟨h0, A, c, h1, h2.imp id ?_⟩
  rintro ⟨b, o, ha, hB, hr⟩
  exact ⟨b, o, ha, by omega, hr⟩

def oneF (op jt jf k b : Int) : Int :=
  if op < 1 ∨ 8 < op ∨ jt < 0 ∨ 255 < jt ∨ jf < 0 ∨ 255 < jf then 1
  else if ¬ (4 ≤ op ∧ op ≤ 7) ∧ 0 < jt + jf then 3
  else if op = 1 ∧ (0 < k % 4 ∨ 40 ≤ k) then 1
  else if op = 3 ∧ b ≤ k then 1
  else if (4 ≤ op ∧ op ≤ 7) ∧ b ≤ max jt jf then 1
  else 0

/-- The first fault of the instructions, each held against how many stand behind it. -/
def scanF : List Ins → Int
  | [] => 0
  | x :: r => if oneF x.op x.jt x.jf x.k r.length = 0 then scanF r else oneF x.op x.jt x.jf x.k r.length
def checkF (l : List Ins) : Int :=
  if l.length = 0 ∨ 4096 < l.length then 2 else if scanF l ≠ 0 then scanF l else if (l[l.length - 1]?).map (·.op) = some 8 then 0 else 3

theorem scanF_drop {l : List Ins} {k : Nat} (h : k < l.length) : scanF (l.drop k) =
    if oneF l[k].op l[k].jt l[k].jf l[k].k ((l.length : Int) - 1 - k) = 0 then scanF (l.drop (k + 1)) else oneF l[k].op l[k].jt l[k].jf l[k].k ((l.length : Int) - 1 - k) := by
  rw [List.drop_eq_getElem_cons h, scanF]
  have : (((l.drop (k + 1)).length : Nat) : Int) = (l.length : Int) - 1 - k := by rw [List.length_drop]; omega
  rw [this]

theorem oneF_range (op jt jf k b : Int) : oneF op jt jf k b = 0 ∨ oneF op jt jf k b = 1 ∨ oneF op jt jf k b = 3 := by
  unfold oneF
  repeat' split
  all_goals simp

theorem scanF_range (l : List Ins) : scanF l = 0 ∨ scanF l = 1 ∨ scanF l = 3 := by
  induction l with
  | nil => exact Or.inl rfl
  | cons x r ih =>
    unfold scanF
    split
    · exact ih
    · exact oneF_range _ _ _ _ _
theorem checkF_range (l : List Ins) : checkF l = 0 ∨ checkF l = 1 ∨ checkF l = 2 ∨ checkF l = 3 := by
  have := scanF_range l
  unfold checkF
  repeat' split
  all_goals omega

end Go.Proofs.YtmgngapkgcofnabDoor
/- A call's record: record, Word of the reference, Word of bpf. -/
namespace Go.Proofs.YtmgngapkgcofnabDoor
open Go.RowKit

structure CallD where
  arch : Int
  nr : Int
  a0 : Int
  a1 : Int
  a2 : Int
  a3 : Int
def CallD.v (c : CallD) : Value := .agg #[.int .u32 c.arch, .int .u32 c.nr, .int .u64 c.a0, .int .u64 c.a1, .int .u64 c.a2, .int .u64 c.a3]
def u64ok (x : Int) : Prop := 0 ≤ x ∧ x ≤ 18446744073709551615
def u32ok (x : Int) : Prop := 0 ≤ x ∧ x < 4294967296
def CallD.ok (c : CallD) : Prop := u32ok c.arch ∧ u32ok c.nr ∧ u64ok c.a0 ∧ u64ok c.a1 ∧ u64ok c.a2 ∧ u64ok c.a3
def CallD.record (c : CallD) : List Int := [c.nr, c.arch, c.a0 % 4294967296, c.a0 / 4294967296, c.a1 % 4294967296, c.a1 / 4294967296, c.a2 % 4294967296, c.a2 / 4294967296, c.a3 % 4294967296, c.a3 / 4294967296]

def wordE (p : Int) : Int := if p % 4 = 0 ∧ p < 40 then 0 else 1
def CallD.word (c : CallD) (p : Int) : Int := if p % 4 = 0 ∧ p < 40 then (c.record[(p / 4).toNat]?).getD 0 else 0

theorem places {p : Int} (h0 : 0 ≤ p) (h : p % 4 = 0 ∧ p < 40) : p = 0 ∨ p = 4 ∨ p = 8 ∨ p = 12 ∨ p = 16 ∨ p = 20 ∨ p = 24 ∨ p = 28 ∨ p = 32 ∨ p = 36 := by omega

end Go.Proofs.YtmgngapkgcofnabDoor
