/- Shared words of the proofs over doorward: errors as values, and the contract of 'same'. -/
import Derived.Test.YtmgngapkgcofnaaGreatDoorProg
import Derived.WalkKit
import Derived.WalkSpells
import Derived.WalkLawsBesides
import Derived.BigGuardPart
import Derived.Lib.Hide
import Derived.Handy
import Derived.Outline
import Derived.KernelRfl
import Derived.Laws.BitsAllLaws
import Derived.ProofKit
import Derived.OpenShut
import Derived.Deep.Slices
namespace Go.Proofs.YtmgngapkgcofnaaGreatDoor
open Go.RowKit

/-- An error of package api by its number; 0: nil. -/
def errV (n : Int) : Value := if n = 0 then .nilIface else .iface 63 (.int .i64 n)
theorem errV_zero : errV 0 = .nilIface := rfl
theorem errV_pos {n : Int} (h : n ≠ 0) : errV n = .iface 63 (.int .i64 n) := if_neg h

theorem below_box {B : Nat} {w wr w' : World} {o : Obj} (hb : Below B w wr) (hB : B ≤ w.heap.size) (h : Below (wr.alloc o).heap.size (wr.alloc o) w') : Below B w w' :=
  (hb.alloc (Nat.le_trans hB hb.size) o).trans (h.mono (by have := hb.size; simp; omega))
theorem below_then {B : Nat} {w wr w' : World} (hb : Below B w wr) (hB : B ≤ w.heap.size) (h : Below wr.heap.size wr w') : Below B w w' :=
  hb.trans (h.mono (by have := hb.size; omega))

theorem cell_via {B : Nat} {w a b : World} {k o : Nat} {v : Value} (h2 : Below B w b) (h1 : Below B w a) (hp : k < B) (h : a.cell? ⟨k, o, none⟩ = some v) : b.cell? ⟨k, o, none⟩ = some v :=
  (h2.cell (p := ⟨k, o, none⟩) hp).trans ((h1.cell (p := ⟨k, o, none⟩) hp).symm.trans h)

theorem ret_bool {a b : Bool} (h : a = b) : Ending.returned (.bool a) = .returned (.bool b) := by rw [h]
theorem ret_int {k : IntKind} {a b : Int} (h : a = b) : Ending.returned (.int k a) = .returned (.int k b) := by rw [h]

theorem assert_errno (n : Int) (w : World) : (Instr.typeAssert (.iface 63 (.int .i64 n)) 29 63 true).run Tryz.prog w = .ok (.tuple #[.int .i64 n, .bool true]) w := by kernel_rfl

theorem same_any (n f : Int) (w : World) (hn : 0 ≤ n) :
    Calls Tryz.prog 8 #[errV n, .int .i64 f] w fun e w' => e = .returned (.bool (decide (n = f))) ∧ w = w' := by
  by_cases h : n = 0
  · subst h
    rw [errV_zero]
    go_enter Tryz.func8, Tryz.ntmps8
    go_wp2
    go_ret
    refine ⟨ret_bool ?_, rfl⟩
    rw [Bool.eq_iff_iff]; simp <;> omega
  · rw [errV_pos h]
    have h1 : 1 ≤ n := by omega
    clear h hn
    have ha := assert_errno
    go_enter Tryz.func8, Tryz.ntmps8
    go_wp2
    all_goals
      go_ret
      refine ⟨ret_bool ?_, rfl⟩
      rw [Bool.eq_iff_iff]; simp <;> omega

end Go.Proofs.YtmgngapkgcofnaaGreatDoor
/- The reference's Kind: a call's argument's kind, out of a table of texts. -/
namespace Go.Proofs.YtmgngapkgcofnaaGreatDoor
open Go.RowKit

def kindT : List (List Int) := [[1, 1, 0, 0], [1, 1, 0, 0], [2, 1, 1, 0], [1, 0, 0, 0], [2, 0, 0, 0], [2, 2, 0, 0], [1, 3, 0, 0], [2, 2, 1, 0], [1, 1, 3, 1]]
def kindF (i k : Nat) : Int := (kindT.getD i []).getD k 0
theorem kindIdx0 (w : World) : (Instr.index 105 (.agg #[.string ⟨#[49, 49]⟩, .string ⟨#[49, 49]⟩, .string ⟨#[50, 49, 49]⟩, .string ⟨#[49]⟩, .string ⟨#[50]⟩, .string ⟨#[50, 50]⟩, .string ⟨#[49, 51]⟩, .string ⟨#[50, 50, 49]⟩, .string ⟨#[49, 49, 51, 49]⟩]) (.int .i64 0)).run Tryz.prog w = .ok (.string ⟨#[49, 49]⟩) w := by kernel_rfl
theorem kindIdx1 (w : World) : (Instr.index 105 (.agg #[.string ⟨#[49, 49]⟩, .string ⟨#[49, 49]⟩, .string ⟨#[50, 49, 49]⟩, .string ⟨#[49]⟩, .string ⟨#[50]⟩, .string ⟨#[50, 50]⟩, .string ⟨#[49, 51]⟩, .string ⟨#[50, 50, 49]⟩, .string ⟨#[49, 49, 51, 49]⟩]) (.int .i64 1)).run Tryz.prog w = .ok (.string ⟨#[49, 49]⟩) w := by kernel_rfl
theorem kindIdx2 (w : World) : (Instr.index 105 (.agg #[.string ⟨#[49, 49]⟩, .string ⟨#[49, 49]⟩, .string ⟨#[50, 49, 49]⟩, .string ⟨#[49]⟩, .string ⟨#[50]⟩, .string ⟨#[50, 50]⟩, .string ⟨#[49, 51]⟩, .string ⟨#[50, 50, 49]⟩, .string ⟨#[49, 49, 51, 49]⟩]) (.int .i64 2)).run Tryz.prog w = .ok (.string ⟨#[50, 49, 49]⟩) w := by kernel_rfl
theorem kindIdx3 (w : World) : (Instr.index 105 (.agg #[.string ⟨#[49, 49]⟩, .string ⟨#[49, 49]⟩, .string ⟨#[50, 49, 49]⟩, .string ⟨#[49]⟩, .string ⟨#[50]⟩, .string ⟨#[50, 50]⟩, .string ⟨#[49, 51]⟩, .string ⟨#[50, 50, 49]⟩, .string ⟨#[49, 49, 51, 49]⟩]) (.int .i64 3)).run Tryz.prog w = .ok (.string ⟨#[49]⟩) w := by kernel_rfl
theorem kindIdx4 (w : World) : (Instr.index 105 (.agg #[.string ⟨#[49, 49]⟩, .string ⟨#[49, 49]⟩, .string ⟨#[50, 49, 49]⟩, .string ⟨#[49]⟩, .string ⟨#[50]⟩, .string ⟨#[50, 50]⟩, .string ⟨#[49, 51]⟩, .string ⟨#[50, 50, 49]⟩, .string ⟨#[49, 49, 51, 49]⟩]) (.int .i64 4)).run Tryz.prog w = .ok (.string ⟨#[50]⟩) w := by kernel_rfl
theorem kindIdx5 (w : World) : (Instr.index 105 (.agg #[.string ⟨#[49, 49]⟩, .string ⟨#[49, 49]⟩, .string ⟨#[50, 49, 49]⟩, .string ⟨#[49]⟩, .string ⟨#[50]⟩, .string ⟨#[50, 50]⟩, .string ⟨#[49, 51]⟩, .string ⟨#[50, 50, 49]⟩, .string ⟨#[49, 49, 51, 49]⟩]) (.int .i64 5)).run Tryz.prog w = .ok (.string ⟨#[50, 50]⟩) w := by kernel_rfl
theorem kindIdx6 (w : World) : (Instr.index 105 (.agg #[.string ⟨#[49, 49]⟩, .string ⟨#[49, 49]⟩, .string ⟨#[50, 49, 49]⟩, .string ⟨#[49]⟩, .string ⟨#[50]⟩, .string ⟨#[50, 50]⟩, .string ⟨#[49, 51]⟩, .string ⟨#[50, 50, 49]⟩, .string ⟨#[49, 49, 51, 49]⟩]) (.int .i64 6)).run Tryz.prog w = .ok (.string ⟨#[49, 51]⟩) w := by kernel_rfl
theorem kindIdx7 (w : World) : (Instr.index 105 (.agg #[.string ⟨#[49, 49]⟩, .string ⟨#[49, 49]⟩, .string ⟨#[50, 49, 49]⟩, .string ⟨#[49]⟩, .string ⟨#[50]⟩, .string ⟨#[50, 50]⟩, .string ⟨#[49, 51]⟩, .string ⟨#[50, 50, 49]⟩, .string ⟨#[49, 49, 51, 49]⟩]) (.int .i64 7)).run Tryz.prog w = .ok (.string ⟨#[50, 50, 49]⟩) w := by kernel_rfl
theorem kindIdx8 (w : World) : (Instr.index 105 (.agg #[.string ⟨#[49, 49]⟩, .string ⟨#[49, 49]⟩, .string ⟨#[50, 49, 49]⟩, .string ⟨#[49]⟩, .string ⟨#[50]⟩, .string ⟨#[50, 50]⟩, .string ⟨#[49, 51]⟩, .string ⟨#[50, 50, 49]⟩, .string ⟨#[49, 49, 51, 49]⟩]) (.int .i64 8)).run Tryz.prog w = .ok (.string ⟨#[49, 49, 51, 49]⟩) w := by kernel_rfl

set_option maxRecDepth 100000 in
set_option maxHeartbeats 4000000 in
theorem kind_any (i k : Nat) (w : World) (hi : i < 9) (hk : k < 4) :
    Calls Tryz.prog 50 #[.int .i64 (i : Int), .int .i64 (k : Int)] w fun e w' => e = .returned (.int .i64 (kindF i k)) ∧ Below w.heap.size w w' := by
  have h1 : i = 0 ∨ i = 1 ∨ i = 2 ∨ i = 3 ∨ i = 4 ∨ i = 5 ∨ i = 6 ∨ i = 7 ∨ i = 8 := by omega
  have h2 : k = 0 ∨ k = 1 ∨ k = 2 ∨ k = 3 := by omega
  clear hi hk
  rcases h1 with rfl | rfl | rfl | rfl | rfl | rfl | rfl | rfl | rfl
  · have hx := kindIdx0
    rcases h2 with rfl | rfl | rfl | rfl
    all_goals
      go_enter Tryz.func50, Tryz.ntmps50
      go_wp2
      go_returns
      exact ⟨rfl, by go_grown⟩
  · have hx := kindIdx1
    rcases h2 with rfl | rfl | rfl | rfl
    all_goals
      go_enter Tryz.func50, Tryz.ntmps50
      go_wp2
      go_returns
      exact ⟨rfl, by go_grown⟩
  · have hx := kindIdx2
    rcases h2 with rfl | rfl | rfl | rfl
    all_goals
      go_enter Tryz.func50, Tryz.ntmps50
      go_wp2
      go_returns
      exact ⟨rfl, by go_grown⟩
  · have hx := kindIdx3
    rcases h2 with rfl | rfl | rfl | rfl
    all_goals
      go_enter Tryz.func50, Tryz.ntmps50
      go_wp2
      go_returns
      exact ⟨rfl, by go_grown⟩
  · have hx := kindIdx4
    rcases h2 with rfl | rfl | rfl | rfl
    all_goals
      go_enter Tryz.func50, Tryz.ntmps50
      go_wp2
      go_returns
      exact ⟨rfl, by go_grown⟩
  · have hx := kindIdx5
    rcases h2 with rfl | rfl | rfl | rfl
    all_goals
      go_enter Tryz.func50, Tryz.ntmps50
      go_wp2
      go_returns
      exact ⟨rfl, by go_grown⟩
  · have hx := kindIdx6
    rcases h2 with rfl | rfl | rfl | rfl
    all_goals
      go_enter Tryz.func50, Tryz.ntmps50
      go_wp2
      go_returns
      exact ⟨rfl, by go_grown⟩
  · have hx := kindIdx7
    rcases h2 with rfl | rfl | rfl | rfl
    all_goals
      go_enter Tryz.func50, Tryz.ntmps50
      go_wp2
      go_returns
      exact ⟨rfl, by go_grown⟩
  · have hx := kindIdx8
    rcases h2 with rfl | rfl | rfl | rfl
    all_goals
      go_enter Tryz.func50, Tryz.ntmps50
      go_wp2
      go_returns
      exact ⟨rfl, by go_grown⟩

end Go.Proofs.YtmgngapkgcofnaaGreatDoor
/- Great zero values: nothing is wanted here, the load has their facts. -/
namespace Go.Proofs.YtmgngapkgcofnaaGreatDoor
end Go.Proofs.YtmgngapkgcofnaaGreatDoor
/- Package bpf and its reference: the contracts of branch, one, Check, ProgramFault. -/
namespace Go.Proofs.YtmgngapkgcofnaaGreatDoor
open Go.RowKit

structure Ins where
  op : Int
  jt : Int
  jf : Int
  k : Int
deriving DecidableEq

def Ins.v (x : Ins) : Value := .agg #[.int .i64 x.op, .int .i64 x.jt, .int .i64 x.jf, .int .u32 x.k]
def Ins.ok (x : Ins) : Prop := 0 ≤ x.k ∧ x.k < 4294967296
/-- Where the row's cells lie: four a place. -/
def InsRow (w : World) (b o : Nat) (l : List Ins) : Prop :=
  ∀ i x, l[i]? = some x → w.cell? ⟨b, o + i * 4, none⟩ = some (.int .i64 x.op) ∧ w.cell? ⟨b, o + i * 4 + 1, none⟩ = some (.int .i64 x.jt) ∧
    w.cell? ⟨b, o + i * 4 + 2, none⟩ = some (.int .i64 x.jf) ∧ w.cell? ⟨b, o + i * 4 + 3, none⟩ = some (.int .u32 x.k)
theorem InsRow.below {w w' : World} {B b o : Nat} {l : List Ins} (h : InsRow w b o l) (hb : Below B w w') (hB : b < B) : InsRow w' b o l := fun i x hx => by
  obtain ⟨a, b, c, d⟩ := h i x hx
  exact ⟨(hb.cell (p := ⟨_, _, none⟩) hB).trans a, (hb.cell (p := ⟨_, _, none⟩) hB).trans b, (hb.cell (p := ⟨_, _, none⟩) hB).trans c, (hb.cell (p := ⟨_, _, none⟩) hB).trans d⟩
/-- A slice value that reads as a program, below block B. -/
def InsSl (w : World) (B : Nat) (v : Value) (l : List Ins) : Prop :=
  (∀ x ∈ l, x.ok) ∧ ∃ A c, v = .slice A l.length c ∧ (l = [] ∨ ∃ b o, A = some ⟨b, o, none⟩ ∧ b < B ∧ InsRow w b o l)
theorem InsSl.below {w w' : World} {B : Nat} {v : Value} {l : List Ins} (h : InsSl w B v l) (hb : Below B w w') : InsSl w' B v l := by
  obtain ⟨h0, A, c, h1, h2⟩ := h
  refine ⟨h0, A, c, h1, h2.imp id ?_⟩
  rintro ⟨b, o, ha, hB, hr⟩
  exact ⟨b, o, ha, hB, hr.below hb hB⟩
theorem InsSl.mono {w : World} {B B' : Nat} {v : Value} {l : List Ins} (h : InsSl w B v l) (hb : B ≤ B') : InsSl w B' v l := by
  obtain ⟨h0, A, c, h1, h2⟩ := h
  refine ⟨h0, A, c, h1, h2.imp id ?_⟩
  rintro ⟨b, o, ha, hB, hr⟩
  exact ⟨b, o, ha, by omega, hr⟩

def oneF (op jt jf k b : Int) : Int :=
  if op < 1 ∨ 8 < op ∨ jt < 0 ∨ 255 < jt ∨ jf < 0 ∨ 255 < jf then 1
  else if ¬ (4 ≤ op ∧ op ≤ 7) ∧ 0 < jt + jf then 3
  else if op = 1 ∧ (0 < k % 4 ∨ 40 ≤ k) then 1
  else if op = 3 ∧ b ≤ k then 1
  else if (4 ≤ op ∧ op ≤ 7) ∧ b ≤ max jt jf then 1
  else 0

/-- The first fault of the instructions, each held against how many stand behind it. -/
def scanF : List Ins → Int
  | [] => 0
  | x :: r => if oneF x.op x.jt x.jf x.k r.length = 0 then scanF r else oneF x.op x.jt x.jf x.k r.length
def checkF (l : List Ins) : Int :=
  if l.length = 0 ∨ 4096 < l.length then 2 else if scanF l ≠ 0 then scanF l else if (l[l.length - 1]?).map (·.op) = some 8 then 0 else 3

theorem scanF_drop {l : List Ins} {k : Nat} (h : k < l.length) : scanF (l.drop k) =
    if oneF l[k].op l[k].jt l[k].jf l[k].k ((l.length : Int) - 1 - k) = 0 then scanF (l.drop (k + 1)) else oneF l[k].op l[k].jt l[k].jf l[k].k ((l.length : Int) - 1 - k) := by
  rw [List.drop_eq_getElem_cons h, scanF]
  have : (((l.drop (k + 1)).length : Nat) : Int) = (l.length : Int) - 1 - k := by rw [List.length_drop]; omega
  rw [this]

theorem oneF_range (op jt jf k b : Int) : oneF op jt jf k b = 0 ∨ oneF op jt jf k b = 1 ∨ oneF op jt jf k b = 3 := by
  unfold oneF
  repeat' split
  all_goals simp

theorem scanF_range (l : List Ins) : scanF l = 0 ∨ scanF l = 1 ∨ scanF l = 3 := by
  induction l with
  | nil => exact Or.inl rfl
  | cons x r ih =>
    unfold scanF
    split
    · exact ih
    · exact oneF_range _ _ _ _ _
theorem checkF_range (l : List Ins) : checkF l = 0 ∨ checkF l = 1 ∨ checkF l = 2 ∨ checkF l = 3 := by
  have := scanF_range l
  unfold checkF
  repeat' split
  all_goals omega

end Go.Proofs.YtmgngapkgcofnaaGreatDoor
/- A call's record: record, Word of the reference, Word of bpf. -/
namespace Go.Proofs.YtmgngapkgcofnaaGreatDoor
open Go.RowKit

structure CallD where
  arch : Int
  nr : Int
  a0 : Int
  a1 : Int
  a2 : Int
  a3 : Int
def CallD.v (c : CallD) : Value := .agg #[.int .u32 c.arch, .int .u32 c.nr, .int .u64 c.a0, .int .u64 c.a1, .int .u64 c.a2, .int .u64 c.a3]
def u64ok (x : Int) : Prop := 0 ≤ x ∧ x ≤ 18446744073709551615
def u32ok (x : Int) : Prop := 0 ≤ x ∧ x < 4294967296
def CallD.ok (c : CallD) : Prop := u32ok c.arch ∧ u32ok c.nr ∧ u64ok c.a0 ∧ u64ok c.a1 ∧ u64ok c.a2 ∧ u64ok c.a3
def CallD.record (c : CallD) : List Int := [c.nr, c.arch, c.a0 % 4294967296, c.a0 / 4294967296, c.a1 % 4294967296, c.a1 / 4294967296, c.a2 % 4294967296, c.a2 / 4294967296, c.a3 % 4294967296, c.a3 / 4294967296]

def wordE (p : Int) : Int := if p % 4 = 0 ∧ p < 40 then 0 else 1
def CallD.word (c : CallD) (p : Int) : Int := if p % 4 = 0 ∧ p < 40 then (c.record[(p / 4).toNat]?).getD 0 else 0

theorem places {p : Int} (h0 : 0 ≤ p) (h : p % 4 = 0 ∧ p < 40) : p = 0 ∨ p = 4 ∨ p = 8 ∨ p = 12 ∨ p = 16 ∨ p = 20 ∨ p = 24 ∨ p = 28 ∨ p = 32 ∨ p = 36 := by omega

end Go.Proofs.YtmgngapkgcofnaaGreatDoor
/- Run of bpf: what a program returns of a call, in how many steps. -/
namespace Go.Proofs.YtmgngapkgcofnaaGreatDoor
open Go.RowKit

def holdsF (op a k : Int) : Bool := if op = 4 then a == k else if op = 5 then decide (k < a) else if op = 6 then decide (k ≤ a) else (bits .and .u32 a k) != 0
/-- From a place on, the number at hand, the steps done: what is returned, and in how many steps; so many rounds at most. -/
def runF (l : List Ins) (c : CallD) : Nat → Nat → Int → Int → Int × Int
  | 0, _, _, st => (0, st)
  | n + 1, p, a, st =>
    match l[p]? with
    | none => (0, st)
    | some i =>
      if i.op = 1 then runF l c n (p + 1) (c.word i.k) (st + 1)
      else if i.op = 2 then runF l c n (p + 1) (bits .and .u32 a i.k) (st + 1)
      else if i.op = 3 then runF l c n (p + 1 + i.k.toNat) a (st + 1)
      else if i.op = 8 then (i.k, st + 1)
      else if holdsF i.op a i.k then runF l c n (p + 1 + i.jt.toNat) a (st + 1) else runF l c n (p + 1 + i.jf.toNat) a (st + 1)

/-- What Check lets through of an instruction, of which so many stand behind it. -/
structure Fine (x : Ins) (b : Int) : Prop where
  op : 1 ≤ x.op ∧ x.op ≤ 8
  jt : 0 ≤ x.jt ∧ x.jt ≤ 255
  jf : 0 ≤ x.jf ∧ x.jf ≤ 255
  word : x.op = 1 → x.k % 4 = 0 ∧ x.k < 40
  jump : x.op = 3 → x.k < b
  branch : 4 ≤ x.op → x.op ≤ 7 → x.jt < b ∧ x.jf < b
theorem fine_of {x : Ins} {b : Int} (hok : x.ok) (h : oneF x.op x.jt x.jf x.k b = 0) : Fine x b := by
  obtain ⟨k0, k1⟩ := hok
  unfold oneF at h
  repeat' split at h
  all_goals first
    | (exfalso; omega)
    | (constructor <;> omega)
theorem fine_at {l : List Ins} (hok : ∀ x ∈ l, x.ok) (h : scanF l = 0) : ∀ (k : Nat) (hk : k < l.length), Fine l[k] ((l.length : Int) - 1 - k) := by
  induction l with
  | nil => intro k hk; simp at hk
  | cons x r ih =>
    unfold scanF at h
    split at h
    · next h0 =>
      intro k hk
      cases k with
      | zero =>
        have := fine_of (hok x (by simp)) h0
        have e : (((x :: r).length : Nat) : Int) - 1 - ((0 : Nat) : Int) = (r.length : Int) := by simp
        rw [e]; exact this
      | succ k =>
        have := ih (fun y hy => hok y (by simp [hy])) h k (by simpa using hk)
        have e : (((x :: r).length : Nat) : Int) - 1 - ((k + 1 : Nat) : Int) = (r.length : Int) - 1 - k := by simp; omega
        rw [e]; simpa using this
    · next h0 => exact absurd h h0
/-- Check passes: within the bounds, each instruction fine, the last a Ret. -/
theorem check_ok {l : List Ins} (h : checkF l = 0) : 0 < l.length ∧ l.length ≤ 4096 ∧ scanF l = 0 ∧ (l[l.length - 1]?).map (·.op) = some 8 := by
  unfold checkF at h
  split at h
  · omega
  · next h1 =>
    split at h
    · next h2 => exact absurd h h2
    · next h2 =>
      split at h
      · next h3 => exact ⟨by omega, by omega, by omega, h3⟩
      · omega

end Go.Proofs.YtmgngapkgcofnaaGreatDoor
/- bpf.Run: the walk. -/
namespace Go.Proofs.YtmgngapkgcofnaaGreatDoor
open Go.RowKit

def RunR (l : List Ins) (c : CallD) (e : Ending) : Prop :=
  if checkF l = 0 then e = .returned (.tuple #[.int .u32 (runF l c l.length 0 0 0).1, .int .i64 (runF l c l.length 0 0 0).2, errV 0])
  else e = .returned (.tuple #[.int .u32 0, .int .i64 0, errV (checkF l)])

theorem runF_1 {l : List Ins} {c : CallD} {n p : Nat} {a st : Int} (h : p < l.length) (h1 : l[p].op = 1) : runF l c (n + 1) p a st = runF l c n (p + 1) (c.word l[p].k) (st + 1) := by
  rw [runF, List.getElem?_eq_getElem h]; simp only; rw [if_pos h1]
theorem runF_2 {l : List Ins} {c : CallD} {n p : Nat} {a st : Int} (h : p < l.length) (h1 : l[p].op = 2) : runF l c (n + 1) p a st = runF l c n (p + 1) (bits .and .u32 a l[p].k) (st + 1) := by
  rw [runF, List.getElem?_eq_getElem h]; simp only; rw [if_neg (by omega), if_pos h1]
theorem runF_3 {l : List Ins} {c : CallD} {n p : Nat} {a st : Int} (h : p < l.length) (h1 : l[p].op = 3) : runF l c (n + 1) p a st = runF l c n (p + 1 + l[p].k.toNat) a (st + 1) := by
  rw [runF, List.getElem?_eq_getElem h]; simp only; rw [if_neg (by omega), if_neg (by omega), if_pos h1]
theorem runF_8 {l : List Ins} {c : CallD} {n p : Nat} {a st : Int} (h : p < l.length) (h1 : l[p].op = 8) : runF l c (n + 1) p a st = (l[p].k, st + 1) := by
  rw [runF, List.getElem?_eq_getElem h]; simp only; rw [if_neg (by omega), if_neg (by omega), if_neg (by omega), if_pos h1]
theorem runF_b {l : List Ins} {c : CallD} {n p : Nat} {a st : Int} (h : p < l.length) (h1 : 4 ≤ l[p].op ∧ l[p].op ≤ 7) : runF l c (n + 1) p a st =
    if holdsF l[p].op a l[p].k then runF l c n (p + 1 + l[p].jt.toNat) a (st + 1) else runF l c n (p + 1 + l[p].jf.toNat) a (st + 1) := by
  rw [runF, List.getElem?_eq_getElem h]; simp only; rw [if_neg (by omega), if_neg (by omega), if_neg (by omega), if_neg (by omega)]
theorem and_range {a k : Int} (a0 : 0 ≤ a) (a1 : a < 4294967296) (k0 : 0 ≤ k) (k1 : k < 4294967296) : 0 ≤ bits .and .u32 a k ∧ bits .and .u32 a k < 4294967296 := by
  rw [u32_and a k a0 a1 k0 k1]
  have : a.toNat &&& k.toNat ≤ a.toNat := Nat.and_le_left
  omega
theorem word_range (c : CallD) (hc : c.ok) (p : Int) : 0 ≤ c.word p ∧ c.word p < 4294967296 := by
  obtain ⟨⟨_, _⟩, ⟨_, _⟩, ⟨_, _⟩, ⟨_, _⟩, ⟨_, _⟩, ⟨_, _⟩⟩ := hc
  unfold CallD.word
  split
  · next h =>
    have hall : ∀ x ∈ c.record, 0 ≤ x ∧ x < 4294967296 := by
      intro x hx
      simp only [CallD.record, List.mem_cons, List.not_mem_nil, or_false] at hx
      rcases hx with rfl | rfl | rfl | rfl | rfl | rfl | rfl | rfl | rfl | rfl <;> omega
    cases hg : c.record[(p / 4).toNat]? with
    | none => simp
    | some x => exact hall x (List.mem_of_getElem? hg)
  · omega

end Go.Proofs.YtmgngapkgcofnaaGreatDoor
/- Verdicts of numbers: comp.Verdict and the reference's VerdictOf: the walks. -/
namespace Go.Proofs.YtmgngapkgcofnaaGreatDoor
open Go.RowKit

def verV (k e r : Int) : Value := .agg #[.int .i64 k, .int .i64 e, .int .i64 r]
def verdF (n : Nat) : Option (Int × Int × Int) :=
  if n / 65536 = 32767 then (if n % 65536 = 0 then some (1, 0, 0) else none)
  else if n / 65536 = 0 then (if n % 65536 = 0 then some (3, 0, 0) else none)
  else if n / 65536 = 5 then (if 0 < n % 65536 ∧ n % 65536 < 256 then some (2, (n % 65536 : Nat), 0) else none)
  else if n / 65536 = 32752 then (if n % 65536 < 12 then some (4, 0, (n % 65536 : Nat)) else none)
  else none
theorem verdF_at (n lo hi : Nat) (hlo : lo = n % 65536) (hhi : hi = n / 65536) : verdF n = (if hi = 32767 then (if lo = 0 then some (1, 0, 0) else none)
  else if hi = 0 then (if lo = 0 then some (3, 0, 0) else none)
  else if hi = 5 then (if 0 < lo ∧ lo < 256 then some (2, (lo : Int), 0) else none)
  else if hi = 32752 then (if lo < 12 then some (4, 0, (lo : Int)) else none)
  else none) := by
  subst hlo hhi
  rfl
end Go.Proofs.YtmgngapkgcofnaaGreatDoor
/- Arguments opened: a call by value, a program's slice. -/
namespace Go.Proofs.YtmgngapkgcofnaaGreatDoor
open Go.RowKit Go.WideShapes Go.ChangeShapes Go.Deep

section
variable {H : Type} {enc : TypeId × Value → H} {w : World} {base : Nat} {spare : Nat → Bool} {held : Bool} {fuel : Nat}

theorem u32_cell {cs : List Value} {x : DataW H × List MemPlace} (h : DataW.trod enc Tryz.prog w base spare held fuel 37 cs = some x) : ∃ n, cs = [.int .u32 n] ∧ u32ok n := by
  obtain ⟨n, h1, _, h2⟩ := DataW.trod_int Tryz.underlying37 h
  have := bounds_u32 h2
  exact ⟨n, h1, by constructor <;> omega⟩
theorem u64_cell {cs : List Value} {x : DataW H × List MemPlace} (h : DataW.trod enc Tryz.prog w base spare held fuel 38 cs = some x) : ∃ n, cs = [.int .u64 n] ∧ u64ok n := by
  obtain ⟨n, h1, _, h2⟩ := DataW.trod_int Tryz.underlying38 h
  have := bounds_u64 h2
  exact ⟨n, h1, by constructor <;> omega⟩
theorem int_cell {cs : List Value} {x : DataW H × List MemPlace} (h : DataW.trod enc Tryz.prog w base spare held fuel 3 cs = some x) : ∃ n, cs = [.int .i64 n] ∧ (Lit.int .i64 n).wf = true := by
  obtain ⟨n, h1, _, h2⟩ := DataW.trod_int Tryz.underlying3 h
  exact ⟨n, h1, h2⟩
theorem list4 {α : Type} {l : List α} (h : l.length = 4) : ∃ a b c d, l = [a, b, c, d] := by
  match l, h with
  | [a, b, c, d], _ => exact ⟨a, b, c, d, rfl⟩
theorem list6 {α : Type} {l : List α} (h : l.length = 6) : ∃ a b c d e f, l = [a, b, c, d, e, f] := by
  match l, h with
  | [a, b, c, d, e, f], _ => exact ⟨a, b, c, d, e, f, rfl⟩
theorem list3 {α : Type} {l : List α} (h : l.length = 3) : ∃ a b c, l = [a, b, c] := by
  match l, h with
  | [a, b, c], _ => exact ⟨a, b, c, rfl⟩
theorem cells40 : Tryz.prog.cellsOf 41 = 6 := by kernel_rfl
theorem cells38 : Tryz.prog.cellsOf 39 = 4 := by kernel_rfl
theorem cells36 : Tryz.prog.cellsOf 37 = 1 := by kernel_rfl
theorem cells37 : Tryz.prog.cellsOf 38 = 1 := by kernel_rfl
theorem cells3 : Tryz.prog.cellsOf 3 = 1 := by kernel_rfl
theorem args_cells {cs : List Value} {x : DataW H × List MemPlace} (h : DataW.trod enc Tryz.prog w base spare held fuel 39 cs = some x) :
    ∃ a0 a1 a2 a3, cs = [.int .u64 a0, .int .u64 a1, .int .u64 a2, .int .u64 a3] ∧ u64ok a0 ∧ u64ok a1 ∧ u64ok a2 ∧ u64ok a3 := by
  obtain ⟨xs, m, _, _, hl, hxl, hf⟩ := DataW.trod_array Tryz.underlying39 h
  rw [cells38] at hl
  simp only [cells37] at hf
  obtain ⟨c0, c1, c2, c3, rfl⟩ := list4 hl
  obtain ⟨x0, x1, x2, x3, rfl⟩ := list4 hxl
  obtain ⟨a0, e0, k0⟩ := u64_cell (hf 0 (by omega))
  obtain ⟨a1, e1, k1⟩ := u64_cell (hf 1 (by omega))
  obtain ⟨a2, e2, k2⟩ := u64_cell (hf 2 (by omega))
  obtain ⟨a3, e3, k3⟩ := u64_cell (hf 3 (by omega))
  simp at e0 e1 e2 e3
  subst e0 e1 e2 e3
  exact ⟨a0, a1, a2, a3, rfl, k0, k1, k2, k3⟩
theorem call_cells {cs : List Value} {x : DataW H × List MemPlace} (h : DataW.trod enc Tryz.prog w base spare held fuel 41 cs = some x) :
    ∃ c : CallD, cs = [.int .u32 c.arch, .int .u32 c.nr, .int .u64 c.a0, .int .u64 c.a1, .int .u64 c.a2, .int .u64 c.a3] ∧ c.ok := by
  obtain ⟨xs, m, _, _, hl, hxl, hf⟩ := DataW.trod_struct Tryz.underlying41 h
  rw [cells40] at hl
  obtain ⟨c0, c1, c2, c3, c4, c5, rfl⟩ := list6 hl
  obtain ⟨x0, x1, x2, rfl⟩ := list3 hxl
  have f0 := hf 0 _ rfl
  have f1 := hf 1 _ rfl
  have f2 := hf 2 _ rfl
  simp [cells36, cells38] at f0 f1 f2
  obtain ⟨ar, e0, k0⟩ := u32_cell f0
  obtain ⟨nr, e1, k1⟩ := u32_cell f1
  obtain ⟨a0, a1, a2, a3, e2, q0, q1, q2, q3⟩ := args_cells f2
  simp at e0 e1 e2
  obtain ⟨rfl, rfl, rfl, rfl⟩ := e2
  subst e0 e1
  exact ⟨⟨ar, nr, a0, a1, a2, a3⟩, rfl, k0, k1, q0, q1, q2, q3⟩
set_option maxRecDepth 100000 in
theorem open_call {r : Reach} {b0 : Nat} {v : Value} {d : DataW H} {p : List MemPlace} (hv : Value.okWide Tryz.prog w r b0 41 v) (h : DataW.Trod enc Tryz.prog w base spare held 41 v d p) :
    ∃ c : CallD, v = c.v ∧ c.ok := by
  obtain ⟨cs, rfl, _⟩ := okWide_struct Tryz.underlying41 hv
  obtain ⟨fuel, hf⟩ := h
  obtain ⟨c, hc, hok⟩ := call_cells hf
  refine ⟨c, ?_, hok⟩
  obtain ⟨cs⟩ := cs
  simp only [Value.cells] at hc
  unfold CallD.v
  rw [hc]
theorem block_lt {w : World} {a : Addr} {v : Value} (h : w.cell? a = some v) : a.block < w.heap.size := by
  rcases Nat.lt_or_ge a.block w.heap.size with h1 | h1
  · exact h1
  · unfold World.cell? at h
    rw [Array.getElem?_eq_none h1] at h
    cases h
end
end Go.Proofs.YtmgngapkgcofnaaGreatDoor
