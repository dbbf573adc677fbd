/- Programs as bytes and as rows of memory: words and plain lemmas. -/
import Derived.Test.YtmgngapkgcofnabDoorP01
import Derived.Deep.QuietTactic
import Derived.BigQuiet
import Derived.Deep.AppendLies
import Derived.Deep.RegionLaw
import Derived.PlainAid
import Derived.Laws.BitsAllLaws
namespace Go.Proofs.YtmgngapkgcofnabDoor
open Go.RowKit Go.PlainAid

def insOf (s : ByteArray) (i : Nat) : Ins :=
  ⟨bt s (8 * i), bt s (8 * i + 2), bt s (8 * i + 3), bt s (8 * i + 4) + 256 * bt s (8 * i + 5) + 65536 * bt s (8 * i + 6) + 16777216 * bt s (8 * i + 7)⟩
def insList (s : ByteArray) (n : Nat) : List Ins := (List.range n).map (insOf s)
def flat (l : List Ins) : List Value := l.flatMap fun x => [.int .i64 x.op, .int .i64 x.jt, .int .i64 x.jf, .int .u32 x.k]
theorem bt_extract (s : ByteArray) {a j : Nat} (hj : j < 8) (h : a + 8 ≤ s.size) : bt (s.extract a (a + 8)) j = bt s (a + j) := by
  have h1 : j < (s.extract a (a + 8)).size := by simp; omega
  unfold bt
  rw [dif_pos h1, dif_pos (by omega)]
  congr 1
  simp [ByteArray.getElem_extract]
theorem or32 {a b c d : Int} (a0 : 0 ≤ a) (a1 : a ≤ 255) (b0 : 0 ≤ b) (b1 : b ≤ 255) (c0 : 0 ≤ c) (c1 : c ≤ 255) (d0 : 0 ≤ d) (d1 : d ≤ 255) :
    bits BinOp.or IntKind.u32 (bits BinOp.or IntKind.u32 (bits BinOp.or IntKind.u32 (a % 4294967296) (b % 4294967296 * 256 % 4294967296)) (c % 4294967296 * 65536 % 4294967296)) (d % 4294967296 * 16777216 % 4294967296) =
      a + 256 * b + 65536 * c + 16777216 * d := by
  obtain ⟨x, rfl⟩ := Int.eq_ofNat_of_zero_le a0
  obtain ⟨y, rfl⟩ := Int.eq_ofNat_of_zero_le b0
  obtain ⟨z, rfl⟩ := Int.eq_ofNat_of_zero_le c0
  obtain ⟨t, rfl⟩ := Int.eq_ofNat_of_zero_le d0
  have e1 : ((x : Int) % 4294967296) = ((x : Nat) : Int) := by omega
  have e2 : ((y : Int) % 4294967296 * 256 % 4294967296) = ((y * 256 : Nat) : Int) := by omega
  have e3 : ((z : Int) % 4294967296 * 65536 % 4294967296) = ((z * 65536 : Nat) : Int) := by omega
  have e4 : ((t : Int) % 4294967296 * 16777216 % 4294967296) = ((t * 16777216 : Nat) : Int) := by omega
  rw [e1, e2, e3, e4, u32_or_nat _ _ (by omega) (by omega), Nat.or_comm, nat_join 8 _ _ (by omega) (by omega), u32_or_nat _ _ (by omega) (by omega), Nat.or_comm, nat_join 16 _ _ (by omega) (by omega), u32_or_nat _ _ (by omega) (by omega), Nat.or_comm, nat_join 24 _ _ (by omega) (by omega)]
  omega
theorem flat_append (l m : List Ins) : flat (l ++ m) = flat l ++ flat m := by simp [flat]
theorem insList_succ (s : ByteArray) (n : Nat) : insList s (n + 1) = insList s n ++ [insOf s n] := by simp [insList, List.range_succ]
theorem insList_length (s : ByteArray) (n : Nat) : (insList s n).length = n := by simp [insList]
def clean (s : ByteArray) (n : Nat) : Prop := ∀ j, j < n → bt s (8 * j + 1) = 0
instance (s : ByteArray) (n : Nat) : Decidable (clean s n) := by unfold clean; infer_instance

def parseF (s : ByteArray) : Option (List Ins) :=
  if s.size % 8 ≠ 0 ∨ 32768 < s.size then none
  else if clean s (s.size / 8) then (if checkF (insList s (s.size / 8)) = 0 then some (insList s (s.size / 8)) else none) else none

theorem own_ge {w : World} {base : Nat} {e : TypeId} {size : Nat} {v : Value} {n : Nat} {xs : List Value} (h : w.ownsRow base e size v n xs) : ∀ k, v.ownBlock = some k → base ≤ k := by
  intro k hk
  rcases h.2 with ⟨rfl, _⟩ | ⟨g, cap, cur, rfl, hg, _⟩
  · simp [Value.ownBlock] at hk
  · simp [Value.ownBlock] at hk; omega
theorem ins_step {s : ByteArray} {k : Nat} (h : 8 * k + 8 ≤ s.size) {K : Int} (hK : bt (s.extract (8 * k) (8 * k + 8)) 4 + 256 * bt (s.extract (8 * k) (8 * k + 8)) 5 + 65536 * bt (s.extract (8 * k) (8 * k + 8)) 6 + 16777216 * bt (s.extract (8 * k) (8 * k + 8)) 7 = K) :
    flat (insList s k) ++ [.int .i64 (bt (s.extract (8 * k) (8 * k + 8)) 0), .int .i64 (bt (s.extract (8 * k) (8 * k + 8)) 2), .int .i64 (bt (s.extract (8 * k) (8 * k + 8)) 3), .int .u32 K] = flat (insList s (k + 1)) := by
  subst hK
  rw [insList_succ, flat_append]
  simp [flat, insOf, bt_extract s _ h]

/-- What Parse answers: the program, or nothing and the error of texts. -/
def ParseR (s : ByteArray) (e : Ending) (w' : World) : Prop :=
  match parseF s with
  | none => e = .returned (.tuple #[.slice none 0 0, errV 4])
  | some l => ∃ v, e = .returned (.tuple #[v, errV 0]) ∧ InsSl w' w'.heap.size v l
theorem ParseR.no {s : ByteArray} {e : Ending} {w' : World} (h : parseF s = none) (he : e = .returned (.tuple #[.slice none 0 0, errV 4])) : ParseR s e w' := by
  unfold ParseR; rw [h]; exact he
theorem ParseR.yes {s : ByteArray} {e : Ending} {w' : World} {l : List Ins} {v : Value} (h : parseF s = some l) (he : e = .returned (.tuple #[v, errV 0])) (hs : InsSl w' w'.heap.size v l) : ParseR s e w' := by
  unfold ParseR; rw [h]; exact ⟨v, he, hs⟩
theorem insOf_ok (s : ByteArray) (i : Nat) : (insOf s i).ok := by
  have a0 := bt_nonneg s (8 * i + 4); have a1 := bt_le s (8 * i + 4)
  have b0 := bt_nonneg s (8 * i + 5); have b1 := bt_le s (8 * i + 5)
  have c0 := bt_nonneg s (8 * i + 6); have c1 := bt_le s (8 * i + 6)
  have d0 := bt_nonneg s (8 * i + 7); have d1 := bt_le s (8 * i + 7)
  constructor <;> simp only [insOf] <;> omega
theorem insList_ok (s : ByteArray) (n : Nat) : ∀ x ∈ insList s n, x.ok := by
  intro x hx
  simp only [insList, List.mem_map] at hx
  obtain ⟨i, _, rfl⟩ := hx
  exact insOf_ok s i
theorem flat_get (l : List Ins) : ∀ (i : Nat) (x : Ins), l[i]? = some x → (flat l)[i * 4]? = some (.int .i64 x.op) ∧ (flat l)[i * 4 + 1]? = some (.int .i64 x.jt) ∧ (flat l)[i * 4 + 2]? = some (.int .i64 x.jf) ∧ (flat l)[i * 4 + 3]? = some (.int .u32 x.k) := by
  induction l with
  | nil => intro i x hx; simp at hx
  | cons y r ih =>
    intro i x hx
    cases i with
    | zero => simp at hx; subst hx; simp [flat]
    | succ i =>
      have h := ih i x (by simpa using hx)
      have e : flat (y :: r) = [.int .i64 y.op, .int .i64 y.jt, .int .i64 y.jf, .int .u32 y.k] ++ flat r := by simp [flat]
      rw [e]
      have k0 : (i + 1) * 4 = i * 4 + 4 := by omega
      rw [k0]
      refine ⟨?_, ?_, ?_, ?_⟩
      · rw [List.getElem?_append_right (by simp)]; simpa using h.1
      · rw [List.getElem?_append_right (by simp)]; simpa [Nat.add_right_comm] using h.2.1
      · rw [List.getElem?_append_right (by simp)]; simpa [Nat.add_right_comm] using h.2.2.1
      · rw [List.getElem?_append_right (by simp)]; simpa [Nat.add_right_comm] using h.2.2.2
end Go.Proofs.YtmgngapkgcofnabDoor
