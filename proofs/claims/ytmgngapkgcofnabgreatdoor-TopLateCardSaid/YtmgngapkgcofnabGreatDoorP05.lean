/- What the code's patterns are, in plain words: parts of a pattern, what class, parts, Check and Match compute, by the list of a pattern's bytes. -/
import Derived.Lib.Hide
namespace Go.Proofs.YtmgngapkgcofnabGreatDoor
def plainF (c : Int) : Bool := decide (32 < c ∧ c < 127 ∧ c ≠ 42 ∧ c ≠ 63 ∧ c ≠ 91 ∧ c ≠ 93 ∧ c ≠ 92 ∧ c ≠ 34)
def memberF (c : Int) : Bool := decide ((97 ≤ c ∧ c ≤ 122) ∨ (65 ≤ c ∧ c ≤ 90) ∨ (48 ≤ c ∧ c ≤ 57) ∨ c = 46 ∨ c = 95)
def specialF (c : Int) : Bool := decide (c = 42 ∨ c = 63 ∨ c = 91 ∨ c = 93 ∨ c = 92)
structure Part where
 has : Nat → Bool
 many : Bool
def Part.zero : Part := ⟨fun _ => false, false⟩
def upd (f : Nat → Bool) (k : Nat) (v : Bool) : Nat → Bool := fun i => if i = k then v else f i
def skipF (l : List Part) (f : Nat → Bool) : Nat → (Nat → Bool)
 | 0 => f
 | k + 1 => let g := skipF l f k; if g k && (l[k]?.map (·.many)).getD false then upd g (k + 1) true else g
theorem skipF_yes {l : List Part} {f : Nat → Bool} {k : Nat} {p : Part} (h : l[k]? = some p) (h1 : skipF l f k k = true) (h2 : p.many = true) : skipF l f (k + 1) = upd (skipF l f k) (k + 1) true := by
 simp [skipF, h, h1, h2]
theorem skipF_no {l : List Part} {f : Nat → Bool} {k : Nat} {p : Part} (h : l[k]? = some p) (h1 : skipF l f k k = false ∨ p.many = false) : skipF l f (k + 1) = skipF l f k := by
 simp only [skipF, h, Option.map_some, Option.getD_some]; rw [if_neg]; rcases h1 with h | h <;> simp [h]
def anyP (slash many : Bool) : Part := ⟨fun i => slash || i != 47, many⟩
def bytesOf (s : ByteArray) : List Int := s.data.toList.map fun b => (b.toNat : Int)
theorem bytesOf_length (s : ByteArray) : (bytesOf s).length = s.size := by simp [bytesOf]
theorem bytesOf_cons (s : ByteArray) (h : 0 < s.size) : bytesOf s = (s[0].toNat : Int) :: bytesOf (s.extract 1 s.size) := by
 apply List.ext_getElem
 ·simp [bytesOf]; omega
 ·intro i h1 h2; rcases i with _ | i
  ·simp [bytesOf]; rfl
  ·simp [bytesOf]
theorem bytesOf_nil {s : ByteArray} (h : s.size = 0) : bytesOf s = [] := List.eq_nil_of_length_eq_zero (by rw [bytesOf_length, h])
theorem bytesOf_range (s : ByteArray) : ∀ x ∈ bytesOf s, 0 ≤ x ∧ x ≤ 255 := by
 intro x hx; simp only [bytesOf, List.mem_map] at hx; obtain ⟨b, _, rfl⟩ := hx; have := b.toNat_lt; omega
def span (f : Nat → Bool) (lo hi : Int) : Nat → Bool := fun i => f i || (decide (lo ≤ i) && decide ((i : Int) ≤ hi))
def closeF (f : Nat → Bool) (not : Bool) : Nat → Bool := fun i => (f i != not) && i != 47
def classL (not : Bool) : Bool → List Int → (Nat → Bool) → Option ((Nat → Bool) × List Int)
 | _, [], _ => none
 | n, [x], f => if x = 93 then (if n then some (closeF f not, []) else none) else none
 | n, x :: y :: r, f =>
  if x = 93 then (if n then some (closeF f not, y :: r) else none) else
  if memberF x = false then none else
  match r with
  | z :: r' => if y = 45 then (if memberF z = false ∨ z < x then none else classL not true r' (span f x z)) else classL not true (y :: z :: r') (span f x x)
  | [] => classL not true [y] (span f x x)
theorem classL_bad (not : Bool) (r : List Int) (f : Nat → Bool) : classL not false (93 :: r) f = none := by rcases r with _ | ⟨y, _ | ⟨z, r⟩⟩ <;> simp [classL]
theorem classL_end (not : Bool) (r : List Int) (f : Nat → Bool) : classL not true (93 :: r) f = some (closeF f not, r) := by rcases r with _ | ⟨y, _ | ⟨z, r⟩⟩ <;> simp [classL]
theorem classL_not (not n : Bool) {x : Int} (r : List Int) (f : Nat → Bool) (h : x ≠ 93) (hm : memberF x = false) : classL not n (x :: r) f = none := by rcases r with _ | ⟨y, _ | ⟨z, r⟩⟩ <;> simp [classL, h, hm]
theorem classL_span (not n : Bool) {x z : Int} (r : List Int) (f : Nat → Bool) (h : x ≠ 93) (hm : memberF x = true) (hz : memberF z = true) (hxz : x ≤ z) : classL not n (x :: 45 :: z :: r) f = classL not true r (span f x z) := by
 simp [classL, h, hm, hz, Int.not_lt.2 hxz]
theorem classL_worse (not n : Bool) {x z : Int} (r : List Int) (f : Nat → Bool) (h : x ≠ 93) (hm : memberF x = true) (hz : memberF z = false ∨ z < x) : classL not n (x :: 45 :: z :: r) f = none := by
 simp [classL, h, hm, hz]
theorem classL_one (not n : Bool) {x y z : Int} (r : List Int) (f : Nat → Bool) (h : x ≠ 93) (hm : memberF x = true) (hy : y ≠ 45) : classL not n (x :: y :: z :: r) f = classL not true (y :: z :: r) (span f x x) := by
 simp [classL, h, hm, hy]
theorem classL_two (not n : Bool) {x y : Int} (f : Nat → Bool) (h : x ≠ 93) (hm : memberF x = true) : classL not n [x, y] f = classL not true [y] (span f x x) := by
 simp [classL, h, hm]
theorem classL_last (not n : Bool) {x : Int} (f : Nat → Bool) (h : x ≠ 93) : classL not n [x] f = none := by
 simp [classL, h]
def classF (l : List Int) : Option (Part × List Int) :=
 let r := match l with
  | 33 :: r => classL true false r (fun _ => false)
  | r => classL false false r (fun _ => false)
 r.map fun x => (⟨x.1, false⟩, x.2)
def oneP (c : Int) : Part := ⟨fun i => decide ((i : Int) = c), false⟩
def partL : List Int → Option (Part × List Int)
 | [] => none
 | c :: r =>
  if c = 42 then (match r with | 42 :: r' => some (anyP true true, r') | r => some (anyP false true, r)) else
  if c = 63 then some (anyP false false, r) else
  if c = 91 then classF r else
  if c = 92 then (match r with | x :: r' => if specialF x then some (oneP x, r') else none | [] => none) else
  if plainF c then some (oneP c, r) else none
def partsL : Nat → List Int → Option (List Part)
 | _, [] => some []
 | 0, _ => none
 | n + 1, c :: r => (partL (c :: r)).bind fun x => (partsL n x.2).map (x.1 :: ·)
def partsF (l : List Int) : Option (List Part) := partsL l.length l
def globF (l : List Int) : Int := if 24 < l.length then 2 else if l = [] then 4 else match partsF l with | some _ => 0 | none => 4
def stepF (l : List Part) (f : Nat → Bool) (c : Nat) : Nat → Nat → Bool
 | 0 => fun _ => false
 | k + 1 => fun i => let g := stepF l f c k
  match l[k]? with
  | none => g i
  | some p => if f k && p.has c then (if i = k then g i || p.many else if i = k + 1 then g i || !p.many else g i) else g i
end Go.Proofs.YtmgngapkgcofnabGreatDoor
