/- Policies in memory; what is wrong with one. -/
import Derived.Test.YtmgngapkgcofnaaGreatDoorM07
import Derived.Deep.MidRow
namespace Go.Proofs.YtmgngapkgcofnaaGreatDoor
open Go.RowKit

def CondRow (w : World) (b o : Nat) (l : List CondD) : Prop := ∀ i x, l[i]? = some x → w.rangeAt b (o + i * 9) x.row
def CondsSl (w : World) (B : Nat) (v : Value) (l : List CondD) : Prop :=
  (∀ x ∈ l, x.ok) ∧ ∃ A c, v = .slice A l.length c ∧ (l = [] ∨ ∃ b o, A = some ⟨b, o, none⟩ ∧ b < B ∧ CondRow w b o l)
theorem rangeAt_below {w w' : World} {b o B : Nat} {vs : List Value} (h : w.rangeAt b o vs) (hb : Below B w w') (hB : b < B) : w'.rangeAt b o vs :=
  fun j v hv => (hb.cell (p := ⟨b, _, none⟩) hB).trans (h j v hv)
theorem CondsSl.below {w w' : World} {B H : Nat} {v : Value} {l : List CondD} (h : CondsSl w B v l) (hb : Below H w w') (hH : B ≤ H) : CondsSl w' B v l := by
  obtain ⟨h0, A, c, h1, h2⟩ := h
  refine ⟨h0, A, c, h1, h2.imp id ?_⟩
  rintro ⟨b, o, ha, hB, hr⟩
  exact ⟨b, o, ha, hB, fun i x hx => rangeAt_below (hr i x hx) hb (by omega)⟩
theorem CondsSl.mono {w : World} {B B' : Nat} {v : Value} {l : List CondD} (h : CondsSl w B v l) (hb : B ≤ B') : CondsSl w B' v l := by
  obtain ⟨h0, A, c, h1, h2⟩ := h
  refine ⟨h0, A, c, h1, h2.imp id ?_⟩
  rintro ⟨b, o, ha, hB, hr⟩
  exact ⟨b, o, ha, by omega, hr⟩
def RuleRow (w : World) (B b o : Nat) (l : List RuleD) : Prop := ∀ i x, l[i]? = some x → ∃ A c, CondsSl w B (.slice A x.conds.length c) x.conds ∧ w.rangeAt b (o + i * 4) [.int .i64 x.nr, .slice A x.conds.length c, .int .i64 x.kind, .int .i64 x.errno]
def RulesSl (w : World) (B : Nat) (v : Value) (l : List RuleD) : Prop :=
  ∃ A c, v = .slice A l.length c ∧ (l = [] ∨ ∃ b o, A = some ⟨b, o, none⟩ ∧ b < B ∧ RuleRow w B b o l)
theorem RulesSl.below {w w' : World} {B H : Nat} {v : Value} {l : List RuleD} (h : RulesSl w B v l) (hb : Below H w w') (hH : B ≤ H) : RulesSl w' B v l := by
  obtain ⟨A, c, h1, h2⟩ := h
  refine ⟨A, c, h1, h2.imp id ?_⟩
  rintro ⟨b, o, ha, hB, hr⟩
  refine ⟨b, o, ha, hB, fun i x hx => ?_⟩
  obtain ⟨A', c', hc, hrg⟩ := hr i x hx
  exact ⟨A', c', hc.below hb hH, rangeAt_below hrg hb (by omega)⟩
theorem RulesSl.mono {w : World} {B B' : Nat} {v : Value} {l : List RuleD} (h : RulesSl w B v l) (hb : B ≤ B') : RulesSl w B' v l := by
  obtain ⟨A, c, h1, h2⟩ := h
  refine ⟨A, c, h1, h2.imp id ?_⟩
  rintro ⟨b, o, ha, hB, hr⟩
  refine ⟨b, o, ha, by omega, fun i x hx => ?_⟩
  obtain ⟨A', c', hc, hrg⟩ := hr i x hx
  exact ⟨A', c', hc.mono hb, hrg⟩
/-- A policy by value. -/
def PolAt (w : World) (B : Nat) (v : Value) (p : PolD) : Prop := ∃ A c, v = .agg #[.slice A p.rules.length c, .int .i64 p.kind, .int .i64 p.errno] ∧ RulesSl w B (.slice A p.rules.length c) p.rules

/-- The first of them that is not 0. -/
def firstNZ {α : Type} (f : α → Int) : List α → Int
  | [] => 0
  | x :: r => if f x ≠ 0 then f x else firstNZ f r
theorem firstNZ_all {α : Type} (f : α → Int) : ∀ (l : List α), (∀ (i : Nat) x, l[i]? = some x → f x = 0) → firstNZ f l = 0
  | [], _ => rfl
  | x :: r, h => by
    rw [firstNZ, if_neg (fun k => k (h 0 x rfl))]
    exact firstNZ_all f r (fun i y hy => h (i + 1) y (by simpa using hy))
theorem firstNZ_at {α : Type} (f : α → Int) : ∀ (l : List α) (k : Nat) (x : α), l[k]? = some x → f x ≠ 0 → (∀ (i : Nat) y, i < k → l[i]? = some y → f y = 0) → firstNZ f l = f x
  | [], k, x, h, _, _ => by simp at h
  | y :: r, k, x, h, hx, hz => by
    rw [firstNZ]
    cases k with
    | zero =>
      obtain rfl : y = x := by simpa using h
      rw [if_pos hx]
    | succ k =>
      rw [if_neg (fun e => e (hz 0 y (by omega) rfl))]
      exact firstNZ_at f r k x (by simpa using h) hx (fun i z hi hz2 => hz (i + 1) z (by omega) (by simpa using hz2))
def ruleF (r : RuleD) : Int := if r.nr < 0 ∨ 8 < r.nr then 1 else if 4 < r.conds.length then 2 else if firstNZ (condF r.nr.toNat) r.conds ≠ 0 then firstNZ (condF r.nr.toNat) r.conds else actF r.kind r.errno
def polF (p : PolD) : Int := if 12 < p.rules.length then 2 else if actF p.kind p.errno ≠ 0 then actF p.kind p.errno else firstNZ ruleF p.rules
theorem globF_cases2 (l : List Int) : globF l = 0 ∨ globF l = 2 ∨ globF l = 4 := by
  unfold globF
  split
  · exact .inr (.inl rfl)
  · split
    · exact .inr (.inr rfl)
    · split
      · exact .inl rfl
      · exact .inr (.inr rfl)

theorem condF_ge (nr : Nat) (c : CondD) : 0 ≤ condF nr c := by
  unfold condF
  split
  · omega
  · split
    · omega
    · split
      · have := globF_cases2 (bytesOf c.glob); omega
      · split
        · exact netF_ge _
        · omega
theorem firstNZ_ge {α : Type} (f : α → Int) (hf : ∀ x, 0 ≤ f x) : ∀ l, 0 ≤ firstNZ f l
  | [] => by simp [firstNZ]
  | x :: r => by
    rw [firstNZ]; split
    · exact hf x
    · exact firstNZ_ge f hf r
theorem ruleF_ge (r : RuleD) : 0 ≤ ruleF r := by
  unfold ruleF
  split
  · omega
  · split
    · omega
    · split
      · exact firstNZ_ge _ (condF_ge _) _
      · exact actF_ge _ _
theorem polF_ge (p : PolD) : 0 ≤ polF p := by
  unfold polF
  split
  · omega
  · split
    · exact actF_ge _ _
    · exact firstNZ_ge _ ruleF_ge _
/-- Not too much of it. -/
def lightP (p : PolD) : Bool := decide (p.rules.length ≤ 14) && p.rules.all fun r => decide (r.conds.length ≤ 6) && r.conds.all fun c => decide (c.glob.size ≤ 60)

end Go.Proofs.YtmgngapkgcofnaaGreatDoor
