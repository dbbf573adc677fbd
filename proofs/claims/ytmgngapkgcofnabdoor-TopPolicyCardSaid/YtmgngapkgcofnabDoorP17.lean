/- Policies in memory; what is wrong with one. -/
import Derived.Test.YtmgngapkgcofnabDoorP07
import Derived.Deep.MidRow
import Derived.Test.YtmgngapkgcofnabDoorP16
namespace Go.Proofs.YtmgngapkgcofnabDoor
open Go.RowKit

def CondRow (w : World) (b o : Nat) (l : List CondD) : Prop := ∀ i x, l[i]? = some x → w.rangeAt b (o + i * 9) x.row
def CondsSl (w : World) (B : Nat) (v : Value) (l : List CondD) : Prop :=
  (∀ x ∈ l, x.ok) ∧ ∃ A c, v = .slice A l.length c ∧ (l = [] ∨ ∃ b o, A = some ⟨b, o, none⟩ ∧ b < B ∧ CondRow w b o l)
theorem rangeAt_below {w w' : World} {b o B : Nat} {vs : List Value} (h : w.rangeAt b o vs) (hb : Below B w w') (hB : b < B) : w'.rangeAt b o vs :=
  fun j v hv => (hb.cell (p := ⟨b, _, none⟩) hB).trans (h j v hv)
theorem CondsSl.below {w w' : World} {B H : Nat} {v : Value} {l : List CondD} (h : CondsSl w B v l) (hb : Below H w w') (hH : B ≤ H) : CondsSl w' B v l := by
  obtain ⟨h0, A, c, h1, h2⟩ := h
  refine ⟨h0, A, c, h1, h2.imp id ?_⟩
  rintro ⟨b, o, ha, hB, hr⟩
  exact ⟨b, o, ha, hB, fun i x hx => rangeAt_below (hr i x hx) hb (by omega)⟩
theorem CondsSl.mono {w : World} {B B' : Nat} {v : Value} {l : List CondD} (h : CondsSl w B v l) (hb : B ≤ B') : CondsSl w B' v l := by
  obtain ⟨h0, A, c, h1, h2⟩ := h
  refine ⟨h0, A, c, h1, h2.imp id ?_⟩
  rintro ⟨b, o, ha, hB, hr⟩
  exact ⟨b, o, ha, by omega, hr⟩
def RuleRow (w : World) (B b o : Nat) (l : List RuleD) : Prop := ∀ i x, l[i]? = some x → ∃ A c, CondsSl w B (.slice A x.conds.length c) x.conds ∧ w.rangeAt b (o + i * 4) [.int .i64 x.nr, .slice A x.conds.length c, .int .i64 x.kind, .int .i64 x.errno]
def RulesSl (w : World) (B : Nat) (v : Value) (l : List RuleD) : Prop :=
  ∃ A c, v = .slice A l.length c ∧ (l = [] ∨ ∃ b o, A = some ⟨b, o, none⟩ ∧ b < B ∧ RuleRow w B b o l)
theorem RulesSl.below {w w' : World} {B H : Nat} {v : Value} {l : List RuleD} (h : RulesSl w B v l) (hb : Below H w w') (hH : B ≤ H) : RulesSl w' B v l := by
  obtain ⟨A, c, h1, h2⟩ := h
  refine ⟨A, c, h1, h2.imp id ?_⟩
  rintro ⟨b, o, ha, hB, hr⟩
  refine ⟨b, o, ha, hB, fun i x hx => ?_⟩
  obtain ⟨A', c', hc, hrg⟩ := hr i x hx
  exact ⟨A', c', hc.below hb hH, rangeAt_below hrg hb (by omega)⟩
theorem RulesSl.mono {w : World} {B B' : Nat} {v : Value} {l : List RuleD} (h : RulesSl w B v l) (hb : B ≤ B') : RulesSl w B' v l := by
  obtain ⟨A, c, h1, h2⟩ := h
  refine ⟨A, c, h1, h2.imp id ?_⟩
  rintro ⟨b, o, ha, hB, hr⟩
  refine ⟨b, o, ha, by omega, fun i x hx => ?_⟩
  obtain ⟨A', c', hc, hrg⟩ := hr i x hx
  exact ⟨A', c', hc.mono hb, hrg⟩
/-- A policy by value. -/
def PolAt (w : World) (B : Nat) (v : Value) (p : PolD) : Prop := ∃ A c, v = .agg #[.slice A p.rules.length c, .int .i64 p.kind, .int .i64 p.errno] ∧ RulesSl w B (.slice A p.rules.length c) p.rules

/-- The first of them that is not 0. -/
def firstNZ {α : Type} (f : α → Int) : List α → Int
  | [] => 0
  | x :: r => if f x ≠ 0 then f x else firstNZ f r
theorem firstNZ_all {α : Type} (f : α → Int) : ∀ (l : List α), (∀ (i : Nat) x, l[i]? = some x → f x = 0) → firstNZ f l = 0
  | [], _ => rfl
  | x :: r, h => by
    rw [firstNZ, if_neg (fun k => k (h 0 x rfl))]
    exact firstNZ_all f r (fun i y hy => h (i + 1) y (by simpa using hy))
theorem firstNZ_at {α : Type} (f : α → Int) : ∀ (l : List α) (k : Nat) (x : α), l[k]? = some x → f x ≠ 0 → (∀ (i : Nat) y, i < k → l[i]? = some y → f y = 0) → firstNZ f l = f x
  | [], k, x, h, _, _ => by simp at h
  | y :: r, k, x, h, hx, hz => by
    rw [firstNZ]
    cases k with
    | zero =>
      obtain rfl : y = x := by simpa using h
      rw [if_pos hx]
    | succ k =>
      rw [if_neg (fun e => e (hz 0 y (by omega) rfl))]
      exact firstNZ_at f r k x (by simpa using h) hx (fun i z hi hz2 => hz (i + 1) z (by omega) (by simpa using hz2))
def ruleF (r : RuleD) : Int := if r.nr < 0 ∨ 8 < r.nr then 1 else if 4 < r.conds.length then 2 else if firstNZ (condF r.nr.toNat) r.conds ≠ 0 then firstNZ (condF r.nr.toNat) r.conds else actF r.kind r.errno
def polF (p : PolD) : Int := if 12 < p.rules.length then 2 else if actF p.kind p.errno ≠ 0 then actF p.kind p.errno else firstNZ ruleF p.rules
theorem globF_cases2 (l : List Int) : globF l = 0 ∨ globF l = 2 ∨ globF l = 4 := by
  unfold globF
  split
  · exact .inr (.inl rfl)
  · split
    · exact .inr (.inr rfl)
    · split
      · exact .inl rfl
      · exact .inr (.inr rfl)

theorem condF_ge (nr : Nat) (c : CondD) : 0 ≤ condF nr c := by
  unfold condF
  split
  · omega
  · split
    · omega
    · split
      · have := globF_cases2 (bytesOf c.glob); omega
      · split
        · exact netF_ge _
        · omega
theorem firstNZ_ge {α : Type} (f : α → Int) (hf : ∀ x, 0 ≤ f x) : ∀ l, 0 ≤ firstNZ f l
  | [] => by simp [firstNZ]
  | x :: r => by
    rw [firstNZ]; split
    · exact hf x
    · exact firstNZ_ge f hf r
theorem ruleF_ge (r : RuleD) : 0 ≤ ruleF r := by
  unfold ruleF
  split
  · omega
  · split
    · omega
    · split
      · exact firstNZ_ge _ (condF_ge _) _
      · exact actF_ge _ _
theorem polF_ge (p : PolD) : 0 ≤ polF p := by
  unfold polF
  split
  · omega
  · split
    · exact actF_ge _ _
    · exact firstNZ_ge _ ruleF_ge _
/-- Not too much of it. -/
def lightP (p : PolD) : Bool := decide (p.rules.length ≤ 14) && p.rules.all fun r => decide (r.conds.length ≤ 6) && r.conds.all fun c => decide (c.glob.size ≤ 60)

end Go.Proofs.YtmgngapkgcofnabDoor
/- Arguments opened: a policy. -/
namespace Go.Proofs.YtmgngapkgcofnabDoor
open Go.RowKit Go.WideShapes Go.ChangeShapes Go.Deep

section
variable {H : Type} {enc : TypeId × Value → H} {w : World} {base : Nat} {spare : Nat → Bool} {held : Bool} {fuel : Nat}
theorem list9 {α : Type} {l : List α} (h : l.length = 9) : ∃ a b c d e f g i j, l = [a, b, c, d, e, f, g, i, j] := by
  match l, h with
  | [a, b, c, d, e, f, g, i, j], _ => exact ⟨a, b, c, d, e, f, g, i, j, rfl⟩
theorem list2 {α : Type} {l : List α} (h : l.length = 2) : ∃ a b, l = [a, b] := by
  match l, h with
  | [a, b], _ => exact ⟨a, b, rfl⟩
theorem cellsNet : Tryd.prog.cellsOf 24 = 4 := by kernel_rfl
theorem cellsCond : Tryd.prog.cellsOf 86 = 9 := by kernel_rfl
theorem cellsRule : Tryd.prog.cellsOf 84 = 4 := by kernel_rfl
theorem cellsAct : Tryd.prog.cellsOf 38 = 2 := by kernel_rfl
theorem cellsPol : Tryd.prog.cellsOf 40 = 3 := by kernel_rfl
theorem cellsStr : Tryd.prog.cellsOf 9 = 1 := by kernel_rfl
theorem cellsCs : Tryd.prog.cellsOf 82 = 1 := by kernel_rfl
theorem cellsRs : Tryd.prog.cellsOf 36 = 1 := by kernel_rfl
theorem u32_cell2 {cs : List Value} {x : DataW H × List MemPlace} (h : DataW.trod enc Tryd.prog w base spare held fuel 22 cs = some x) : ∃ n, cs = [.int .u32 n] ∧ 0 ≤ n ∧ n < 4294967296 := by
  obtain ⟨n, h1, h2, h3⟩ := u32_cell h
  exact ⟨n, h1, h2, h3⟩
theorem str_cell2 {cs : List Value} {x : DataW H × List MemPlace} (h : DataW.trod enc Tryd.prog w base spare held fuel 9 cs = some x) : ∃ s : ByteArray, cs = [.string s] ∧ s.size ≤ maxLen := by
  obtain ⟨s, h1, _, h2⟩ := DataW.trod_string Tryd.underlying9 h
  exact ⟨s, h1, h2⟩
set_option maxRecDepth 100000 in
theorem net_cells {cs : List Value} {x : DataW H × List MemPlace} (h : DataW.trod enc Tryd.prog w base spare held fuel 24 cs = some x) : ∃ n : NetD, cs = n.row ∧ n.ok := by
  obtain ⟨xs, m, _, _, hl, hxl, hf⟩ := DataW.trod_struct Tryd.underlying24 h
  rw [cellsNet] at hl
  obtain ⟨c0, c1, c2, c3, rfl⟩ := list4 hl
  obtain ⟨x0, x1, x2, x3, rfl⟩ := list4 hxl
  have f0 := hf 0 _ rfl
  have f1 := hf 1 _ rfl
  have f2 := hf 2 _ rfl
  have f3 := hf 3 _ rfl
  simp [cells36, cells3] at f0 f1 f2 f3
  obtain ⟨ip, e0, k0⟩ := u32_cell2 f0
  obtain ⟨b, e1, k1⟩ := int_cell f1
  obtain ⟨lo, e2, k2⟩ := int_cell f2
  obtain ⟨hi, e3, k3⟩ := int_cell f3
  simp at e0 e1 e2 e3
  subst e0 e1 e2 e3
  exact ⟨⟨ip, b, lo, hi⟩, rfl, k0, k1, k2, k3⟩
set_option maxRecDepth 100000 in
theorem cond_cells {cs : List Value} {x : DataW H × List MemPlace} (h : DataW.trod enc Tryd.prog w base spare held fuel 86 cs = some x) : ∃ c : CondD, cs = c.row ∧ c.ok := by
  obtain ⟨xs, m, _, _, hl, hxl, hf⟩ := DataW.trod_struct Tryd.underlying86 h
  rw [cellsCond] at hl
  obtain ⟨c0, c1, c2, c3, c4, c5, c6, c7, c8, rfl⟩ := list9 hl
  obtain ⟨x0, x1, x2, x3, x4, x5, rfl⟩ := list6 hxl
  have f0 := hf 0 _ rfl
  have f1 := hf 1 _ rfl
  have f2 := hf 2 _ rfl
  have f3 := hf 3 _ rfl
  have f4 := hf 4 _ rfl
  have f5 := hf 5 _ rfl
  simp [cells3, cells37, cellsStr, cellsNet] at f0 f1 f2 f3 f4 f5
  obtain ⟨arg, e0, k0⟩ := int_cell f0
  obtain ⟨op, e1, k1⟩ := int_cell f1
  obtain ⟨v, e2, k2⟩ := u64_cell f2
  obtain ⟨mm, e3, k3⟩ := u64_cell f3
  obtain ⟨s, e4, k4⟩ := str_cell2 f4
  obtain ⟨n, e5, k5⟩ := net_cells f5
  simp [NetD.row] at e0 e1 e2 e3 e4 e5
  obtain ⟨rfl, rfl, rfl, rfl⟩ := e5
  subst e0 e1 e2 e3 e4
  have h8 : v < 18446744073709551616 := Int.lt_of_le_of_lt k2.2 (by decide)
  have h9 : mm < 18446744073709551616 := Int.lt_of_le_of_lt k3.2 (by decide)
  exact ⟨⟨arg, op, v, mm, s, n⟩, rfl, k0, k1, ⟨k2.1, h8⟩, ⟨k3.1, h9⟩, k4, k5⟩
theorem crow_len (x : CondD) : x.row.length = 9 := rfl
set_option maxRecDepth 100000 in
theorem conds_cells {cs : List Value} {x : DataW H × List MemPlace} (h : DataW.trod enc Tryd.prog w base spare held fuel 82 cs = some x) :
    ∃ (l : List CondD) (A : Option Addr) (c : Nat), cs = [.slice A l.length c] ∧ CondsSl w w.heap.size (.slice A l.length c) l := by
  rcases open_slice Tryd.underlying82 h with ⟨hcs, _⟩ | ⟨a, len, cap, m, n, D, Pl, hcs, _, hl, hm, hmm, _, hi⟩
  · exact ⟨[], none, 0, hcs, by simp, none, 0, rfl, Or.inl rfl⟩
  · have hlm : len ≤ m := by rw [hmm]; split <;> omega
    have hex : ∀ i, i < len → ∃ x : CondD, (∀ j u, x.row[j]? = some u → w.cell? ((a.add (i * 9)).add j) = some u) ∧ x.ok := by
      intro i hil
      obtain ⟨cs', hc, ht⟩ := hi i (by omega)
      rw [cellsCond] at hc
      obtain ⟨x, rfl, hx⟩ := cond_cells ht
      obtain ⟨_, _, hat⟩ := World.cells?_some hc
      refine ⟨x, fun j u hu => ?_, hx⟩
      have hj : j < 9 := by
        rcases Nat.lt_or_ge j 9 with h | h
        · exact h
        · rw [List.getElem?_eq_none (by rw [crow_len]; exact h)] at hu; cases hu
      rw [hat j hj, hu]
    obtain ⟨f, hf2⟩ : ∃ f : Nat → CondD, ∀ i, i < len → (∀ j u, (f i).row[j]? = some u → w.cell? ((a.add (i * 9)).add j) = some u) ∧ (f i).ok :=
      ⟨fun i => if h : i < len then Classical.choose (hex i h) else ⟨0, 0, 0, 0, ⟨#[]⟩, ⟨0, 0, 0, 0⟩⟩, fun i h => by simp only [dif_pos h]; exact Classical.choose_spec (hex i h)⟩
    have hlen : ((List.range len).map f).length = len := by simp
    refine ⟨(List.range len).map f, some a, cap, by rw [hlen]; exact hcs, ?_, some a, cap, rfl, ?_⟩
    · intro x hx
      simp only [List.mem_map, List.mem_range] at hx
      obtain ⟨i, hi, rfl⟩ := hx
      exact (hf2 i hi).2
    · rcases Nat.eq_zero_or_pos len with h0 | h0
      · left; subst h0; rfl
      · right
        have hc0 := (hf2 0 h0).1 0 _ rfl
        obtain ⟨b, o, spot⟩ := a
        have hspot : spot = none := by simpa [Addr.add] using World.cell?_spot hc0
        subst hspot
        refine ⟨b, o, rfl, by simpa [Addr.add] using block_lt hc0, fun i x hx => ?_⟩
        have hil : i < len := by
          rcases Nat.lt_or_ge i len with h | h
          · exact h
          · rw [List.getElem?_eq_none (by simpa using h)] at hx; cases hx
        obtain rfl : f i = x := by simpa [hil] using hx
        intro j u hu
        have hc := (hf2 i hil).1 j u hu
        rw [add_plain, add_plain] at hc
        exact hc
set_option maxRecDepth 100000 in
theorem act_cells2 {cs : List Value} {x : DataW H × List MemPlace} (h : DataW.trod enc Tryd.prog w base spare held fuel 38 cs = some x) : ∃ k e, cs = [.int .i64 k, .int .i64 e] := by
  obtain ⟨xs, m, _, _, hl, hxl, hf⟩ := DataW.trod_struct Tryd.underlying38 h
  rw [cellsAct] at hl
  obtain ⟨c0, c1, rfl⟩ := list2 hl
  obtain ⟨x0, x1, rfl⟩ := list2 hxl
  have f0 := hf 0 _ rfl
  have f1 := hf 1 _ rfl
  simp [cells3] at f0 f1
  obtain ⟨k, e0, _⟩ := int_cell f0
  obtain ⟨e, e1, _⟩ := int_cell f1
  simp at e0 e1
  subst e0 e1
  exact ⟨k, e, rfl⟩
set_option maxRecDepth 100000 in
theorem rule_cells {cs : List Value} {x : DataW H × List MemPlace} (h : DataW.trod enc Tryd.prog w base spare held fuel 84 cs = some x) :
    ∃ (r : RuleD) (A : Option Addr) (c : Nat), cs = [.int .i64 r.nr, .slice A r.conds.length c, .int .i64 r.kind, .int .i64 r.errno] ∧ CondsSl w w.heap.size (.slice A r.conds.length c) r.conds := by
  obtain ⟨xs, m, _, _, hl, hxl, hf⟩ := DataW.trod_struct Tryd.underlying84 h
  rw [cellsRule] at hl
  obtain ⟨c0, c1, c2, c3, rfl⟩ := list4 hl
  obtain ⟨x0, x1, x2, rfl⟩ := list3 hxl
  have f0 := hf 0 _ rfl
  have f1 := hf 1 _ rfl
  have f2 := hf 2 _ rfl
  simp [cells3, cellsCs, cellsAct] at f0 f1 f2
  obtain ⟨nr, e0, _⟩ := int_cell f0
  obtain ⟨l, A, c, e1, hcs⟩ := conds_cells f1
  obtain ⟨k, e, e2⟩ := act_cells2 f2
  simp at e0 e1 e2
  obtain ⟨rfl, rfl⟩ := e2
  subst e0 e1
  exact ⟨⟨nr, l, k, e⟩, A, c, rfl, hcs⟩
set_option maxRecDepth 100000 in
theorem rules_cells {cs : List Value} {x : DataW H × List MemPlace} (h : DataW.trod enc Tryd.prog w base spare held fuel 36 cs = some x) :
    ∃ (l : List RuleD) (A : Option Addr) (c : Nat), cs = [.slice A l.length c] ∧ RulesSl w w.heap.size (.slice A l.length c) l := by
  rcases open_slice Tryd.underlying36 h with ⟨hcs, _⟩ | ⟨a, len, cap, m, n, D, Pl, hcs, _, hl, hm, hmm, _, hi⟩
  · exact ⟨[], none, 0, hcs, none, 0, rfl, Or.inl rfl⟩
  · have hlm : len ≤ m := by rw [hmm]; split <;> omega
    have hex : ∀ i, i < len → ∃ x : RuleD, ∃ A c, (∀ j u, [Value.int .i64 x.nr, .slice A x.conds.length c, .int .i64 x.kind, .int .i64 x.errno][j]? = some u → w.cell? ((a.add (i * 4)).add j) = some u) ∧ CondsSl w w.heap.size (.slice A x.conds.length c) x.conds := by
      intro i hil
      obtain ⟨cs', hc, ht⟩ := hi i (by omega)
      rw [cellsRule] at hc
      obtain ⟨x, A, c, rfl, hx⟩ := rule_cells ht
      obtain ⟨_, _, hat⟩ := World.cells?_some hc
      refine ⟨x, A, c, fun j u hu => ?_, hx⟩
      have hj : j < 4 := by
        rcases Nat.lt_or_ge j 4 with h | h
        · exact h
        · rw [List.getElem?_eq_none (by simpa using h)] at hu; cases hu
      rw [hat j hj, hu]
    obtain ⟨f, hf2⟩ : ∃ f : Nat → RuleD, ∀ i, i < len → ∃ A c, (∀ j u, [Value.int .i64 (f i).nr, .slice A (f i).conds.length c, .int .i64 (f i).kind, .int .i64 (f i).errno][j]? = some u → w.cell? ((a.add (i * 4)).add j) = some u) ∧ CondsSl w w.heap.size (.slice A (f i).conds.length c) (f i).conds :=
      ⟨fun i => if h : i < len then Classical.choose (hex i h) else ⟨0, [], 0, 0⟩, fun i h => by simp only [dif_pos h]; exact Classical.choose_spec (hex i h)⟩
    have hlen : ((List.range len).map f).length = len := by simp
    refine ⟨(List.range len).map f, some a, cap, by rw [hlen]; exact hcs, some a, cap, rfl, ?_⟩
    rcases Nat.eq_zero_or_pos len with h0 | h0
    · left; subst h0; rfl
    · right
      obtain ⟨A0, cc0, hc00, _⟩ := hf2 0 h0
      have hc0 := hc00 0 _ rfl
      obtain ⟨b, o, spot⟩ := a
      have hspot : spot = none := by simpa [Addr.add] using World.cell?_spot hc0
      subst hspot
      refine ⟨b, o, rfl, by simpa [Addr.add] using block_lt hc0, fun i x hx => ?_⟩
      have hil : i < len := by
        rcases Nat.lt_or_ge i len with h | h
        · exact h
        · rw [List.getElem?_eq_none (by simpa using h)] at hx; cases hx
      obtain rfl : f i = x := by simpa [hil] using hx
      obtain ⟨Ai, ci, hci, hcs2⟩ := hf2 i hil
      refine ⟨Ai, ci, hcs2, fun j u hu => ?_⟩
      have hc := hci j u hu
      rw [add_plain, add_plain] at hc
      exact hc
set_option maxRecDepth 100000 in
/-- A policy that came in. -/
theorem open_policy {r : Reach} {b0 : Nat} {v : Value} {d : DataW H} {p : List MemPlace} (hv : Value.okWide Tryd.prog w r b0 40 v) (h : DataW.Trod enc Tryd.prog w base spare held 40 v d p) :
    ∃ q : PolD, PolAt w w.heap.size v q := by
  obtain ⟨cs, rfl, _⟩ := okWide_struct Tryd.underlying40 hv
  obtain ⟨fuel, hf0⟩ := h
  obtain ⟨xs, m, _, _, hl, hxl, hf⟩ := DataW.trod_struct Tryd.underlying40 hf0
  obtain ⟨cs⟩ := cs
  simp only [Value.cells] at hl hf
  rw [cellsPol] at hl
  obtain ⟨c0, c1, c2, rfl⟩ := list3 hl
  obtain ⟨x0, x1, rfl⟩ := list2 hxl
  have f0 := hf 0 _ rfl
  have f1 := hf 1 _ rfl
  simp [cellsRs, cellsAct] at f0 f1
  obtain ⟨l, A, c, e0, hR⟩ := rules_cells f0
  obtain ⟨k, e, e1⟩ := act_cells2 f1
  simp at e0 e1
  obtain ⟨rfl, rfl⟩ := e1
  subst e0
  exact ⟨⟨l, k, e⟩, A, c, rfl, hR⟩
end
end Go.Proofs.YtmgngapkgcofnabDoor
