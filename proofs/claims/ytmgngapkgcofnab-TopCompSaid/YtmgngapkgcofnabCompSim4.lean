/- A policy's program is right; its number's verdict is the policy's. -/
import Derived.Test.YtmgngapkgcofnabCompSim3
import Derived.Test.YtmgngapkgcofnabVerdict
namespace Go.Proofs.Ytmgngapkgcofnab
open Go.RowKit

/-- A program that is right ends in time. -/
theorem run_law {l : List Ins} (c : CallD) (hok : ∀ x ∈ l, x.ok) (hsc : scanF l = 0) (hlast : (l[l.length - 1]?).map (·.op) = some 8) :
    ∀ (n p : Nat) (a st : Int), p < l.length → l.length - p ≤ n →
      st + 1 ≤ (runF l c n p a st).2 ∧ (runF l c n p a st).2 ≤ st + (l.length - p : Nat) ∧ ∃ x ∈ l, x.op = 8 ∧ x.k = (runF l c n p a st).1 := by
  intro n
  induction n with
  | zero => intro p a st hp hn; omega
  | succ n ih =>
    intro p a st hp hn
    have hf := fine_at hok hsc p hp
    have hend : p + 1 = l.length → l[p].op = 8 := fun e => by
      rw [show l.length - 1 = p from by omega, List.getElem?_eq_getElem hp] at hlast
      simpa using hlast
    have hx : l[p] ∈ l := List.getElem_mem hp
    obtain ⟨k0, k1⟩ := hok _ hx
    obtain ⟨⟨o1, o2⟩, ⟨j1, j2⟩, ⟨j3, j4⟩, fw, fj, fb⟩ := hf
    by_cases c1 : l[p].op = 1
    · rw [runF_1 hp c1]
      have hp2 : p + 1 < l.length := by
        rcases Nat.lt_or_ge (p + 1) l.length with h | h
        · exact h
        · have := hend (by omega); omega
      obtain ⟨h1, h2, h3⟩ := ih (p + 1) (c.word l[p].k) (st + 1) hp2 (by omega)
      exact ⟨by omega, by omega, h3⟩
    by_cases c2 : l[p].op = 2
    · rw [runF_2 hp c2]
      have hp2 : p + 1 < l.length := by
        rcases Nat.lt_or_ge (p + 1) l.length with h | h
        · exact h
        · have := hend (by omega); omega
      obtain ⟨h1, h2, h3⟩ := ih (p + 1) (bits .and .u32 a l[p].k) (st + 1) hp2 (by omega)
      exact ⟨by omega, by omega, h3⟩
    by_cases c3 : l[p].op = 3
    · rw [runF_3 hp c3]
      have := fj c3
      obtain ⟨h1, h2, h3⟩ := ih (p + 1 + l[p].k.toNat) a (st + 1) (by omega) (by omega)
      exact ⟨by omega, by omega, h3⟩
    by_cases c8 : l[p].op = 8
    · rw [runF_8 hp c8]
      exact ⟨by simp, by simp; omega, l[p], hx, c8, rfl⟩
    · rw [runF_b hp (by omega)]
      obtain ⟨y1, y2⟩ := fb (by omega) (by omega)
      split
      · obtain ⟨h1, h2, h3⟩ := ih (p + 1 + l[p].jt.toNat) a (st + 1) (by omega) (by omega)
        exact ⟨by omega, by omega, h3⟩
      · obtain ⟨h1, h2, h3⟩ := ih (p + 1 + l[p].jf.toNat) a (st + 1) (by omega) (by omega)
        exact ⟨by omega, by omega, h3⟩


def sI (x : Ins) (d : Int) : Prop := (0 ≤ x.k ∧ x.k < 4294967296) ∧ (((x.op = 1 ∧ x.k % 4 = 0 ∧ x.k < 40) ∨ x.op = 2 ∨ (x.op = 3 ∧ x.k ≤ d) ∨ x.op = 8) ∧ x.jt = 0 ∧ x.jf = 0 ∨ (4 ≤ x.op ∧ x.op ≤ 7) ∧ 0 ≤ x.jt ∧ x.jt ≤ 255 ∧ 0 ≤ x.jf ∧ x.jf ≤ 255 ∧ x.jt ≤ d ∧ x.jf ≤ d)
theorem sI.up {x : Ins} {d e : Int} (h : sI x d) (he : d ≤ e) : sI x e := by
  unfold sI at h ⊢
  omega
theorem sI.one {x : Ins} {d b : Int} (h : sI x d) (hb : d < b) : oneF x.op x.jt x.jf x.k b = 0 := by
  unfold sI at h
  unfold oneF
  rw [if_neg (by omega), if_neg (by omega), if_neg (by omega), if_neg (by omega), if_neg (by omega)]
def sB (l : List Ins) : Prop := ∀ (i : Nat) x, l[i]? = some x → sI x ((l.length : Int) - i - 1)
theorem sB_nil : sB [] := fun i x h => by simp at h
theorem sB_cons {x : Ins} {l : List Ins} (h : sI x l.length) (hl : sB l) : sB (x :: l) := fun i y hy => by
  cases i with
  | zero =>
    obtain rfl : x = y := by simpa using hy
    exact h.up (by simp)
  | succ i => exact (hl i y (by simpa using hy)).up (by simp; omega)
theorem sB_append {a b : List Ins} (ha : sB a) (hb : sB b) : sB (a ++ b) := by
  induction a with
  | nil => exact hb
  | cons x a ih =>
    rw [List.cons_append]
    refine sB_cons ((ha 0 x rfl).up (by simp; omega)) (ih fun i y hy => (ha (i + 1) y (by simpa using hy)).up (by simp; omega))
theorem condL_safe (op : Int) (i v m : Nat) (hi : i < 4) (hv : v < 18446744073709551616) (hm : m < 18446744073709551616) (hop : 1 ≤ op ∧ op ≤ 7) : sB (condL op i v m) := by
  have h7 : op = 1 ∨ op = 2 ∨ op = 3 ∨ op = 4 ∨ op = 5 ∨ op = 6 ∨ op = 7 := by omega
  rcases h7 with rfl | rfl | rfl | rfl | rfl | rfl | rfl
  · change sB [ldI i 1, Ins.mk 4 1 0 (v / 4294967296 : Nat), jmpI, ldI i 0, Ins.mk 4 1 0 (v % 4294967296 : Nat), jmpI]
    repeat' (first | exact sB_nil | refine sB_cons ?_ ?_)
    all_goals (simp [sI, ldI, jmpI]; try omega)
  · change sB [ldI i 1, Ins.mk 4 0 3 (v / 4294967296 : Nat), ldI i 0, Ins.mk 4 0 1 (v % 4294967296 : Nat), jmpI]
    repeat' (first | exact sB_nil | refine sB_cons ?_ ?_)
    all_goals (simp [sI, ldI, jmpI]; try omega)
  · change sB [ldI i 1, Ins.mk 5 1 0 (v / 4294967296 : Nat), Ins.mk 4 1 4 (v / 4294967296 : Nat), jmpI, ldI i 0, Ins.mk 6 0 1 (v % 4294967296 : Nat), jmpI]
    repeat' (first | exact sB_nil | refine sB_cons ?_ ?_)
    all_goals (simp [sI, ldI, jmpI]; try omega)
  · change sB [ldI i 1, Ins.mk 5 1 0 (v / 4294967296 : Nat), Ins.mk 4 1 4 (v / 4294967296 : Nat), jmpI, ldI i 0, Ins.mk 5 0 1 (v % 4294967296 : Nat), jmpI]
    repeat' (first | exact sB_nil | refine sB_cons ?_ ?_)
    all_goals (simp [sI, ldI, jmpI]; try omega)
  · change sB [ldI i 1, Ins.mk 5 5 0 (v / 4294967296 : Nat), Ins.mk 4 1 0 (v / 4294967296 : Nat), jmpI, ldI i 0, Ins.mk 5 1 0 (v % 4294967296 : Nat), jmpI]
    repeat' (first | exact sB_nil | refine sB_cons ?_ ?_)
    all_goals (simp [sI, ldI, jmpI]; try omega)
  · change sB [ldI i 1, Ins.mk 5 5 0 (v / 4294967296 : Nat), Ins.mk 4 1 0 (v / 4294967296 : Nat), jmpI, ldI i 0, Ins.mk 6 1 0 (v % 4294967296 : Nat), jmpI]
    repeat' (first | exact sB_nil | refine sB_cons ?_ ?_)
    all_goals (simp [sI, ldI, jmpI]; try omega)
  · change sB [ldI i 1, Ins.mk 2 0 0 (m / 4294967296 : Nat), Ins.mk 4 1 0 (v / 4294967296 : Nat), jmpI, ldI i 0, Ins.mk 2 0 0 (m % 4294967296 : Nat), Ins.mk 4 1 0 (v % 4294967296 : Nat), jmpI]
    repeat' (first | exact sB_nil | refine sB_cons ?_ ?_)
    all_goals (simp [sI, ldI, jmpI]; try omega)
theorem condsB_safe (cs : List CondD) (hg : ∀ x ∈ cs, goodC x) : ∀ k, sB (condsB cs k) := by
  intro k
  induction k with
  | zero => exact sB_nil
  | succ k ih =>
    rw [condsB]
    cases hk : cs[k]? with
    | none => exact ih
    | some x =>
      obtain ⟨g1, g2, g3, g4, g5, g6, g7⟩ := hg x (List.mem_of_getElem? hk)
      simp only
      split
      · exact ih
      · exact sB_append ih (condL_safe _ _ _ _ (by omega) (by omega) (by omega) ⟨g3, by omega⟩)
theorem actF_cases {k e : Int} (h : actF k e = 0) : k = 1 ∧ e = 0 ∨ k = 3 ∧ e = 0 ∨ k = 2 ∧ 1 ≤ e ∧ e ≤ 255 := by
  unfold actF at h
  split at h
  · split at h <;> omega
  · split at h
    · split at h <;> omega
    · omega
theorem retK_range {k e : Int} (h : actF k e = 0) : 0 ≤ retK k e ∧ retK k e < 4294967296 := by
  rcases actF_cases h with ⟨rfl, rfl⟩ | ⟨rfl, rfl⟩ | ⟨rfl, h1, h2⟩
  · decide
  · decide
  · show 0 ≤ 327680 + e ∧ 327680 + e < 4294967296
    omega
/-- A policy that is right, its numbers as they are read. -/
structure RightP (p : PolD) : Prop where
  few : p.rules.length ≤ 12
  els : actF p.kind p.errno = 0
  rul : ∀ r ∈ p.rules, 0 ≤ r.nr ∧ r.nr ≤ 8 ∧ r.conds.length ≤ 4 ∧ actF r.kind r.errno = 0
  con : ∀ r ∈ p.rules, ∀ x ∈ r.conds, goodC x
theorem ruleK_range {r : RuleD} {i : Nat} (hi : i < 12) (h : actF r.kind r.errno = 0) : 0 ≤ ruleK i r ∧ ruleK i r < 4294967296 := by
  unfold ruleK
  split
  · omega
  · exact retK_range h
theorem rules_safe {p : PolD} (hp : RightP p) : ∀ k, k ≤ p.rules.length → sB (rulesL p.rules k) := by
  intro k
  induction k with
  | zero =>
    intro _
    change sB [Ins.mk 1 0 0 4, Ins.mk 4 1 0 3221225534, Ins.mk 8 0 0 0]
    repeat' (first | exact sB_nil | refine sB_cons ?_ ?_)
    all_goals simp [sI]
  | succ k ih =>
    intro hk
    have hlt : k < p.rules.length := by omega
    have hu := List.getElem?_eq_getElem hlt
    have hm : p.rules[k] ∈ p.rules := List.getElem_mem hlt
    have hf := hp.few
    obtain ⟨n1, n2, n3, n4⟩ := hp.rul _ hm
    obtain ⟨s1, s2, s3⟩ := rules_step p.rules hp.con k _ hu
    have hlen := rulesL_len p.rules (fun r hr => (hp.rul r hr).2.2.1) (k + 1)
    have hb : sB (ruleB p.rules[k] k) := by
      refine sB_append (sB_append ?_ (condsB_safe _ (hp.con _ hm) _)) ?_
      · repeat' (first | exact sB_nil | refine sB_cons ?_ ?_)
        all_goals (simp [sI, jmpI]; try omega)
      · have := ruleK_range (show k < 12 by omega) n4
        refine sB_cons ⟨this, .inl ⟨.inr (.inr (.inr rfl)), rfl, rfl⟩⟩ sB_nil
    intro j y hy
    by_cases hj : j < (rulesL p.rules k).length
    · rw [s1 j hj] at hy
      exact (ih (by omega) j y hy).up (by omega)
    · obtain ⟨d, rfl⟩ : ∃ d, j = (rulesL p.rules k).length + d := ⟨j - (rulesL p.rules k).length, by omega⟩
      obtain ⟨hj2, _⟩ := List.getElem?_eq_some_iff.1 hy
      have hd : d < (ruleB p.rules[k] k).length := by omega
      obtain ⟨z, hz, hz2⟩ := s2 d _ (List.getElem?_eq_getElem hd)
      obtain rfl : z = y := by rw [hz] at hy; simpa using hy
      have hx := hb d _ (List.getElem?_eq_getElem hd)
      split at hz2
      · rename_i h3
        obtain ⟨z1, z2, z3, z4, z5⟩ := hz2
        unfold sI at hx
        unfold sI
        omega
      · subst hz2
        exact hx.up (by omega)
theorem scanF_zero : ∀ (l : List Ins), (∀ (i : Nat) x, l[i]? = some x → oneF x.op x.jt x.jf x.k ((l.length : Int) - 1 - i) = 0) → scanF l = 0
  | [], _ => rfl
  | x :: r, h => by
    have h0 := h 0 x rfl
    rw [show (((x :: r).length : Nat) : Int) - 1 - (0 : Nat) = (r.length : Nat) by simp] at h0
    rw [scanF, if_pos h0]
    refine scanF_zero r fun i y hy => ?_
    have := h (i + 1) y (by simpa using hy)
    rw [show (((x :: r).length : Nat) : Int) - 1 - ((i + 1 : Nat) : Int) = (r.length : Int) - 1 - i by simp; omega] at this
    exact this
theorem prog_right {p : PolD} (hp : RightP p) : (∀ x ∈ progL p, x.ok) ∧ checkF (progL p) = 0 ∧ (progL p).length ≤ 600 := by
  have hs := rules_safe hp _ (Nat.le_refl _)
  have hlen := rulesL_len p.rules (fun r hr => (hp.rul r hr).2.2.1) p.rules.length
  have hf := hp.few
  have hk := retK_range hp.els
  have hL : (progL p).length = (rulesL p.rules p.rules.length).length + 1 := by unfold progL; simp
  refine ⟨fun x hx => ?_, ?_, by omega⟩
  · unfold progL at hx
    rcases List.mem_append.1 hx with hx | hx
    · obtain ⟨i, hi⟩ := List.getElem?_of_mem hx
      exact (hs i x hi).1
    · obtain rfl : x = _ := by simpa using hx
      exact hk
  · unfold checkF
    rw [if_neg (by omega), if_neg, if_pos]
    · rw [hL]; unfold progL; simp
    · refine fun h => h (scanF_zero _ fun i x hx => ?_)
      by_cases hi : i < (rulesL p.rules p.rules.length).length
      · have h2 : (rulesL p.rules p.rules.length)[i]? = some x := by
          unfold progL at hx
          rw [List.getElem?_append_left hi] at hx
          exact hx
        exact (hs i x h2).one (by omega)
      · unfold progL at hx
        rw [List.getElem?_append_right (by omega)] at hx
        obtain ⟨h1, h2⟩ := List.getElem?_eq_some_iff.1 hx
        have : i - (rulesL p.rules p.rules.length).length = 0 := by simpa using h1
        simp only [this, List.getElem_cons_zero] at h2
        subst h2
        simp [oneF]
/-- What a policy tells of a call by registers alone. -/
def pickJ (c : CallD) (k e : Int) : Nat → List RuleD → Int × Int × Int
  | _, [] => (k, e, 0)
  | i, r :: rs => if fitB c r then (if deepN r.conds r.conds.length then (4, 0, (i : Int)) else (r.kind, r.errno, 0)) else pickJ c k e (i + 1) rs
def judgeF (p : PolD) (c : CallD) : Int × Int × Int := if c.arch = 3221225534 then pickJ c p.kind p.errno 0 p.rules else (3, 0, 0)
theorem verd_act {k e : Int} (h : actF k e = 0) : verdF (retK k e).toNat = some (k, e, 0) := by
  rcases actF_cases h with ⟨rfl, rfl⟩ | ⟨rfl, rfl⟩ | ⟨rfl, h1, h2⟩
  · decide
  · decide
  · obtain ⟨n, rfl⟩ : ∃ n : Nat, e = n := ⟨e.toNat, by omega⟩
    have : (retK 2 (n : Int)).toNat = 327680 + n := by
      show ((327680 : Int) + n).toNat = _
      omega
    rw [this]
    unfold verdF
    rw [if_neg (by omega), if_neg (by omega), if_pos (by omega), if_pos (by omega)]
    simp only [Option.some.injEq, Prod.mk.injEq, and_true, true_and]
    omega
theorem verd_deep {i : Nat} (h : i < 12) : verdF (((2146435072 + i : Nat) : Int)).toNat = some (4, 0, (i : Int)) := by
  rw [Int.toNat_natCast]
  unfold verdF
  rw [if_neg (by omega), if_neg (by omega), if_neg (by omega), if_pos (by omega), if_pos (by omega)]
  simp only [Option.some.injEq, Prod.mk.injEq, true_and]
  omega
theorem verd_pick (c : CallD) {k e : Int} (h : actF k e = 0) : ∀ (rs : List RuleD) (i : Nat), i + rs.length ≤ 12 → (∀ r ∈ rs, actF r.kind r.errno = 0) → verdF (pickL c (retK k e) i rs).toNat = some (pickJ c k e i rs) ∧ 0 ≤ pickL c (retK k e) i rs ∧ pickL c (retK k e) i rs < 4294967296
  | [], _, _, _ => ⟨verd_act h, retK_range h⟩
  | r :: rs, i, hi, hr => by
    simp only [List.length_cons] at hi
    rw [pickL, pickJ]
    by_cases hf : fitB c r = true
    · rw [if_pos hf, if_pos hf]
      have h1 := hr r (by simp)
      refine ⟨?_, ruleK_range (by omega) h1⟩
      unfold ruleK
      by_cases hd : deepN r.conds r.conds.length = true
      · rw [if_pos hd, if_pos hd]
        exact verd_deep (by omega)
      · rw [if_neg hd, if_neg hd]
        exact verd_act h1
    · rw [if_neg hf, if_neg hf]
      exact verd_pick c h rs (i + 1) (by omega) (fun x hx => hr x (by simp [hx]))
theorem verd_res {p : PolD} (c : CallD) (hp : RightP p) : verdF (resF p c).toNat = some (judgeF p c) ∧ 0 ≤ resF p c ∧ resF p c < 4294967296 := by
  unfold resF judgeF
  split
  · exact verd_pick c hp.els p.rules 0 (by have := hp.few; omega) (fun r hr => (hp.rul r hr).2.2.2)
  · decide
end Go.Proofs.Ytmgngapkgcofnab
