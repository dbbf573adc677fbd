/- A policy's program is right; its number's verdict is the policy's. -/
import Derived.Test.YtmgngapkgcofnaaGreatDoorP17
import Derived.Test.YtmgngapkgcofnaaGreatDoorP01
import Derived.Deep.RegionWith
namespace Go.Proofs.YtmgngapkgcofnaaGreatDoor
open Go.RowKit

/-- A program that is right ends in time. -/
theorem run_law {l : List Ins} (c : CallD) (hok : ∀ x ∈ l, x.ok) (hsc : scanF l = 0) (hlast : (l[l.length - 1]?).map (·.op) = some 8) :
    ∀ (n p : Nat) (a st : Int), p < l.length → l.length - p ≤ n →
      st + 1 ≤ (runF l c n p a st).2 ∧ (runF l c n p a st).2 ≤ st + (l.length - p : Nat) ∧ ∃ x ∈ l, x.op = 8 ∧ x.k = (runF l c n p a st).1 := by
  intro n
  induction n with
  | zero => intro p a st hp hn; omega
  | succ n ih =>
    intro p a st hp hn
    have hf := fine_at hok hsc p hp
    have hend : p + 1 = l.length → l[p].op = 8 := fun e => by
      rw [show l.length - 1 = p from by omega, List.getElem?_eq_getElem hp] at hlast
      simpa using hlast
    have hx : l[p] ∈ l := List.getElem_mem hp
    obtain ⟨k0, k1⟩ := hok _ hx
    obtain ⟨⟨o1, o2⟩, ⟨j1, j2⟩, ⟨j3, j4⟩, fw, fj, fb⟩ := hf
    by_cases c1 : l[p].op = 1
    · rw [runF_1 hp c1]
      have hp2 : p + 1 < l.length := by
        rcases Nat.lt_or_ge (p + 1) l.length with h | h
        · exact h
        · have := hend (by omega); omega
      obtain ⟨h1, h2, h3⟩ := ih (p + 1) (c.word l[p].k) (st + 1) hp2 (by omega)
      exact ⟨by omega, by omega, h3⟩
    by_cases c2 : l[p].op = 2
    · rw [runF_2 hp c2]
      have hp2 : p + 1 < l.length := by
        rcases Nat.lt_or_ge (p + 1) l.length with h | h
        · exact h
        · have := hend (by omega); omega
      obtain ⟨h1, h2, h3⟩ := ih (p + 1) (bits .and .u32 a l[p].k) (st + 1) hp2 (by omega)
      exact ⟨by omega, by omega, h3⟩
    by_cases c3 : l[p].op = 3
    · rw [runF_3 hp c3]
      have := fj c3
      obtain ⟨h1, h2, h3⟩ := ih (p + 1 + l[p].k.toNat) a (st + 1) (by omega) (by omega)
      exact ⟨by omega, by omega, h3⟩
    by_cases c8 : l[p].op = 8
    · rw [runF_8 hp c8]
      exact ⟨by simp, by simp; omega, l[p], hx, c8, rfl⟩
    · rw [runF_b hp (by omega)]
      obtain ⟨y1, y2⟩ := fb (by omega) (by omega)
      split
      · obtain ⟨h1, h2, h3⟩ := ih (p + 1 + l[p].jt.toNat) a (st + 1) (by omega) (by omega)
        exact ⟨by omega, by omega, h3⟩
      · obtain ⟨h1, h2, h3⟩ := ih (p + 1 + l[p].jf.toNat) a (st + 1) (by omega) (by omega)
        exact ⟨by omega, by omega, h3⟩


def sI (x : Ins) (d : Int) : Prop := (0 ≤ x.k ∧ x.k < 4294967296) ∧ (((x.op = 1 ∧ x.k % 4 = 0 ∧ x.k < 40) ∨ x.op = 2 ∨ (x.op = 3 ∧ x.k ≤ d) ∨ x.op = 8) ∧ x.jt = 0 ∧ x.jf = 0 ∨ (4 ≤ x.op ∧ x.op ≤ 7) ∧ 0 ≤ x.jt ∧ x.jt ≤ 255 ∧ 0 ≤ x.jf ∧ x.jf ≤ 255 ∧ x.jt ≤ d ∧ x.jf ≤ d)
theorem sI.up {x : Ins} {d e : Int} (h : sI x d) (he : d ≤ e) : sI x e := by
  unfold sI at h ⊢
  omega
theorem sI.one {x : Ins} {d b : Int} (h : sI x d) (hb : d < b) : oneF x.op x.jt x.jf x.k b = 0 := by
  unfold sI at h
  unfold oneF
  rw [if_neg (by omega), if_neg (by omega), if_neg (by omega), if_neg (by omega), if_neg (by omega)]
def sB (l : List Ins) : Prop := ∀ (i : Nat) x, l[i]? = some x → sI x ((l.length : Int) - i - 1)
theorem sB_nil : sB [] := fun i x h => by simp at h
theorem sB_cons {x : Ins} {l : List Ins} (h : sI x l.length) (hl : sB l) : sB (x :: l) := fun i y hy => by
  cases i with
  | zero =>
    obtain rfl : x = y := by simpa using hy
    exact h.up (by simp)
  | succ i => exact (hl i y (by simpa using hy)).up (by simp; omega)
theorem sB_append {a b : List Ins} (ha : sB a) (hb : sB b) : sB (a ++ b) := by
  induction a with
  | nil => exact hb
  | cons x a ih =>
    rw [List.cons_append]
    refine sB_cons ((ha 0 x rfl).up (by simp; omega)) (ih fun i y hy => (ha (i + 1) y (by simpa using hy)).up (by simp; omega))
theorem condL_safe (op : Int) (i v m : Nat) (hi : i < 4) (hv : v < 18446744073709551616) (hm : m < 18446744073709551616) (hop : 1 ≤ op ∧ op ≤ 7) : sB (condL op i v m) := by
  have h7 : op = 1 ∨ op = 2 ∨ op = 3 ∨ op = 4 ∨ op = 5 ∨ op = 6 ∨ op = 7 := by omega
  rcases h7 with rfl | rfl | rfl | rfl | rfl | rfl | rfl
  · change sB [ldI i 1, Ins.mk 4 1 0 (v / 4294967296 : Nat), jmpI, ldI i 0, Ins.mk 4 1 0 (v % 4294967296 : Nat), jmpI]
    repeat' (first | exact sB_nil | refine sB_cons ?_ ?_)
    all_goals (simp [sI, ldI, jmpI]; try omega)
  · change sB [ldI i 1, Ins.mk 4 0 3 (v / 4294967296 : Nat), ldI i 0, Ins.mk 4 0 1 (v % 4294967296 : Nat), jmpI]
    repeat' (first | exact sB_nil | refine sB_cons ?_ ?_)
    all_goals (simp [sI, ldI, jmpI]; try omega)
  · change sB [ldI i 1, Ins.mk 5 1 0 (v / 4294967296 : Nat), Ins.mk 4 1 4 (v / 4294967296 : Nat), jmpI, ldI i 0, Ins.mk 6 0 1 (v % 4294967296 : Nat), jmpI]
    repeat' (first | exact sB_nil | refine sB_cons ?_ ?_)
    all_goals (simp [sI, ldI, jmpI]; try omega)
  · change sB [ldI i 1, Ins.mk 5 1 0 (v / 4294967296 : Nat), Ins.mk 4 1 4 (v / 4294967296 : Nat), jmpI, ldI i 0, Ins.mk 5 0 1 (v % 4294967296 : Nat), jmpI]
    repeat' (first | exact sB_nil | refine sB_cons ?_ ?_)
    all_goals (simp [sI, ldI, jmpI]; try omega)
  · change sB [ldI i 1, Ins.mk 5 5 0 (v / 4294967296 : Nat), Ins.mk 4 1 0 (v / 4294967296 : Nat), jmpI, ldI i 0, Ins.mk 5 1 0 (v % 4294967296 : Nat), jmpI]
    repeat' (first | exact sB_nil | refine sB_cons ?_ ?_)
    all_goals (simp [sI, ldI, jmpI]; try omega)
  · change sB [ldI i 1, Ins.mk 5 5 0 (v / 4294967296 : Nat), Ins.mk 4 1 0 (v / 4294967296 : Nat), jmpI, ldI i 0, Ins.mk 6 1 0 (v % 4294967296 : Nat), jmpI]
    repeat' (first | exact sB_nil | refine sB_cons ?_ ?_)
    all_goals (simp [sI, ldI, jmpI]; try omega)
  · change sB [ldI i 1, Ins.mk 2 0 0 (m / 4294967296 : Nat), Ins.mk 4 1 0 (v / 4294967296 : Nat), jmpI, ldI i 0, Ins.mk 2 0 0 (m % 4294967296 : Nat), Ins.mk 4 1 0 (v % 4294967296 : Nat), jmpI]
    repeat' (first | exact sB_nil | refine sB_cons ?_ ?_)
    all_goals (simp [sI, ldI, jmpI]; try omega)
theorem condsB_safe (cs : List CondD) (hg : ∀ x ∈ cs, goodC x) : ∀ k, sB (condsB cs k) := by
  intro k
  induction k with
  | zero => exact sB_nil
  | succ k ih =>
    rw [condsB]
    cases hk : cs[k]? with
    | none => exact ih
    | some x =>
      obtain ⟨g1, g2, g3, g4, g5, g6, g7⟩ := hg x (List.mem_of_getElem? hk)
      simp only
      split
      · exact ih
      · exact sB_append ih (condL_safe _ _ _ _ (by omega) (by omega) (by omega) ⟨g3, by omega⟩)
theorem actF_cases {k e : Int} (h : actF k e = 0) : k = 1 ∧ e = 0 ∨ k = 3 ∧ e = 0 ∨ k = 2 ∧ 1 ≤ e ∧ e ≤ 255 := by
  unfold actF at h
  split at h
  · split at h <;> omega
  · split at h
    · split at h <;> omega
    · omega
theorem retK_range {k e : Int} (h : actF k e = 0) : 0 ≤ retK k e ∧ retK k e < 4294967296 := by
  rcases actF_cases h with ⟨rfl, rfl⟩ | ⟨rfl, rfl⟩ | ⟨rfl, h1, h2⟩
  · decide
  · decide
  · show 0 ≤ 327680 + e ∧ 327680 + e < 4294967296
    omega
/-- A policy that is right, its numbers as they are read. -/
structure RightP (p : PolD) : Prop where
  few : p.rules.length ≤ 12
  els : actF p.kind p.errno = 0
  rul : ∀ r ∈ p.rules, 0 ≤ r.nr ∧ r.nr ≤ 8 ∧ r.conds.length ≤ 4 ∧ actF r.kind r.errno = 0
  con : ∀ r ∈ p.rules, ∀ x ∈ r.conds, goodC x
theorem ruleK_range {r : RuleD} {i : Nat} (hi : i < 12) (h : actF r.kind r.errno = 0) : 0 ≤ ruleK i r ∧ ruleK i r < 4294967296 := by
  unfold ruleK
  split
  · omega
  · exact retK_range h
theorem rules_safe {p : PolD} (hp : RightP p) : ∀ k, k ≤ p.rules.length → sB (rulesL p.rules k) := by
  intro k
  induction k with
  | zero =>
    intro _
    change sB [Ins.mk 1 0 0 4, Ins.mk 4 1 0 3221225534, Ins.mk 8 0 0 0]
    repeat' (first | exact sB_nil | refine sB_cons ?_ ?_)
    all_goals simp [sI]
  | succ k ih =>
    intro hk
    have hlt : k < p.rules.length := by omega
    have hu := List.getElem?_eq_getElem hlt
    have hm : p.rules[k] ∈ p.rules := List.getElem_mem hlt
    have hf := hp.few
    obtain ⟨n1, n2, n3, n4⟩ := hp.rul _ hm
    obtain ⟨s1, s2, s3⟩ := rules_step p.rules hp.con k _ hu
    have hlen := rulesL_len p.rules (fun r hr => (hp.rul r hr).2.2.1) (k + 1)
    have hb : sB (ruleB p.rules[k] k) := by
      refine sB_append (sB_append ?_ (condsB_safe _ (hp.con _ hm) _)) ?_
      · repeat' (first | exact sB_nil | refine sB_cons ?_ ?_)
        all_goals (simp [sI, jmpI]; try omega)
      · have := ruleK_range (show k < 12 by omega) n4
        refine sB_cons ⟨this, .inl ⟨.inr (.inr (.inr rfl)), rfl, rfl⟩⟩ sB_nil
    intro j y hy
    by_cases hj : j < (rulesL p.rules k).length
    · rw [s1 j hj] at hy
      exact (ih (by omega) j y hy).up (by omega)
    · obtain ⟨d, rfl⟩ : ∃ d, j = (rulesL p.rules k).length + d := ⟨j - (rulesL p.rules k).length, by omega⟩
      obtain ⟨hj2, _⟩ := List.getElem?_eq_some_iff.1 hy
      have hd : d < (ruleB p.rules[k] k).length := by omega
      obtain ⟨z, hz, hz2⟩ := s2 d _ (List.getElem?_eq_getElem hd)
      obtain rfl : z = y := by rw [hz] at hy; simpa using hy
      have hx := hb d _ (List.getElem?_eq_getElem hd)
      split at hz2
      · rename_i h3
        obtain ⟨z1, z2, z3, z4, z5⟩ := hz2
        unfold sI at hx
        unfold sI
        omega
      · subst hz2
        exact hx.up (by omega)
theorem scanF_zero : ∀ (l : List Ins), (∀ (i : Nat) x, l[i]? = some x → oneF x.op x.jt x.jf x.k ((l.length : Int) - 1 - i) = 0) → scanF l = 0
  | [], _ => rfl
  | x :: r, h => by
    have h0 := h 0 x rfl
    rw [show (((x :: r).length : Nat) : Int) - 1 - (0 : Nat) = (r.length : Nat) by simp] at h0
    rw [scanF, if_pos h0]
    refine scanF_zero r fun i y hy => ?_
    have := h (i + 1) y (by simpa using hy)
    rw [show (((x :: r).length : Nat) : Int) - 1 - ((i + 1 : Nat) : Int) = (r.length : Int) - 1 - i by simp; omega] at this
    exact this
theorem prog_right {p : PolD} (hp : RightP p) : (∀ x ∈ progL p, x.ok) ∧ checkF (progL p) = 0 ∧ (progL p).length ≤ 600 := by
  have hs := rules_safe hp _ (Nat.le_refl _)
  have hlen := rulesL_len p.rules (fun r hr => (hp.rul r hr).2.2.1) p.rules.length
  have hf := hp.few
  have hk := retK_range hp.els
  have hL : (progL p).length = (rulesL p.rules p.rules.length).length + 1 := by unfold progL; simp
  refine ⟨fun x hx => ?_, ?_, by omega⟩
  · unfold progL at hx
    rcases List.mem_append.1 hx with hx | hx
    · obtain ⟨i, hi⟩ := List.getElem?_of_mem hx
      exact (hs i x hi).1
    · obtain rfl : x = _ := by simpa using hx
      exact hk
  · unfold checkF
    rw [if_neg (by omega), if_neg, if_pos]
    · rw [hL]; unfold progL; simp
    · refine fun h => h (scanF_zero _ fun i x hx => ?_)
      by_cases hi : i < (rulesL p.rules p.rules.length).length
      · have h2 : (rulesL p.rules p.rules.length)[i]? = some x := by
          unfold progL at hx
          rw [List.getElem?_append_left hi] at hx
          exact hx
        exact (hs i x h2).one (by omega)
      · unfold progL at hx
        rw [List.getElem?_append_right (by omega)] at hx
        obtain ⟨h1, h2⟩ := List.getElem?_eq_some_iff.1 hx
        have : i - (rulesL p.rules p.rules.length).length = 0 := by simpa using h1
        simp only [this, List.getElem_cons_zero] at h2
        subst h2
        simp [oneF]
/-- What a policy tells of a call by registers alone. -/
def pickJ (c : CallD) (k e : Int) : Nat → List RuleD → Int × Int × Int
  | _, [] => (k, e, 0)
  | i, r :: rs => if fitB c r then (if deepN r.conds r.conds.length then (4, 0, (i : Int)) else (r.kind, r.errno, 0)) else pickJ c k e (i + 1) rs
def judgeF (p : PolD) (c : CallD) : Int × Int × Int := if c.arch = 3221225534 then pickJ c p.kind p.errno 0 p.rules else (3, 0, 0)
theorem verd_act {k e : Int} (h : actF k e = 0) : verdF (retK k e).toNat = some (k, e, 0) := by
  rcases actF_cases h with ⟨rfl, rfl⟩ | ⟨rfl, rfl⟩ | ⟨rfl, h1, h2⟩
  · decide
  · decide
  · obtain ⟨n, rfl⟩ : ∃ n : Nat, e = n := ⟨e.toNat, by omega⟩
    have : (retK 2 (n : Int)).toNat = 327680 + n := by
      show ((327680 : Int) + n).toNat = _
      omega
    rw [this]
    unfold verdF
    rw [if_neg (by omega), if_neg (by omega), if_pos (by omega), if_pos (by omega)]
    simp only [Option.some.injEq, Prod.mk.injEq, and_true, true_and]
    omega
theorem verd_deep {i : Nat} (h : i < 12) : verdF (((2146435072 + i : Nat) : Int)).toNat = some (4, 0, (i : Int)) := by
  rw [Int.toNat_natCast]
  unfold verdF
  rw [if_neg (by omega), if_neg (by omega), if_neg (by omega), if_pos (by omega), if_pos (by omega)]
  simp only [Option.some.injEq, Prod.mk.injEq, true_and]
  omega
theorem verd_pick (c : CallD) {k e : Int} (h : actF k e = 0) : ∀ (rs : List RuleD) (i : Nat), i + rs.length ≤ 12 → (∀ r ∈ rs, actF r.kind r.errno = 0) → verdF (pickL c (retK k e) i rs).toNat = some (pickJ c k e i rs) ∧ 0 ≤ pickL c (retK k e) i rs ∧ pickL c (retK k e) i rs < 4294967296
  | [], _, _, _ => ⟨verd_act h, retK_range h⟩
  | r :: rs, i, hi, hr => by
    simp only [List.length_cons] at hi
    rw [pickL, pickJ]
    by_cases hf : fitB c r = true
    · rw [if_pos hf, if_pos hf]
      have h1 := hr r (by simp)
      refine ⟨?_, ruleK_range (by omega) h1⟩
      unfold ruleK
      by_cases hd : deepN r.conds r.conds.length = true
      · rw [if_pos hd, if_pos hd]
        exact verd_deep (by omega)
      · rw [if_neg hd, if_neg hd]
        exact verd_act h1
    · rw [if_neg hf, if_neg hf]
      exact verd_pick c h rs (i + 1) (by omega) (fun x hx => hr x (by simp [hx]))
theorem verd_res {p : PolD} (c : CallD) (hp : RightP p) : verdF (resF p c).toNat = some (judgeF p c) ∧ 0 ≤ resF p c ∧ resF p c < 4294967296 := by
  unfold resF judgeF
  split
  · exact verd_pick c hp.els p.rules 0 (by have := hp.few; omega) (fun r hr => (hp.rul r hr).2.2.2)
  · decide
end Go.Proofs.YtmgngapkgcofnaaGreatDoor
/- policy.deep, number: the walks. -/
namespace Go.Proofs.YtmgngapkgcofnaaGreatDoor
open Go.RowKit

theorem beqD (a b : Int) : (a == b) = decide (a = b) := by by_cases h : a = b <;> simp [h]
theorem bneD (a b : Int) : (a != b) = decide (a ≠ b) := by by_cases h : a = b <;> simp [h]
set_option linter.unusedSimpArgs false in
set_option maxHeartbeats 2000000 in
theorem deep_any (c : CondD) (w : World) (hop : 1 ≤ c.op ∧ c.op ≤ 9) :
    Calls Tryz.prog 58 #[c.val] w fun e w' => e = .returned (.bool (decide (7 < c.op))) ∧ Below w.heap.size w w' := by
  obtain ⟨arg, op, v, m, glob, ⟨ip, bits, lo, hi⟩⟩ := c
  simp only at hop
  unfold CondD.val
  simp only
  by_cases h8 : op = 8
  · subst h8
    clear hop
    go_enter Tryz.func58, Tryz.ntmps58
    go_wp2_with fail
    go_ret
    exact ⟨rfl, by go_grown⟩
  by_cases h9 : op = 9
  · subst h9
    clear hop
    go_enter Tryz.func58, Tryz.ntmps58
    go_wp2_with fail
    go_ret
    exact ⟨rfl, by go_grown⟩
  have HF : Hid (decide (7 < op) = false) := by show _ = _; simp; omega
  have e8 : (op == 8) = false := beq_eq_false_iff_ne.2 h8
  have e9 : (op == 9) = false := beq_eq_false_iff_ne.2 h9
  clear hop
  go_enter Tryz.func58, Tryz.ntmps58
  go_wp2_with fail
  go_ret
  exact ⟨by rw [HF.out]; rfl, by go_grown⟩

set_option linter.unusedSimpArgs false in
set_option maxHeartbeats 4000000 in
theorem polNum_any (c : CondD) (A : Int) (w : World) (hop : 1 ≤ c.op ∧ c.op ≤ 7) :
    Calls Tryz.prog 59 #[c.val, .int .u64 A] w fun e w' => e = .returned (.bool (numB c.op c.v c.m A)) ∧ Below w.heap.size w w' := by
  obtain ⟨arg, op, v, m, glob, ⟨ip, bits, lo, hi⟩⟩ := c
  simp only at hop
  unfold CondD.val
  simp only
  have h7 : op = 1 ∨ op = 2 ∨ op = 3 ∨ op = 4 ∨ op = 5 ∨ op = 6 ∨ op = 7 := by omega
  rcases h7 with rfl | rfl | rfl | rfl | rfl | rfl | rfl
  all_goals
    clear hop
    go_enter Tryz.func59, Tryz.ntmps59
    go_wp2_with fail
    go_ret
  all_goals refine ⟨?_, by go_grown⟩
  · exact congrArg (fun b => Ending.returned (.bool b)) (beqD A v)
  · exact congrArg (fun b => Ending.returned (.bool b)) (bneD A v)
  · rfl
  · rfl
  · rfl
  · rfl
  · exact congrArg (fun b => Ending.returned (.bool b)) (beqD _ v)
end Go.Proofs.YtmgngapkgcofnaaGreatDoor
/- policy.fits: the walk. -/
namespace Go.Proofs.YtmgngapkgcofnaaGreatDoor
open Go.RowKit

theorem cell6 (w : World) (a b c d e f : Value) (t : TypeId) (W : World) (h : Below (w.alloc (.cells #[a, b, c, d, e, f] t)).heap.size (w.alloc (.cells #[a, b, c, d, e, f] t)) W) :
    W.cell? ⟨w.heap.size, 0, none⟩ = some a ∧ W.cell? ⟨w.heap.size, 1, none⟩ = some b ∧ W.cell? ⟨w.heap.size, 2, none⟩ = some c ∧ W.cell? ⟨w.heap.size, 3, none⟩ = some d ∧ W.cell? ⟨w.heap.size, 4, none⟩ = some e ∧ W.cell? ⟨w.heap.size, 5, none⟩ = some f := by
  have hs : w.heap.size < (w.alloc (.cells #[a, b, c, d, e, f] t)).heap.size := by simp
  refine ⟨?_, ?_, ?_, ?_, ?_, ?_⟩ <;> (rw [h.cell (p := ⟨w.heap.size, _, none⟩) hs, cell_of_row _ _ _ _ _ _ (heap_alloc_new _ _)]; rfl)
theorem fit_no {c : CallD} {r : RuleD} {k : Nat} {x : CondD} (hk : r.conds[k]? = some x) (h : passC c x = false) : fitB c r = false := by
  unfold fitB
  rw [Bool.and_eq_false_iff]
  refine .inr ?_
  rw [Bool.eq_false_iff]
  intro hall
  have := List.all_eq_true.1 hall x (List.mem_of_getElem? hk)
  rw [h] at this; cases this
theorem pass_next {c : CallD} {cs : List CondD} {k : Nat} {x : CondD} (hk : cs[k]? = some x) (ha : (cs.take k).all (passC c) = true) (h : passC c x = true) : (cs.take (k + 1)).all (passC c) = true := by
  rw [List.take_add_one, hk, List.all_append, ha]
  simp only [Option.toList_some, List.all_cons, List.all_nil, h, Bool.and_true]
theorem deep_next {cs : List CondD} {k : Nat} {x : CondD} (hk : cs[k]? = some x) : deepN cs (k + 1) = (deepN cs k || decide (7 < x.op)) := by
  rw [deepN, hk]

set_option linter.unusedSimpArgs false in
set_option maxRecDepth 100000 in
set_option maxHeartbeats 4000000 in
theorem fits_any (nr : Int) (sv : Value) (conds : List CondD) (rk re : Int) (c : CallD) (w : World) (hcs : CondsSl w w.heap.size sv conds) (hn : 0 ≤ nr ∧ nr ≤ 8)
    (hops : ∀ x ∈ conds, (0 ≤ x.arg ∧ x.arg ≤ 3) ∧ 1 ≤ x.op ∧ x.op ≤ 9) (hl : conds.length ≤ 100000) :
    Calls Tryz.prog 35 #[.agg #[.int .i64 nr, sv, .int .i64 rk, .int .i64 re], c.v] w fun e w' => e = .returned (.tuple #[.bool (fitB c ⟨nr, conds, rk, re⟩), .bool (fitB c ⟨nr, conds, rk, re⟩ && deepN conds conds.length)]) ∧ Below w.heap.size w w' := by
  have hN : ∀ x : Bool, fitB c ⟨nr, conds, rk, re⟩ = x → (Value.tuple #[.bool (fitB c ⟨nr, conds, rk, re⟩), .bool (fitB c ⟨nr, conds, rk, re⟩ && deepN conds conds.length)]) = .tuple #[.bool x, .bool (x && deepN conds conds.length)] := fun x h => by rw [h]
  have HNO : Hid (fitB c ⟨nr, conds, rk, re⟩ = false → (Value.tuple #[.bool (fitB c ⟨nr, conds, rk, re⟩), .bool (fitB c ⟨nr, conds, rk, re⟩ && deepN conds conds.length)]) = .tuple #[.bool false, .bool false]) := fun h => hN false h
  have HYES : Hid (fitB c ⟨nr, conds, rk, re⟩ = true → (Value.tuple #[.bool (fitB c ⟨nr, conds, rk, re⟩), .bool (fitB c ⟨nr, conds, rk, re⟩ && deepN conds conds.length)]) = .tuple #[.bool true, .bool (deepN conds conds.length)]) := fun h => by rw [hN true h, Bool.true_and]
  clear hN
  have HFE : Hid ((decide (c.nr = nr) && conds.all (passC c)) = fitB c ⟨nr, conds, rk, re⟩) := rfl
  have HNOK : Hid (∀ k x, conds[k]? = some x → passC c x = false → fitB c ⟨nr, conds, rk, re⟩ = false) := fun k x h1 h2 => fit_no (r := ⟨nr, conds, rk, re⟩) h1 h2
  have HPN : Hid (∀ k x, conds[k]? = some x → (conds.take k).all (passC c) = true → passC c x = true → (conds.take (k + 1)).all (passC c) = true) := fun k x => pass_next
  have HP : Hid (∀ x, passC c x = (decide (7 < x.op) || numB x.op x.v x.m (argN c x.arg.toNat))) := fun x => rfl
  have HA0 : Hid (argN c 0 = c.a0) := rfl
  have HA1 : Hid (argN c 1 = c.a1) := rfl
  have HA2 : Hid (argN c 2 = c.a2) := rfl
  have HA3 : Hid (argN c 3 = c.a3) := rfl
  obtain ⟨P, hPd⟩ : ∃ P : CondD → Bool, P = passC c := ⟨_, rfl⟩
  obtain ⟨AN, hAN⟩ : ∃ AN : Nat → Int, AN = argN c := ⟨_, rfl⟩
  rw [← hPd] at HFE HNOK HPN HP
  rw [← hAN] at HP HA0 HA1 HA2 HA3
  clear hPd hAN
  generalize fitB c ⟨nr, conds, rk, re⟩ = F at *
  obtain ⟨A', c', rfl⟩ : ∃ A' c', sv = .slice A' conds.length c' := by obtain ⟨_, A', c', h, _⟩ := hcs; exact ⟨A', c', h⟩
  obtain ⟨arch, cnr, a0, a1, a2, a3⟩ := c
  unfold CallD.v
  simp only at HA0 HA1 HA2 HA3 HFE ⊢
  by_cases hnr : cnr = nr
  · subst hnr
    obtain ⟨n, rfl⟩ : ∃ n : Nat, cnr = n := ⟨cnr.toNat, by omega⟩
    have hn8 : n ≤ 8 := by omega
    have HFE2 : Hid (conds.all P = F) := by show _ = _; rw [← HFE.out]; simp
    clear HFE
    have HCS := Lib.hid hcs
    have HOPS := Lib.hid hops
    clear hcs hops
    have HC6 := Lib.hid (cell6 (w.alloc (.cells #[.int .i64 (n : Int), .slice A' conds.length c', .int .i64 rk, .int .i64 re] 73)) (.int .u32 arch) (.int .u32 (n : Int)) (.int .u64 a0) (.int .u64 a1) (.int .u64 a2) (.int .u64 a3) 41)
    have HAB2 : Hid (Below w.heap.size w ((w.alloc (.cells #[.int .i64 (n : Int), .slice A' conds.length c', .int .i64 rk, .int .i64 re] 73)).alloc (.cells #[.int .u32 arch, .int .u32 (n : Int), .int .u64 a0, .int .u64 a1, .int .u64 a2, .int .u64 a3] 41))) := ((Below.refl _ _).alloc (Nat.le_refl _) _).alloc (by simp) _
    go_enter Tryz.func35, Tryz.ntmps35
    go_wp2_with fail
    generalize (w.alloc (.cells #[.int .i64 (n : Int), .slice A' conds.length c', .int .i64 rk, .int .i64 re] 73)).alloc (.cells #[.int .u32 arch, .int .u32 (n : Int), .int .u64 a0, .int .u64 a1, .int .u64 a2, .int .u64 a3] 41) = W2 at *
    have hw1 : (w.alloc (.cells #[.int .i64 (n : Int), .slice A' conds.length c', .int .i64 rk, .int .i64 re] 73)).heap.size = w.heap.size + 1 := by simp
    rw [hw1] at HC6
    go_loopw [6, 18] (fun mv iv wr => ∃ k : Nat, k ≤ conds.length ∧ iv = .int .i64 k ∧ mv = .bool (deepN conds k) ∧ Hid ((conds.take k).all P = true) ∧ Hid (Below W2.heap.size W2 wr)) (fun _ iv _ => conds.length - (intOf iv).toNat)
    case atStart => exact ⟨0, Nat.zero_le _, rfl, rfl, rfl, Below.refl _ _⟩
    case round =>
      obtain ⟨k, hk, rfl, rfl, hAll, hB⟩ := hrel
      have HBW : Hid (Below w.heap.size w wr) := HAB2.out.trans (hB.out.mono HAB2.out.size)
      by_cases hkl : k < conds.length
      · have y2 : (k : Int) < (conds.length : Int) := by omega
        have y3 : (0 : Int) ≤ (k : Int) := by omega
        have hlk : conds[k]? = some conds[k] := by simp
        obtain ⟨hcok, A2, c2, hA2, hrw⟩ := HCS.out.below HBW.out (Nat.le_refl _)
        obtain ⟨rfl, rfl⟩ : A' = A2 ∧ c' = c2 := by simpa using hA2
        obtain ⟨b2, o2, rfl, hb2, hrow2⟩ := hrw.resolve_left (by intro e; rw [e] at hkl; simp at hkl)
        have hr9 := hrow2 k _ hlk
        obtain ⟨⟨ha0, ha3⟩, ho1, ho9⟩ := HOPS.out conds[k] (by simp)
        have HDN : Hid (deepN conds (k + 1) = (deepN conds k || decide (7 < conds[k].op))) := deep_next hlk
        have HPY : Hid (P conds[k] = true → (conds.take (k + 1)).all P = true) := fun h => HPN.out k _ hlk hAll.out h
        have HPX : Hid (P conds[k] = false → F = false) := HNOK.out k _ hlk
        have HPV := HP.out conds[k]
        have HDC : Hid (∀ W : World, Calls Tryz.prog 58 #[conds[k].val] W fun e w' => e = .returned (.bool (decide (7 < conds[k].op))) ∧ Below W.heap.size W w') := fun W => deep_any _ W ⟨ho1, ho9⟩
        have HNC : Hid (∀ (A : Int) (W : World), conds[k].op ≤ 7 → Calls Tryz.prog 59 #[conds[k].val, .int .u64 A] W fun e w' => e = .returned (.bool (numB conds[k].op conds[k].v conds[k].m A)) ∧ Below W.heap.size W w') := fun A W h => polNum_any _ A W ⟨ho1, h⟩
        clear hcok hA2 hrw hrow2 hlk
        generalize conds[k] = CC at *
        obtain ⟨arg, op, v, m, glob, ⟨ip, bits, lo, hi⟩⟩ := CC
        have e0 : wr.cell? ⟨b2, o2 + k * 9, none⟩ = some (.int .i64 arg) := hr9 0 _ rfl
        have e1 := hr9 1 _ rfl
        have e2 := hr9 2 _ rfl
        have e3 := hr9 3 _ rfl
        have e4 := hr9 4 _ rfl
        have e5 := hr9 5 _ rfl
        have e6 := hr9 6 _ rfl
        have e7 := hr9 7 _ rfl
        have e8 := hr9 8 _ rfl
        simp only at e1 e2 e3 e4 e5 e6 e7 e8
        have HC9 := Lib.hid (cell9 wr (.int .i64 arg) (.int .i64 op) (.int .u64 v) (.int .u64 m) (.string glob) (.int .u32 ip) (.int .i64 bits) (.int .i64 lo) (.int .i64 hi) 84)
        have HAB9 := Lib.hid (above wr (.cells #[.int .i64 arg, .int .i64 op, .int .u64 v, .int .u64 m, .string glob, .int .u32 ip, .int .i64 bits, .int .i64 lo, .int .i64 hi] 84))
        unfold CondD.val at HDC HNC
        simp only at HDC HNC HDN HPV ha0 ha3 ho1 ho9
        clear hr9
        go_upto_region 7 with fail
        generalize wr.alloc (.cells #[.int .i64 arg, .int .i64 op, .int .u64 v, .int .u64 m, .string glob, .int .u32 ip, .int .i64 bits, .int .i64 lo, .int .i64 hi] 84) = W3 at *
        clear e0 e1 e2 e3 e4 e5 e6 e7 e8
        have HB3 := Lib.hid (HAB9.out W3 (Below.refl _ _))
        have HB23 : Hid (Below W2.heap.size W2 W3) := hB.out.trans (HB3.out.mono hB.out.size)
        have HK : Hid (∀ W, Below W3.heap.size W3 W → Below W2.heap.size W2 W) := fun W h => HB23.out.trans (h.mono HB23.out.size)
        obtain ⟨j0, j1, j2, j3, j4, j5, j6, j7, j8⟩ := HC9.out W3 (Below.refl _ _)
        clear HAB9
        by_cases h7 : 7 < op
        · have HPT := Lib.hid (HPY.out (by rw [HPV]; simp [h7]))
          have HDT : Hid (deepN conds (k + 1) = true) := by show _ = _; rw [HDN.out]; simp [h7]
          have HDC2 : Hid (∀ W : World, Calls Tryz.prog 58 #[.agg #[.int .i64 arg, .int .i64 op, .int .u64 v, .int .u64 m, .string glob, .int .u32 ip, .int .i64 bits, .int .i64 lo, .int .i64 hi]] W fun e w' => e = .returned (.bool true) ∧ Below W.heap.size W w') := fun W => (HDC.out W).mono fun _ _ ⟨q1, q2⟩ => ⟨by rw [q1, decide_eq_true h7], q2⟩
          clear HDC HNC HPV h7 ho9
          go_wp2_with (go_at_call 58; refine cargs (by simp [Act.eval]) ((HDC2.out _).mono ?_); rintro e w4 ⟨rfl, hb4⟩; have HB4' := Lib.hid hb4; clear hb4)
          go_roundw
          case rel => exact ⟨k + 1, by omega, by go_num, by rw [HDT.out], HPT, HK.out _ HB4'.out⟩
          case measure => simp [intOf]; omega
        · have HDF : Hid (deepN conds (k + 1) = deepN conds k) := by show _ = _; rw [HDN.out]; simp [h7]
          have HDC2 : Hid (∀ W : World, Calls Tryz.prog 58 #[.agg #[.int .i64 arg, .int .i64 op, .int .u64 v, .int .u64 m, .string glob, .int .u32 ip, .int .i64 bits, .int .i64 lo, .int .i64 hi]] W fun e w' => e = .returned (.bool false) ∧ Below W.heap.size W w') := fun W => (HDC.out W).mono fun _ _ ⟨q1, q2⟩ => ⟨by rw [q1, decide_eq_false h7], q2⟩
          have HNC2 := Lib.hid (fun A W => HNC.out A W (by omega))
          have HPV2 : Hid (P ⟨arg, op, v, m, glob, ⟨ip, bits, lo, hi⟩⟩ = numB op v m (AN arg.toNat)) := by show _ = _; rw [HPV]; simp [h7]
          clear HDC HNC HPV h7 ho9 HDN
          go_upto_region 9 with (go_at_call 58; refine cargs (by simp [Act.eval]) ((HDC2.out _).mono ?_); rintro e w4 ⟨rfl, hb4⟩; have HB4' := Lib.hid (HK.out _ hb4); obtain ⟨j0, j1, j2, j3, j4, j5, j6, j7, j8⟩ := HC9.out w4 hb4; obtain ⟨l0, l1, l2, l3, l4, l5⟩ := HC6.out w4 (HK.out _ hb4); clear hb4)
          have ha4 : arg = 0 ∨ arg = 1 ∨ arg = 2 ∨ arg = 3 := by omega
          clear HC6 HC9 HCS HOPS HPN HNOK HDC2 HP ha0 ha3 hb2 HB3 HB23
          rcases ha4 with rfl | rfl | rfl | rfl
          · have HPV3 : Hid (P ⟨0, op, v, m, glob, ⟨ip, bits, lo, hi⟩⟩ = numB op v m a0) := by show _ = _; rw [HPV2.out, ← HA0.out]; rfl
            have HNC3 := Lib.hid (HNC2.out a0)
            clear HPV2 HNC2 HA0 HA1 HA2 HA3
            rw [HPV3.out] at HPY HPX
            generalize numB op v m _ = nb at *
            clear HPV3
            cases nb with
            | true =>
              have HPT := Lib.hid (HPY.out rfl)
              clear HPY HPX
              go_region_with (go_at_call 59; refine cargs (by simp [Act.eval]) ((HNC3.out _).mono ?_); rintro e w5 ⟨rfl, hb5⟩; have HB5 : Hid (Below w4.heap.size w4 w5) := (by first | exact hb5 | exact below_box (Below.refl _ _) (Nat.le_refl _) hb5 | exact (Below.refl _ _).drew.trans hb5))
              all_goals
                go_wp2_with fail
                go_roundw
                case rel => exact ⟨k + 1, by omega, by go_num, by rw [HDF.out], HPT, HB4'.out.trans (HB5.out.mono HB4'.out.size)⟩
                case measure => simp [intOf]; omega
            | false =>
              have HT : Hid (F = false) := HPX.out rfl
              clear HPY HPX
              go_region_with (go_at_call 59; refine cargs (by simp [Act.eval]) ((HNC3.out _).mono ?_); rintro e w5 ⟨rfl, hb5⟩; have HB5 : Hid (Below w4.heap.size w4 w5) := (by first | exact hb5 | exact below_box (Below.refl _ _) (Nat.le_refl _) hb5 | exact (Below.refl _ _).drew.trans hb5))
              all_goals
                go_wp2_with fail
                go_returns
                exact ⟨by rw [HNO.out HT.out]; rfl, HAB2.out.trans ((HB4'.out.trans (HB5.out.mono HB4'.out.size)).mono HAB2.out.size)⟩
          · have HPV3 : Hid (P ⟨1, op, v, m, glob, ⟨ip, bits, lo, hi⟩⟩ = numB op v m a1) := by show _ = _; rw [HPV2.out, ← HA1.out]; rfl
            have HNC3 := Lib.hid (HNC2.out a1)
            clear HPV2 HNC2 HA0 HA1 HA2 HA3
            rw [HPV3.out] at HPY HPX
            generalize numB op v m _ = nb at *
            clear HPV3
            cases nb with
            | true =>
              have HPT := Lib.hid (HPY.out rfl)
              clear HPY HPX
              go_region_with (go_at_call 59; refine cargs (by simp [Act.eval]) ((HNC3.out _).mono ?_); rintro e w5 ⟨rfl, hb5⟩; have HB5 : Hid (Below w4.heap.size w4 w5) := (by first | exact hb5 | exact below_box (Below.refl _ _) (Nat.le_refl _) hb5 | exact (Below.refl _ _).drew.trans hb5))
              all_goals
                go_wp2_with fail
                go_roundw
                case rel => exact ⟨k + 1, by omega, by go_num, by rw [HDF.out], HPT, HB4'.out.trans (HB5.out.mono HB4'.out.size)⟩
                case measure => simp [intOf]; omega
            | false =>
              have HT : Hid (F = false) := HPX.out rfl
              clear HPY HPX
              go_region_with (go_at_call 59; refine cargs (by simp [Act.eval]) ((HNC3.out _).mono ?_); rintro e w5 ⟨rfl, hb5⟩; have HB5 : Hid (Below w4.heap.size w4 w5) := (by first | exact hb5 | exact below_box (Below.refl _ _) (Nat.le_refl _) hb5 | exact (Below.refl _ _).drew.trans hb5))
              all_goals
                go_wp2_with fail
                go_returns
                exact ⟨by rw [HNO.out HT.out]; rfl, HAB2.out.trans ((HB4'.out.trans (HB5.out.mono HB4'.out.size)).mono HAB2.out.size)⟩
          · have HPV3 : Hid (P ⟨2, op, v, m, glob, ⟨ip, bits, lo, hi⟩⟩ = numB op v m a2) := by show _ = _; rw [HPV2.out, ← HA2.out]; rfl
            have HNC3 := Lib.hid (HNC2.out a2)
            clear HPV2 HNC2 HA0 HA1 HA2 HA3
            rw [HPV3.out] at HPY HPX
            generalize numB op v m _ = nb at *
            clear HPV3
            cases nb with
            | true =>
              have HPT := Lib.hid (HPY.out rfl)
              clear HPY HPX
              go_region_with (go_at_call 59; refine cargs (by simp [Act.eval]) ((HNC3.out _).mono ?_); rintro e w5 ⟨rfl, hb5⟩; have HB5 : Hid (Below w4.heap.size w4 w5) := (by first | exact hb5 | exact below_box (Below.refl _ _) (Nat.le_refl _) hb5 | exact (Below.refl _ _).drew.trans hb5))
              all_goals
                go_wp2_with fail
                go_roundw
                case rel => exact ⟨k + 1, by omega, by go_num, by rw [HDF.out], HPT, HB4'.out.trans (HB5.out.mono HB4'.out.size)⟩
                case measure => simp [intOf]; omega
            | false =>
              have HT : Hid (F = false) := HPX.out rfl
              clear HPY HPX
              go_region_with (go_at_call 59; refine cargs (by simp [Act.eval]) ((HNC3.out _).mono ?_); rintro e w5 ⟨rfl, hb5⟩; have HB5 : Hid (Below w4.heap.size w4 w5) := (by first | exact hb5 | exact below_box (Below.refl _ _) (Nat.le_refl _) hb5 | exact (Below.refl _ _).drew.trans hb5))
              all_goals
                go_wp2_with fail
                go_returns
                exact ⟨by rw [HNO.out HT.out]; rfl, HAB2.out.trans ((HB4'.out.trans (HB5.out.mono HB4'.out.size)).mono HAB2.out.size)⟩
          · have HPV3 : Hid (P ⟨3, op, v, m, glob, ⟨ip, bits, lo, hi⟩⟩ = numB op v m a3) := by show _ = _; rw [HPV2.out, ← HA3.out]; rfl
            have HNC3 := Lib.hid (HNC2.out a3)
            clear HPV2 HNC2 HA0 HA1 HA2 HA3
            rw [HPV3.out] at HPY HPX
            generalize numB op v m _ = nb at *
            clear HPV3
            cases nb with
            | true =>
              have HPT := Lib.hid (HPY.out rfl)
              clear HPY HPX
              go_region_with (go_at_call 59; refine cargs (by simp [Act.eval]) ((HNC3.out _).mono ?_); rintro e w5 ⟨rfl, hb5⟩; have HB5 : Hid (Below w4.heap.size w4 w5) := (by first | exact hb5 | exact below_box (Below.refl _ _) (Nat.le_refl _) hb5 | exact (Below.refl _ _).drew.trans hb5))
              all_goals
                go_wp2_with fail
                go_roundw
                case rel => exact ⟨k + 1, by omega, by go_num, by rw [HDF.out], HPT, HB4'.out.trans (HB5.out.mono HB4'.out.size)⟩
                case measure => simp [intOf]; omega
            | false =>
              have HT : Hid (F = false) := HPX.out rfl
              clear HPY HPX
              go_region_with (go_at_call 59; refine cargs (by simp [Act.eval]) ((HNC3.out _).mono ?_); rintro e w5 ⟨rfl, hb5⟩; have HB5 : Hid (Below w4.heap.size w4 w5) := (by first | exact hb5 | exact below_box (Below.refl _ _) (Nat.le_refl _) hb5 | exact (Below.refl _ _).drew.trans hb5))
              all_goals
                go_wp2_with fail
                go_returns
                exact ⟨by rw [HNO.out HT.out]; rfl, HAB2.out.trans ((HB4'.out.trans (HB5.out.mono HB4'.out.size)).mono HAB2.out.size)⟩
      · obtain rfl : k = conds.length := by omega
        have HT : Hid (F = true) := by show _ = _; rw [← HFE2.out]; have := hAll.out; rwa [List.take_length] at this
        go_wp2_with fail
        go_returns
        exact ⟨by rw [HYES.out HT.out]; rfl, HBW.out⟩
  · have HF : Hid (F = false) := by show _ = _; rw [← HFE.out]; simp [hnr]
    obtain ⟨n, rfl⟩ : ∃ n : Nat, nr = n := ⟨nr.toNat, by omega⟩
    have hn8 : n ≤ 8 := by omega
    have e1 : ((n : Int) != cnr) = true := by simp; exact fun h => hnr h.symm
    clear hnr HFE HPN HNOK HP HA0 HA1 HA2 HA3 hcs hops HYES
    go_enter Tryz.func35, Tryz.ntmps35
    go_wp2_with fail
    go_returns
    exact ⟨by rw [HNO.out HF.out]; rfl, by go_grown⟩
end Go.Proofs.YtmgngapkgcofnaaGreatDoor
