/- A policy's program at work: the plain law: what it returns of a call. -/
import Derived.Test.YtmgngapkgcofnabCompLaw
import Derived.Test.YtmgngapkgcofnabRunW
namespace Go.Proofs.Ytmgngapkgcofnab
open Go.RowKit

/-- From a place on, with that number at hand, the program returns r. -/
def Ends (L : List Ins) (c : CallD) (p : Nat) (a r : Int) : Prop := ∀ (n : Nat) (st : Int), L.length - p ≤ n → p < L.length ∧ (runF L c n p a st).1 = r
section
variable {L : List Ins} {c : CallD} {p : Nat} {a r : Int} {x : Ins}
theorem at_lt (h : L[p]? = some x) : p < L.length ∧ ∀ (hp : p < L.length), L[p] = x := by
  obtain ⟨h1, h2⟩ := List.getElem?_eq_some_iff.1 h
  exact ⟨h1, fun _ => h2⟩
theorem ends_ret (h : L[p]? = some x) (ho : x.op = 8) : Ends L c p a x.k := fun n st hn => by
  obtain ⟨h1, h2⟩ := at_lt h
  refine ⟨h1, ?_⟩
  obtain ⟨n, rfl⟩ : ∃ m, n = m + 1 := ⟨n - 1, by omega⟩
  rw [runF_8 h1 (by rw [h2]; exact ho), h2]
theorem ends_ld (h : L[p]? = some x) (ho : x.op = 1) (k : Ends L c (p + 1) (c.word x.k) r) : Ends L c p a r := fun n st hn => by
  obtain ⟨h1, h2⟩ := at_lt h
  refine ⟨h1, ?_⟩
  obtain ⟨n, rfl⟩ : ∃ m, n = m + 1 := ⟨n - 1, by omega⟩
  rw [runF_1 h1 (by rw [h2]; exact ho), h2]
  exact (k n (st + 1) (by omega)).2
theorem ends_and (h : L[p]? = some x) (ho : x.op = 2) (k : Ends L c (p + 1) (bits .and .u32 a x.k) r) : Ends L c p a r := fun n st hn => by
  obtain ⟨h1, h2⟩ := at_lt h
  refine ⟨h1, ?_⟩
  obtain ⟨n, rfl⟩ : ∃ m, n = m + 1 := ⟨n - 1, by omega⟩
  rw [runF_2 h1 (by rw [h2]; exact ho), h2]
  exact (k n (st + 1) (by omega)).2
theorem ends_jmp (h : L[p]? = some x) (ho : x.op = 3) (k : Ends L c (p + 1 + x.k.toNat) a r) : Ends L c p a r := fun n st hn => by
  obtain ⟨h1, h2⟩ := at_lt h
  refine ⟨h1, ?_⟩
  obtain ⟨n, rfl⟩ : ∃ m, n = m + 1 := ⟨n - 1, by omega⟩
  rw [runF_3 h1 (by rw [h2]; exact ho), h2]
  exact (k n (st + 1) (by omega)).2
theorem ends_br (h : L[p]? = some x) (ho : 4 ≤ x.op ∧ x.op ≤ 7) (k : Ends L c (if holdsF x.op a x.k then p + 1 + x.jt.toNat else p + 1 + x.jf.toNat) a r) : Ends L c p a r := fun n st hn => by
  obtain ⟨h1, h2⟩ := at_lt h
  refine ⟨h1, ?_⟩
  obtain ⟨n, rfl⟩ : ∃ m, n = m + 1 := ⟨n - 1, by omega⟩
  rw [runF_b h1 (by rw [h2]; exact ho), h2]
  by_cases hb : holdsF x.op a x.k = true
  · rw [if_pos hb] at k ⊢
    exact (k n (st + 1) (by omega)).2
  · rw [if_neg hb] at k ⊢
    exact (k n (st + 1) (by omega)).2
end

/-- These instructions stand from place q on; each jump goes to t. -/
def CodeAt (L : List Ins) (t q : Nat) (blk : List Ins) : Prop := ∀ i x, blk[i]? = some x → ∃ y, L[q + i]? = some y ∧ (if x.op = 3 then y.op = 3 ∧ y.jt = x.jt ∧ y.jf = x.jf ∧ 0 ≤ y.k ∧ q + i + 1 + y.k.toNat = t else y = x)
section
variable {L : List Ins} {c : CallD} {t q : Nat} {blk : List Ins} {a r : Int} {x : Ins}
theorem CodeAt.same (h : CodeAt L t q blk) (i : Nat) (x : Ins) (hx : blk[i]? = some x) (h3 : x.op ≠ 3) : L[q + i]? = some x := by
  obtain ⟨y, h1, h2⟩ := h i x hx
  rw [if_neg h3] at h2
  rw [h1, h2]
theorem CodeAt.away (h : CodeAt L t q blk) (i : Nat) (x : Ins) (hx : blk[i]? = some x) (h3 : x.op = 3) (k : Ends L c t a r) : Ends L c (q + i) a r := by
  obtain ⟨y, h1, h2⟩ := h i x hx
  rw [if_pos h3] at h2
  exact ends_jmp h1 h2.1 (by rw [h2.2.2.2.2]; exact k)
theorem CodeAt.left {b1 b2 : List Ins} (h : CodeAt L t q (b1 ++ b2)) : CodeAt L t q b1 := fun i x hx => h i x (by
  obtain ⟨h1, h2⟩ := List.getElem?_eq_some_iff.1 hx
  rw [List.getElem?_append_left h1]; exact hx)
theorem CodeAt.right {b1 b2 : List Ins} (h : CodeAt L t q (b1 ++ b2)) : CodeAt L t (q + b1.length) b2 := fun i x hx => by
  have := h (b1.length + i) x (by rw [List.getElem?_append_right (by omega)]; simpa using hx)
  rw [show q + b1.length + i = q + (b1.length + i) by omega]
  exact this
theorem CodeAt.more (h : CodeAt L t q blk) (M : List Ins) : CodeAt (L ++ M) t q blk := fun i x hx => by
  obtain ⟨y, h1, h2⟩ := h i x hx
  obtain ⟨h3, _⟩ := List.getElem?_eq_some_iff.1 h1
  exact ⟨y, by rw [List.getElem?_append_left h3]; exact h1, h2⟩
theorem c_ld (h : CodeAt L t q blk) (i : Nat) {v : Int} (hx : blk[i]? = some x) (ho : x.op = 1) (hw : c.word x.k = v) (k : Ends L c (q + i + 1) v r) : Ends L c (q + i) a r :=
  ends_ld (h.same i x hx (by omega)) ho (by rw [hw]; exact k)
theorem c_and (h : CodeAt L t q blk) (i : Nat) {v : Int} (hx : blk[i]? = some x) (ho : x.op = 2) (hw : bits .and .u32 a x.k = v) (k : Ends L c (q + i + 1) v r) : Ends L c (q + i) a r :=
  ends_and (h.same i x hx (by omega)) ho (by rw [hw]; exact k)
theorem holds_eq (a k : Int) : holdsF 4 a k = decide (a = k) := by
  unfold holdsF; rw [if_pos rfl]; by_cases h : a = k <;> simp [h]
theorem holds_gt (a k : Int) : holdsF 5 a k = decide (k < a) := rfl
theorem holds_ge (a k : Int) : holdsF 6 a k = decide (k ≤ a) := rfl
theorem c_eq (h : CodeAt L t q blk) (i : Nat) {jt jf v : Int} (hx : blk[i]? = some (Ins.mk 4 jt jf v)) (k1 : a = v → Ends L c (q + i + 1 + jt.toNat) a r) (k2 : a ≠ v → Ends L c (q + i + 1 + jf.toNat) a r) : Ends L c (q + i) a r := by
  refine ends_br (h.same i _ hx (by show (4 : Int) ≠ 3; decide)) (by show (4 : Int) ≤ 4 ∧ (4 : Int) ≤ 7; decide) ?_
  rw [holds_eq]
  by_cases e : a = v
  · rw [if_pos (by simpa using e)]; exact k1 e
  · rw [if_neg (by simpa using e)]; exact k2 e
theorem c_gt (h : CodeAt L t q blk) (i : Nat) {jt jf v : Int} (hx : blk[i]? = some (Ins.mk 5 jt jf v)) (k1 : v < a → Ends L c (q + i + 1 + jt.toNat) a r) (k2 : ¬ v < a → Ends L c (q + i + 1 + jf.toNat) a r) : Ends L c (q + i) a r := by
  refine ends_br (h.same i _ hx (by show (5 : Int) ≠ 3; decide)) (by show (4 : Int) ≤ 5 ∧ (5 : Int) ≤ 7; decide) ?_
  rw [holds_gt]
  by_cases e : v < a
  · rw [if_pos (by simpa using e)]; exact k1 e
  · rw [if_neg (by simpa using e)]; exact k2 e
theorem c_ge (h : CodeAt L t q blk) (i : Nat) {jt jf v : Int} (hx : blk[i]? = some (Ins.mk 6 jt jf v)) (k1 : v ≤ a → Ends L c (q + i + 1 + jt.toNat) a r) (k2 : ¬ v ≤ a → Ends L c (q + i + 1 + jf.toNat) a r) : Ends L c (q + i) a r := by
  refine ends_br (h.same i _ hx (by show (6 : Int) ≠ 3; decide)) (by show (4 : Int) ≤ 6 ∧ (6 : Int) ≤ 7; decide) ?_
  rw [holds_ge]
  by_cases e : v ≤ a
  · rw [if_pos (by simpa using e)]; exact k1 e
  · rw [if_neg (by simpa using e)]; exact k2 e
end

def argN (c : CallD) (i : Nat) : Int := if i = 0 then c.a0 else if i = 1 then c.a1 else if i = 2 then c.a2 else c.a3
theorem argN_ok {c : CallD} (hc : c.ok) (i : Nat) : 0 ≤ argN c i ∧ argN c i ≤ 18446744073709551615 := by
  obtain ⟨_, _, h0, h1, h2, h3⟩ := hc
  unfold argN
  split
  · exact h0
  · split
    · exact h1
    · split
      · exact h2
      · exact h3
theorem word_hi (c : CallD) (i : Nat) (h : i < 4) : c.word ((8 + 8 * i + 4 * 1 : Nat) : Int) = argN c i / 4294967296 := by
  have : i = 0 ∨ i = 1 ∨ i = 2 ∨ i = 3 := by omega
  rcases this with rfl | rfl | rfl | rfl <;> rfl
theorem word_lo (c : CallD) (i : Nat) (h : i < 4) : c.word ((8 + 8 * i + 4 * 0 : Nat) : Int) = argN c i % 4294967296 := by
  have : i = 0 ∨ i = 1 ∨ i = 2 ∨ i = 3 := by omega
  rcases this with rfl | rfl | rfl | rfl <;> rfl
/-- A condition of a number, told of an argument. -/
def numB (op : Int) (v m A : Int) : Bool :=
  if op = 1 then decide (A = v) else if op = 2 then decide (A ≠ v) else if op = 3 then decide (A < v) else if op = 4 then decide (A ≤ v) else if op = 5 then decide (v < A) else if op = 6 then decide (v ≤ A) else decide (bits .and .u64 A m = v)
theorem and_halves (A m v : Nat) :
    (A &&& m = v) ↔ ((A / 4294967296) &&& (m / 4294967296) = v / 4294967296 ∧ (A % 4294967296) &&& (m % 4294967296) = v % 4294967296) := by
  have key : ∀ k : Nat, (A &&& m) / 2 ^ k = (A / 2 ^ k) &&& (m / 2 ^ k) := fun k => by
    apply Nat.eq_of_testBit_eq
    intro i
    simp [Nat.testBit_div_two_pow]
  have h1 : (A &&& m) / 4294967296 = (A / 4294967296) &&& (m / 4294967296) := key 32
  have h2 : (A &&& m) % 4294967296 = (A % 4294967296) &&& (m % 4294967296) := by
    rw [show (4294967296 : Nat) = 2 ^ 32 from rfl, Nat.and_mod_two_pow]
  constructor
  · intro h
    subst h
    exact ⟨h1.symm, h2.symm⟩
  · rintro ⟨h3, h4⟩
    rw [← h1] at h3
    rw [← h2] at h4
    omega

section
variable {L : List Ins} {c : CallD} {t q : Nat} {a r : Int}
/-- A condition of a number: on where it is so, away where it isn't. -/
theorem cond_sim (op : Int) (i v m : Nat) (hc : c.ok) (hi : i < 4) (hm : m < 18446744073709551616) (hop : 1 ≤ op ∧ op ≤ 7)
    (h : CodeAt L t q (condL op i v m))
    (hy : numB op v m (argN c i) = true → ∀ a', Ends L c (q + (condL op i v m).length) a' r) (hn : numB op v m (argN c i) = false → ∀ a', Ends L c t a' r) : Ends L c q a r := by
  obtain ⟨A, hA⟩ : ∃ A : Nat, argN c i = A := ⟨(argN c i).toNat, by have := argN_ok hc i; omega⟩
  have hAb : A < 18446744073709551616 := by have := argN_ok hc i; omega
  have whi := word_hi c i hi
  have wlo := word_lo c i hi
  rw [hA] at hy hn whi wlo
  have w1 : c.word (ldI i 1).k = ((A / 4294967296 : Nat) : Int) := by rw [show (ldI i 1).k = ((8 + 8 * i + 4 * 1 : Nat) : Int) from rfl, whi]; omega
  have w0 : c.word (ldI i 0).k = ((A % 4294967296 : Nat) : Int) := by rw [show (ldI i 0).k = ((8 + 8 * i + 4 * 0 : Nat) : Int) from rfl, wlo]; omega
  have h7 : op = 1 ∨ op = 2 ∨ op = 3 ∨ op = 4 ∨ op = 5 ∨ op = 6 ∨ op = 7 := by omega
  rcases h7 with rfl | rfl | rfl | rfl | rfl | rfl | rfl
  · have hy : A = v → ∀ a', Ends L c (q + 6) a' r := fun e => hy (by show decide ((A : Int) = v) = true; simp; omega)
    have hn : A ≠ v → ∀ a', Ends L c t a' r := fun e => hn (by show decide ((A : Int) = v) = false; simp; omega)
    have h : CodeAt L t q [ldI i 1, Ins.mk 4 1 0 (v / 4294967296 : Nat), jmpI, ldI i 0, Ins.mk 4 1 0 (v % 4294967296 : Nat), jmpI] := h
    exact c_ld h 0 rfl rfl w1 (c_eq h 1 rfl (fun e1 => c_ld h 3 rfl rfl w0 (c_eq h 4 rfl (fun e0 => hy (by omega) _) (fun e0 => h.away 5 _ rfl rfl (hn (by omega) _)))) (fun e1 => h.away 2 _ rfl rfl (hn (by omega) _)))
  · have hy : A ≠ v → ∀ a', Ends L c (q + 5) a' r := fun e => hy (by show decide ((A : Int) ≠ v) = true; simp; omega)
    have hn : A = v → ∀ a', Ends L c t a' r := fun e => hn (by show decide ((A : Int) ≠ v) = false; simp; omega)
    have h : CodeAt L t q [ldI i 1, Ins.mk 4 0 3 (v / 4294967296 : Nat), ldI i 0, Ins.mk 4 0 1 (v % 4294967296 : Nat), jmpI] := h
    exact c_ld h 0 rfl rfl w1 (c_eq h 1 rfl (fun e1 => c_ld h 2 rfl rfl w0 (c_eq h 3 rfl (fun e0 => h.away 4 _ rfl rfl (hn (by omega) _)) (fun e0 => hy (by omega) _))) (fun e1 => hy (by omega) _))
  · have hy : A < v → ∀ a', Ends L c (q + 7) a' r := fun e => hy (by show decide ((A : Int) < v) = true; simp; omega)
    have hn : ¬ A < v → ∀ a', Ends L c t a' r := fun e => hn (by show decide ((A : Int) < v) = false; simp; omega)
    have h : CodeAt L t q [ldI i 1, Ins.mk 5 1 0 (v / 4294967296 : Nat), Ins.mk 4 1 4 (v / 4294967296 : Nat), jmpI, ldI i 0, Ins.mk 6 0 1 (v % 4294967296 : Nat), jmpI] := h
    exact c_ld h 0 rfl rfl w1 (c_gt h 1 rfl (fun e1 => h.away 3 _ rfl rfl (hn (by omega) _)) (fun e1 => c_eq h 2 rfl (fun e2 => c_ld h 4 rfl rfl w0 (c_ge h 5 rfl (fun e0 => h.away 6 _ rfl rfl (hn (by omega) _)) (fun e0 => hy (by omega) _))) (fun e2 => hy (by omega) _)))
  · have hy : A ≤ v → ∀ a', Ends L c (q + 7) a' r := fun e => hy (by show decide ((A : Int) ≤ v) = true; simp; omega)
    have hn : ¬ A ≤ v → ∀ a', Ends L c t a' r := fun e => hn (by show decide ((A : Int) ≤ v) = false; simp; omega)
    have h : CodeAt L t q [ldI i 1, Ins.mk 5 1 0 (v / 4294967296 : Nat), Ins.mk 4 1 4 (v / 4294967296 : Nat), jmpI, ldI i 0, Ins.mk 5 0 1 (v % 4294967296 : Nat), jmpI] := h
    exact c_ld h 0 rfl rfl w1 (c_gt h 1 rfl (fun e1 => h.away 3 _ rfl rfl (hn (by omega) _)) (fun e1 => c_eq h 2 rfl (fun e2 => c_ld h 4 rfl rfl w0 (c_gt h 5 rfl (fun e0 => h.away 6 _ rfl rfl (hn (by omega) _)) (fun e0 => hy (by omega) _))) (fun e2 => hy (by omega) _)))
  · have hy : v < A → ∀ a', Ends L c (q + 7) a' r := fun e => hy (by show decide ((v : Int) < A) = true; simp; omega)
    have hn : ¬ v < A → ∀ a', Ends L c t a' r := fun e => hn (by show decide ((v : Int) < A) = false; simp; omega)
    have h : CodeAt L t q [ldI i 1, Ins.mk 5 5 0 (v / 4294967296 : Nat), Ins.mk 4 1 0 (v / 4294967296 : Nat), jmpI, ldI i 0, Ins.mk 5 1 0 (v % 4294967296 : Nat), jmpI] := h
    exact c_ld h 0 rfl rfl w1 (c_gt h 1 rfl (fun e1 => hy (by omega) _) (fun e1 => c_eq h 2 rfl (fun e2 => c_ld h 4 rfl rfl w0 (c_gt h 5 rfl (fun e0 => hy (by omega) _) (fun e0 => h.away 6 _ rfl rfl (hn (by omega) _)))) (fun e2 => h.away 3 _ rfl rfl (hn (by omega) _))))
  · have hy : v ≤ A → ∀ a', Ends L c (q + 7) a' r := fun e => hy (by show decide ((v : Int) ≤ A) = true; simp; omega)
    have hn : ¬ v ≤ A → ∀ a', Ends L c t a' r := fun e => hn (by show decide ((v : Int) ≤ A) = false; simp; omega)
    have h : CodeAt L t q [ldI i 1, Ins.mk 5 5 0 (v / 4294967296 : Nat), Ins.mk 4 1 0 (v / 4294967296 : Nat), jmpI, ldI i 0, Ins.mk 6 1 0 (v % 4294967296 : Nat), jmpI] := h
    exact c_ld h 0 rfl rfl w1 (c_gt h 1 rfl (fun e1 => hy (by omega) _) (fun e1 => c_eq h 2 rfl (fun e2 => c_ld h 4 rfl rfl w0 (c_ge h 5 rfl (fun e0 => hy (by omega) _) (fun e0 => h.away 6 _ rfl rfl (hn (by omega) _)))) (fun e2 => h.away 3 _ rfl rfl (hn (by omega) _))))
  · have ha := u64_and_nat A m hAb hm
    have hk := and_halves A m v
    have b1 := u32_and_nat (A / 4294967296) (m / 4294967296) (by omega) (by omega)
    have b0 := u32_and_nat (A % 4294967296) (m % 4294967296) (by omega) (by omega)
    have hy : A &&& m = v → ∀ a', Ends L c (q + 8) a' r := fun e => hy (by show decide (bits .and .u64 (A : Int) m = v) = true; rw [ha]; simp; omega)
    have hn : ¬ A &&& m = v → ∀ a', Ends L c t a' r := fun e => hn (by show decide (bits .and .u64 (A : Int) m = v) = false; rw [ha]; simp; omega)
    have h : CodeAt L t q [ldI i 1, Ins.mk 2 0 0 (m / 4294967296 : Nat), Ins.mk 4 1 0 (v / 4294967296 : Nat), jmpI, ldI i 0, Ins.mk 2 0 0 (m % 4294967296 : Nat), Ins.mk 4 1 0 (v % 4294967296 : Nat), jmpI] := h
    exact c_ld h 0 rfl rfl w1 (c_and h 1 rfl rfl b1 (c_eq h 2 rfl (fun e1 => c_ld h 4 rfl rfl w0 (c_and h 5 rfl rfl b0 (c_eq h 6 rfl (fun e0 => hy (hk.2 ⟨by omega, by omega⟩) _) (fun e0 => h.away 7 _ rfl rfl (hn (fun e => by have := hk.1 e; omega) _))))) (fun e1 => h.away 3 _ rfl rfl (hn (fun e => by have := hk.1 e; omega) _))))
end
end Go.Proofs.Ytmgngapkgcofnab
