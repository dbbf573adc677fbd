/- The plain law of patterns: the code's states and the reference's rows are one: what the first parts are like. -/
import Derived.Test.YtmgngapkgcofnabGreatDoorP05
import Derived.Test.YtmgngapkgcofnabGreatDoorP01
namespace Go.Proofs.YtmgngapkgcofnabGreatDoor
theorem classL_len (not : Bool) : ∀ (m : Nat) (n : Bool) (l : List Int) (f : Nat → Bool) (g : Nat → Bool) (r : List Int), l.length ≤ m → classL not n l f = some (g, r) → r.length < l.length := by
 intro m
 induction m with
 | zero => intro n l f g r hl h; rcases l with _ | ⟨x, l⟩ <;> simp [classL] at h hl
 | succ m ih =>
  intro n l f g r hl h; rcases l with _ | ⟨x, _ | ⟨y, l⟩⟩
  ·simp [classL] at h
  ·simp only [classL] at h; split at h
   ·split at h <;> simp at h
    simp [← h.2]
   ·simp at h
  ·rcases l with _ | ⟨z, l⟩
   ·simp only [classL] at h
    (repeat' split at h) <;> simp at h <;> (obtain ⟨_, rfl⟩ := h; simp)
   ·simp only [classL] at h; split at h
    ·split at h <;> simp at h
     simp [← h.2]
    ·split at h
     ·simp at h
     ·split at h
      ·split at h
       ·simp at h
       ·have := ih _ _ _ _ _ (by simp at hl ⊢; omega) h; simp at this ⊢; omega
      ·have := ih _ _ _ _ _ (by simp at hl ⊢; omega) h; simp at this ⊢; omega
theorem classL_go (not n : Bool) {d : Int} (l : List Int) (f : Nat → Bool) (h : d ≠ 93) (hm : memberF d = true) (hl : ∀ z r, l ≠ 45 :: z :: r) : classL not n (d :: l) f = classL not true l (span f d d) := by
 rcases l with _ | ⟨y, _ | ⟨z, r⟩⟩
 ·rw [classL_last _ _ _ h]; rfl
 ·exact classL_two not n f h hm
 ·exact classL_one not n r f h hm (fun e => hl z r (by rw [e]))
theorem classF_len {l : List Int} {p : Part} {r : List Int} (h : classF l = some (p, r)) : r.length < l.length := by
 unfold classF at h; simp only [Option.map_eq_some_iff] at h; obtain ⟨⟨g, r'⟩, h1, h2⟩ := h; simp only [Prod.mk.injEq] at h2; obtain ⟨_, rfl⟩ := h2; split at h1
 ·have := classL_len _ _ _ _ _ _ _ (Nat.le_refl _) h1; simp; omega
 ·exact classL_len _ _ _ _ _ _ _ (Nat.le_refl _) h1
theorem partL_len {l : List Int} {p : Part} {r : List Int} (h : partL l = some (p, r)) : r.length < l.length := by
 rcases l with _ | ⟨c, l⟩
 ·simp [partL] at h
 ·simp only [partL] at h; split at h
  ·split at h <;> simp at h <;> obtain ⟨_, rfl⟩ := h <;> simp <;> omega
  ·split at h
   ·simp at h; obtain ⟨_, rfl⟩ := h; simp
   ·split at h
    ·have := classF_len h; simp; omega
    ·split at h
     ·split at h
      ·split at h <;> simp at h
       obtain ⟨_, rfl⟩ := h; simp; omega
      ·simp at h
     ·split at h <;> simp at h
      obtain ⟨_, rfl⟩ := h; simp
def partsB : Nat → List Int → Option (List (List Int × Part))
 | _, [] => some []
 | 0, _ :: _ => none
 | n + 1, c :: r => (partL (c :: r)).bind fun x => (partsB n x.2).map (((c :: r).take ((c :: r).length - x.2.length), x.1) :: ·)
theorem partsB_nil (n : Nat) : partsB n [] = some [] := by cases n <;> rfl
theorem partsB_more : ∀ (n m : Nat) (l : List Int), l.length ≤ n → l.length ≤ m → partsB n l = partsB m l := by
  intro n
  induction n with
  | zero => intro m l h _; rcases l with _ | ⟨c, r⟩; · rw [partsB_nil, partsB_nil]
            simp at h
  | succ n ih =>
    intro m l h h'
    rcases l with _ | ⟨c, r⟩
    · rw [partsB_nil, partsB_nil]
    · rcases m with _ | m
      · simp at h'
      · simp only [partsB]
        cases hp : partL (c :: r) with
        | none => rfl
        | some x =>
          have := partL_len (p := x.1) (r := x.2) hp
          simp only [Option.bind_some]
          rw [ih m x.2 (by simp at this h; omega) (by simp at this h'; omega)]
def partsP (l : List Int) : Option (List (List Int × Part)) := partsB l.length l
theorem partsP_cons {l : List Int} (h : l ≠ []) : partsP l = (partL l).bind fun x => (partsP x.2).map ((l.take (l.length - x.2.length), x.1) :: ·) := by
 rcases l with _ | ⟨c, r⟩
 ·exact (h rfl).elim
 ·unfold partsP; rw [List.length_cons, partsB]
  cases hp : partL (c :: r) with
  | none => rfl
  | some x =>
   have := partL_len (p := x.1) (r := x.2) hp; simp only [Option.bind_some]; rw [partsB_more r.length x.2.length x.2 (by simp at this; omega) (Nat.le_refl _)]; rfl
theorem partsL_eq : ∀ (n : Nat) (l : List Int), partsL n l = (partsB n l).map (·.map (·.2)) := by
 intro n
 induction n with
 | zero => intro l; rcases l with _ | ⟨c, r⟩ <;> rfl
 | succ n ih =>
  intro l; rcases l with _ | ⟨c, r⟩
  ·rfl
  ·simp only [partsL, partsB]
   cases partL (c :: r) with
   | none => rfl
   | some x =>
    simp only [Option.bind_some]; rw [ih]
    cases partsB n x.2 <;> rfl
theorem partsF_eq (l : List Int) : partsF l = (partsP l).map (·.map (·.2)) := partsL_eq _ _
def hasN (l : List Part) (k : Nat) (c : Nat) : Bool := (l[k]?.map fun p => p.has c).getD false
def manyN (l : List Part) (k : Nat) : Bool := (l[k]?.map fun p => p.many).getD false
def reach (p : Part) (sb : Nat → Nat) (A : Nat → Bool) : Nat → Bool
 | 0 => p.many && A 0
 | i + 1 => if p.many then A (i + 1) || (reach p sb A i && p.has (sb i)) else A i && p.has (sb i)
def Mk (l : List Part) (sb : Nat → Nat) : Nat → Nat → Bool
 | 0, i => i == 0
 | k + 1, i => match l[k]? with
  | some p => reach p sb (Mk l sb k) i
  | none => Mk l sb k i
def skN (l : List Part) (f : Nat → Bool) : Nat → Bool
 | 0 => f 0
 | k + 1 => f (k + 1) || (skN l f k && manyN l k)
theorem skipF_at (l : List Part) (f : Nat → Bool) : ∀ n k, skipF l f n k = if k ≤ n then skN l f k else f k := by
  intro n
  induction n with
  | zero => intro k; simp only [skipF]; by_cases h : k = 0
            · subst h; simp [skN]
            · rw [if_neg (by omega)]
  | succ n ih =>
    intro k
    have hn : skipF l f n n = skN l f n := by rw [ih, if_pos (Nat.le_refl _)]
    have hn1 : skipF l f n (n + 1) = f (n + 1) := by rw [ih, if_neg (by omega)]
    simp only [skipF]
    rw [hn]
    by_cases hc : (skN l f n && (l[n]?.map (·.many)).getD false) = true
    · rw [if_pos hc]
      unfold upd
      by_cases hk : k = n + 1
      · subst hk
        rw [if_pos rfl, if_pos (Nat.le_refl _), skN]
        have : (skN l f n && manyN l n) = true := hc
        rw [this, Bool.or_true]
      · rw [if_neg hk, ih]
        by_cases h1 : k ≤ n
        · rw [if_pos h1, if_pos (by omega)]
        · rw [if_neg h1, if_neg (by omega)]
    · rw [if_neg hc, ih]
      by_cases hk : k = n + 1
      · subst hk
        rw [if_neg (by omega), if_pos (Nat.le_refl _), skN]
        have : (skN l f n && manyN l n) = false := by simpa [manyN] using hc
        rw [this, Bool.or_false]
      · by_cases h1 : k ≤ n
        · rw [if_pos h1, if_pos (by omega)]
        · rw [if_neg h1, if_neg (by omega)]
def stN (l : List Part) (f : Nat → Bool) (c : Nat) (k : Nat) : Bool :=
 (f k && hasN l k c && manyN l k) || (match k with | 0 => false | j + 1 => f j && hasN l j c && !manyN l j)
theorem stepF_at (l : List Part) (f : Nat → Bool) (c : Nat) : ∀ n, n ≤ l.length → ∀ k, stepF l f c n k =
  ((decide (k < n) && (f k && hasN l k c && manyN l k)) || (match k with | 0 => false | j + 1 => decide (j < n) && (f j && hasN l j c && !manyN l j))) := by
 intro n
 induction n with
 | zero => intro _ k; cases k <;> simp [stepF]
 | succ n ih =>
  intro hn k; have hl : l[n]? = some l[n] := by simp
  have hh : hasN l n c = l[n].has c := by simp [hasN, hl]
  have hm : manyN l n = l[n].many := by simp [manyN, hl]
  have ih' := ih (by omega); simp only [stepF, hl]
  by_cases hc : (f n && l[n].has c) = true
  ·rw [if_pos hc]; simp only [Bool.and_eq_true] at hc
   by_cases hk : k = n
   ·subst hk; rw [if_pos rfl, ih']; rw [hh, hm, hc.1, hc.2]; rcases k with _ | j
    ·simp
    ·have e : decide (j + 1 < j + 1) = false := by simp
     have e2 : decide (j < j + 1) = true := by simp
     simp only [e, e2, Bool.false_and, Bool.false_or, Bool.true_and]; rw [show decide (j + 1 < j + 1 + 1) = true from by simp, show decide (j < j + 1 + 1) = true from by simp; omega]
     cases l[j + 1].many <;> simp
   ·rw [if_neg hk]
    by_cases hk1 : k = n + 1
    ·subst hk1; rw [if_pos rfl, ih']; have e : decide (n + 1 < n) = false := by simp
     have e2 : decide (n + 1 < n + 1) = false := by simp
     have e3 : decide (n < n) = false := by simp
     have e4 : decide (n < n + 1) = true := by simp
     simp only [e, e2, e3, e4, hh, hm, hc.1, hc.2, Bool.false_and, Bool.false_or, Bool.true_and]
    ·rw [if_neg hk1, ih']; have e1 : decide (k < n) = decide (k < n + 1) := by rw [decide_eq_decide]; omega
     rw [e1]; rcases k with _ | j
     ·simp
     ·have e2 : decide (j < n) = decide (j < n + 1) := by rw [decide_eq_decide]; omega
      simp only [e2]
  ·rw [if_neg hc, ih']; have hc' : (f n && hasN l n c) = false := by rw [hh]; simpa using hc
   have key : ∀ j, (decide (j < n) && (f j && hasN l j c)) = (decide (j < n + 1) && (f j && hasN l j c)) := by
    intro j
    by_cases hj : j = n
    ·subst hj; simp [hc']
    ·have e1 : decide (j < n) = decide (j < n + 1) := by rw [decide_eq_decide]; omega
     rw [e1]
   rw [← Bool.and_assoc, key, Bool.and_assoc]; rcases k with _ | j
   ·rfl
   ·simp only; rw [← Bool.and_assoc (decide (j < n)), key, Bool.and_assoc (decide (j < n + 1))]
theorem stepF_all (l : List Part) (f : Nat → Bool) (c : Nat) (k : Nat) : stepF l f c l.length k = stN l f c k := by
 rw [stepF_at l f c _ (Nat.le_refl _)]
 have key : ∀ j x, (decide (j < l.length) && (f j && hasN l j c && x)) = (f j && hasN l j c && x) := by
  intro j x
  by_cases h : j < l.length
  ·simp [h]
  ·have : hasN l j c = false := by simp [hasN, List.getElem?_eq_none (Nat.not_lt.1 h)]
   simp [h, this]
 unfold stN; rw [key]; rcases k with _ | j
 ·rfl
 ·simp only [key]
def cS (l : List Part) (sb : Nat → Nat) : Nat → Nat → Bool
 | 0 => skipF l (fun i => i == 0) l.length
 | i + 1 => skipF l (stepF l (cS l sb i) (sb i) l.length) l.length
theorem Mk_some {l : List Part} {sb : Nat → Nat} {k : Nat} (h : k < l.length) (i : Nat) : Mk l sb (k + 1) i = reach l[k] sb (Mk l sb k) i := by
 simp [Mk, h]
theorem cS_eq (l : List Part) (sb : Nat → Nat) : ∀ i k, k ≤ l.length → cS l sb i k = (if manyN l k then Mk l sb (k + 1) i else Mk l sb k i) := by
 have hmany : ∀ k, manyN l k = true → k < l.length := by
  intro k h; rcases Nat.lt_or_ge k l.length with h1 | h1
  ·exact h1
  ·simp [manyN, List.getElem?_eq_none h1] at h
 intro i
 induction i with
 | zero =>
  have base : ∀ k, k ≤ l.length → cS l sb 0 k = Mk l sb k 0 := by
   intro k
   induction k with
   | zero => intro _; simp only [cS]; rw [skipF_at, if_pos (Nat.zero_le _)]; simp [skN, Mk]
   | succ k ihk =>
    intro hk; have h1 := ihk (by omega); simp only [cS] at h1 ⊢; rw [skipF_at, if_pos (by omega)] at h1; rw [skipF_at, if_pos hk, skN, h1]; rw [Mk_some (by omega)]; have : manyN l k = l[k].many := by simp [manyN, show k < l.length by omega]
    rw [this]; simp [reach, Bool.and_comm]
  intro k hk; rw [base k hk]; split
  ·rename_i h; have hk' := hmany k h; rw [Mk_some hk']; have : l[k].many = true := by simpa [manyN, hk'] using h
   simp [reach, this]
  ·rfl
 | succ i ih =>
  have step : ∀ k, k ≤ l.length → cS l sb (i + 1) k = (Mk l sb k (i + 1) || (manyN l k && (cS l sb i k && hasN l k (sb i)))) := by
   intro k
   induction k with
   | zero =>
    intro _; simp only [cS]; rw [skipF_at, if_pos (Nat.zero_le _), skN, stepF_all, stN]; simp only [Mk, Bool.or_false]; rw [show ((i + 1 == 0) = false) from by simp, Bool.false_or]
    cases cS l sb i 0 <;> cases hasN l 0 (sb i) <;> cases manyN l 0 <;> rfl
   | succ k ihk =>
    intro hk; have h1 := ihk (by omega); have hkl : k < l.length := by omega
    simp only [cS] at h1 ⊢; rw [skipF_at, if_pos (by omega)] at h1; rw [skipF_at, if_pos hk, skN, h1, stepF_all, stN, Mk_some hkl]; have hm : manyN l k = l[k].many := by simp [manyN, hkl]
    have hh : hasN l k (sb i) = l[k].has (sb i) := by simp [hasN, hkl]
    have hik := ih k (by omega); rw [hm] at hik ⊢; rw [hh]
    cases hmk : l[k].many with
    | true =>
     rw [hmk, if_pos rfl, Mk_some hkl] at hik; rw [hik]; simp only [reach, hmk, if_true, Bool.true_and, Bool.not_true, Bool.and_false, Bool.or_false, Bool.and_true]; generalize reach l[k] sb (Mk l sb k) i = a; generalize Mk l sb k (i + 1) = b; generalize l[k].has (sb i) = c; generalize cS l sb i (k + 1) = d; generalize hasN l (k + 1) (sb i) = e; generalize manyN l (k + 1) = g
     revert a b c d e g; decide
    | false =>
     rw [hmk] at hik; simp only [Bool.false_eq_true, if_false] at hik; rw [hik]; simp only [reach, hmk, Bool.false_eq_true, if_false, Bool.not_false, Bool.and_true, Bool.and_false, Bool.or_false]; generalize Mk l sb k i = a; generalize l[k].has (sb i) = c; generalize cS l sb i (k + 1) = d; generalize hasN l (k + 1) (sb i) = e; generalize manyN l (k + 1) = g
     revert a c d e g; decide
  intro k hk; rw [step k hk]
  cases h : manyN l k with
  | false => simp
  | true =>
   have hk' := hmany k h; rw [if_pos rfl, Mk_some hk', Bool.true_and, ih k hk, h, if_pos rfl, Mk_some hk']; have hm : l[k].many = true := by simpa [manyN, hk'] using h
   have hh : hasN l k (sb i) = l[k].has (sb i) := by simp [hasN, hk']
   rw [hh]
   conv => rhs; rw [reach, if_pos hm]
theorem cS_end (l : List Part) (sb : Nat → Nat) (i : Nat) : cS l sb i l.length = Mk l sb l.length i := by
 rw [cS_eq l sb i _ (Nat.le_refl _)]; simp [manyN]
end Go.Proofs.YtmgngapkgcofnabGreatDoor
namespace Go.Proofs.YtmgngapkgcofnabGreatDoor
open Go.RowKit
set_option maxHeartbeats 1000000 in
theorem member_any (c : Int) (w : World) :
  Calls Tryz.prog 227 #[.int .u8 c] w fun e w' => e = .returned (.bool (memberF c)) ∧ w = w' := by
 go_enter Tryz.func227, Tryz.ntmps227
 go_wp2
 all_goals
  go_ret; refine ⟨ret_bool ?_, rfl⟩; unfold memberF; rw [Bool.eq_iff_iff]; simp <;> omega
set_option maxHeartbeats 1000000 in
theorem plain_any (c : Int) (w : World) :
  Calls Tryz.prog 203 #[.int .u8 c] w fun e w' => e = .returned (.bool (plainF c)) ∧ w = w' := by
 go_enter Tryz.func203, Tryz.ntmps203
 go_wp2
 all_goals
  go_ret; refine ⟨ret_bool ?_, rfl⟩; unfold plainF; rw [Bool.eq_iff_iff]; simp <;> omega
end Go.Proofs.YtmgngapkgcofnabGreatDoor
