/- What a ward's threads keep, in plain words; a call's measure. -/
import Derived.Test.YtmgngapkgcofnabGreatDoorP46
import Derived.Test.YtmgngapkgcofnabGreatDoorP31
namespace Go.Proofs.YtmgngapkgcofnabGreatDoor
open Go.RowKit
def isP (nr : Int) (a : Nat) : Prop := kindN nr a = 2 ∨ kindN nr a = 3
instance (nr : Int) (a : Nat) : Decidable (isP nr a) := by unfold isP; infer_instance
def cntK (nr : Int) (a : Nat) : Nat → Nat
 | 0 => 0
 | k + 1 => (if isP nr a then 1 else 0) + cntK nr (a + 1) k
def cntN (nr : Int) (a : Nat) : Nat := cntK nr a (4 - a)
theorem ptrK_cnt (nr : Int) : ∀ (k a : Nat), (ptrK nr a k = a + k ∧ cntK nr a k = 0) ∨ (∃ j, j < k ∧ ptrK nr a k = a + j ∧ isP nr (a + j) ∧ cntK nr a k = 1 + cntK nr (a + j + 1) (k - j - 1))
 | 0, a => .inl ⟨rfl, rfl⟩
 | k + 1, a => by
  by_cases h : isP nr a
  ·refine .inr ⟨0, by omega, ?_, h, ?_⟩
   ·unfold ptrK; rw [if_neg (by rcases h with h | h <;> omega)]; rfl
   ·have e3 : cntK nr a (k + 1) = (if isP nr a then 1 else 0) + cntK nr (a + 1) k := rfl; rw [e3, if_pos h]; rfl
  ·have e1 : ptrK nr a (k + 1) = ptrK nr (a + 1) k := by
    rw [ptrK, if_pos (by unfold isP at h; omega)]
   have e2 : cntK nr a (k + 1) = cntK nr (a + 1) k := by
    rw [cntK, if_neg h]; omega
   rw [e1, e2]; rcases ptrK_cnt nr k (a + 1) with ⟨h1, h2⟩ | ⟨j, h1, h2, h3, h4⟩
   ·exact .inl ⟨by omega, h2⟩
   ·refine .inr ⟨j + 1, by omega, by omega, ?_, ?_⟩
    ·rw [show a + (j + 1) = a + 1 + j from by omega]; exact h3
    ·rw [h4, show a + 1 + j + 1 = a + (j + 1) + 1 from by omega, show k - j - 1 = k + 1 - (j + 1) - 1 from by omega]
theorem ptrN_cnt (nr : Int) (a : Nat) (ha : a ≤ 4) : (ptrN nr a = 4 ∧ cntN nr a = 0) ∨ (ptrN nr a < 4 ∧ isP nr (ptrN nr a) ∧ cntN nr a = 1 + cntN nr (ptrN nr a + 1)) := by
 unfold ptrN cntN; rcases ptrK_cnt nr (4 - a) a with ⟨h1, h2⟩ | ⟨j, h1, h2, h3, h4⟩
 ·exact .inl ⟨by omega, h2⟩
 ·rw [h2]; refine .inr ⟨by omega, h3, ?_⟩; rw [h4, show 4 - a - j - 1 = 4 - (a + j + 1) from by omega]
theorem cntN_two (nr : Int) : cntN nr 0 ≤ 2 := by
 by_cases h : 9 ≤ nr
 ·have : ∀ a, ¬ isP nr a := fun a => by unfold isP kindN; rw [if_pos (.inl h)]; omega
  have e : cntN nr 0 = 0 := by simp [cntN, cntK, this]
  omega
 ·have e : ∀ a, a < 4 → kindN nr a = kindF nr.toNat a := fun a ha => by unfold kindN; rw [if_neg (by omega)]
  have key : ∀ k, k < 9 → (if kindF k 0 = 2 ∨ kindF k 0 = 3 then 1 else 0) + ((if kindF k (0 + 1) = 2 ∨ kindF k (0 + 1) = 3 then 1 else 0) + ((if kindF k (0 + 1 + 1) = 2 ∨ kindF k (0 + 1 + 1) = 3 then 1 else 0) + ((if kindF k (0 + 1 + 1 + 1) = 2 ∨ kindF k (0 + 1 + 1 + 1) = 3 then 1 else 0) + 0))) ≤ 2 := by decide
  simp only [cntN, cntK, isP, e 0 (by omega), e (0 + 1) (by omega), e (0 + 1 + 1) (by omega), e (0 + 1 + 1 + 1) (by omega)]; exact key nr.toNat (by omega)
theorem deepN_some {cs : List CondD} : ∀ {n : Nat}, deepN cs n = true → ∃ x ∈ cs, 7 < x.op
 | 0, h => by simp [deepN] at h
 | n + 1, h => by
  rw [deepN, Bool.or_eq_true] at h; rcases h with h | h
  ·exact deepN_some h
  ·split at h
   ·rename_i c hc; exact ⟨c, List.mem_of_getElem? hc, by simpa using h⟩
   ·simp at h
theorem pick_deep (c : CallD) (k e : Int) (hk : k ≠ 4) : ∀ (l : List RuleD) (i : Nat), (∀ r ∈ l, r.kind ≠ 4) → (pickJ c k e i l).1 = 4 → ∃ r ∈ l, c.nr = r.nr ∧ ∃ x ∈ r.conds, 7 < x.op
 | [], i, _, h => absurd h hk
 | r :: rs, i, hr, h => by
  rw [pickJ] at h; split at h
  ·rename_i hf; split at h
   ·rename_i hd; obtain ⟨x, hx, h7⟩ := deepN_some hd; unfold fitB at hf; rw [Bool.and_eq_true] at hf; exact ⟨r, by simp, of_decide_eq_true hf.1, x, hx, h7⟩
   ·exact absurd h (hr r (by simp))
  ·obtain ⟨r2, h1, h2⟩ := pick_deep c k e hk rs (i + 1) (fun r2 h2 => hr r2 (by simp [h2])) h; exact ⟨r2, by simp [h1], h2⟩
theorem isP_cnt {nr : Int} {a : Nat} (ha : a < 4) (h : isP nr a) : 1 ≤ cntN nr 0 := by
 simp only [cntN, cntK]; have h4 : a = 0 ∨ a = 1 ∨ a = 2 ∨ a = 3 := by omega
 rcases h4 with rfl | rfl | rfl | rfl
 ·rw [if_pos h]; omega
 ·rw [show (if isP nr (0 + 1) then 1 else 0) = 1 from if_pos h]; omega
 ·rw [show (if isP nr (0 + 1 + 1) then 1 else 0) = 1 from if_pos h]; omega
 ·rw [show (if isP nr (0 + 1 + 1 + 1) then 1 else 0) = 1 from if_pos h]; omega
theorem trace_ptr {p : PolD} (hf : polF p = 0) {c : CallD} (h : (judgeF p c).1 = 4) : ptrN c.nr 0 < 4 ∧ isP c.nr (ptrN c.nr 0) ∧ 44 + 41 * cntN c.nr (ptrN c.nr 0 + 1) ≤ 85 := by
 obtain ⟨hk, hr⟩ := pol_kinds hf; unfold judgeF at h; split at h
 ·obtain ⟨r, hrm, hnr, x, hx, h7⟩ := pick_deep c p.kind p.errno hk p.rules 0 hr h; have hrf := (polF_zero hf).2.2 r hrm; obtain ⟨k1, k2, k5, k3, _⟩ := ruleF_zero hrf; obtain ⟨a1, a2, a3, a4⟩ := k3 x hx
  have hb : condF r.nr.toNat x = 0 := by
   unfold ruleF at hrf; rw [if_neg (by omega), if_neg (by omega)] at hrf
   by_cases h0 : firstNZ (condF r.nr.toNat) r.conds ≠ 0
   ·rw [if_pos h0] at hrf; exact absurd hrf h0
   ·exact firstNZ_zero (Decidable.not_not.1 h0) x hx
  have hkd : kindF r.nr.toNat x.arg.toNat = kindOf x.op := by
   unfold condF at hb; rw [if_neg (by omega)] at hb; split at hb
   ·omega
   ·rename_i hnb; unfold CondD.bad at hnb; exact Decidable.not_not.1 (fun hh => hnb (.inl hh))
  have hP : isP c.nr x.arg.toNat := by
   unfold isP kindN; rw [hnr, if_neg (by omega), hkd]; unfold kindOf; split
   ·exact .inl rfl
   ·rw [if_pos (by omega)]; exact .inr rfl
  have h1 := isP_cnt (by omega) hP; have h2 := cntN_two c.nr; rcases ptrN_cnt c.nr 0 (by omega) with ⟨_, h3⟩ | ⟨h3, h4, h5⟩
  ·omega
  ·exact ⟨h3, h4, by omega⟩
 ·simp at h
structure GoodT (T : ThrS) : Prop where
 ph : 0 ≤ T.phase ∧ T.phase ≤ 6
 at1 : T.phase = 1 → T.buf = []
 at2 : T.phase = 2 → T.arg < 4 ∧ isP T.now.nr T.arg ∧ T.buf.length ≤ 40
 sea : T.phase ≠ 5 → T.seals = [] ∧ T.now = T.asked
theorem GoodT.inv {T : ThrS} (h : GoodT T) : InvT T := ⟨fun e => ⟨(h.at2 e).1, (h.at2 e).2.2⟩, fun e => by rw [(h.sea (by omega)).1]; simp, h.ph⟩
theorem good_zero : GoodT ThrS.zero := ⟨⟨by decide, by decide⟩, fun _ => rfl, fun e => absurd e (by decide), fun _ => ⟨rfl, rfl⟩⟩
theorem good_dead : GoodT ThrS.dead := ⟨⟨by decide, by decide⟩, fun _ => rfl, fun e => absurd e (by decide), fun _ => ⟨rfl, rfl⟩⟩
theorem good_enter (c : CallD) : GoodT ⟨1, c, c, 0, [], zeroVals, []⟩ := ⟨⟨by simp, by simp⟩, fun _ => rfl, fun e => by simp at e, fun _ => ⟨rfl, rfl⟩⟩
def leftT (T : ThrS) : Nat := if T.phase = 1 then 86 else if T.phase = 2 then 44 + 41 * cntN T.now.nr (T.arg + 1) - T.buf.length else if T.phase = 3 then 3 else if T.phase = 4 then 2 else if T.phase = 5 then 1 else 0
theorem leftT_zero {T : ThrS} (h : GoodT T) (h0 : leftT T = 0) : T.phase = 0 ∨ T.phase = 6 := by
 unfold leftT at h0; have := h.ph; split at h0
 ·omega
 ·split at h0
  ·rename_i e; have := (h.at2 e).2.2; omega
  ·split at h0
   ·omega
   ·split at h0
    ·omega
    ·split at h0
     ·omega
     ·omega
def Goes (S S' : WardS) (n : Nat) : Prop :=
  (∀ k, k ≠ n → S'.t k = S.t k) ∧ GoodT (S'.t n) ∧ leftT (S'.t n) < leftT (S.t n) ∧
  ((S'.log = S.log ∧ (S'.t n).asked = (S.t n).asked ∧ (S'.t n).phase ≠ 0 ∧ (S'.t n).phase ≠ 6) ∨
   (∃ e : EntD, S'.log = S.log ++ [e] ∧ e.thr = n ∧ e.call = (S.t n).asked ∧ ((S'.t n).phase = 0 ∨ (S'.t n).phase = 6) ∧ (S'.t n).asked = zeroCall))
theorem goes_ends (S S0 : WardS) (n : Nat) (kind errno : Int) (v : ValsD) (ht : ∀ k, k ≠ n → S0.t k = S.t k) (hl : S0.log = S.log) (ha : (S0.t n).asked = (S.t n).asked) (h : 0 < leftT (S.t n)) : Goes S (endsS S0 n kind errno v) n := by
 have e0 : (endsS S0 n kind errno v).t n = if kind = 3 then ThrS.dead else ThrS.zero := if_pos rfl
 refine ⟨fun k hk => ?_, ?_, ?_, .inr ⟨⟨kind, n, (S0.t n).asked, v, errno⟩, ?_, rfl, ha, ?_, ?_⟩⟩
 ·exact (if_neg hk).trans (ht k hk)
 ·rw [e0]; split
  ·exact good_dead
  ·exact good_zero
 ·rw [e0]; split
  ·exact h
  ·exact h
 ·show S0.log ++ _ = _; rw [hl]
 ·rw [e0]; split
  ·exact .inr rfl
  ·exact .inl rfl
 ·rw [e0]; split <;> rfl
theorem goes_setT (S : WardS) (n : Nat) (T : ThrS) (hg : GoodT T) (hl : leftT T < leftT (S.t n)) (ha : T.asked = (S.t n).asked) (h0 : T.phase ≠ 0) (h6 : T.phase ≠ 6) : Goes S (S.setT n T) n := by
 have e0 : (S.setT n T).t n = T := if_pos rfl; refine ⟨fun k hk => if_neg hk, by rw [e0]; exact hg, by rw [e0]; exact hl, .inl ⟨rfl, by rw [e0]; exact ha, by rw [e0]; exact h0, by rw [e0]; exact h6⟩⟩
theorem goes_further (S : WardS) (n : Nat) (T : ThrS) (hT : GoodT (S.t n)) (h2 : (S.t n).phase = 2) (hp : T.phase = (S.t n).phase) (ha : T.asked = (S.t n).asked) (hn : T.now = (S.t n).now) (har : T.arg = (S.t n).arg) (hs : T.seals = (S.t n).seals) : Goes S (S.setT n (furtherT T)) n := by
 obtain ⟨b1, b2, b3⟩ := hT.at2 h2; obtain ⟨s1, s2⟩ := hT.sea (by omega); have hl : leftT (S.t n) = 44 + 41 * cntN (S.t n).now.nr ((S.t n).arg + 1) - (S.t n).buf.length := by unfold leftT; rw [if_neg (by omega), if_pos h2]
 have hf : furtherT T = { T with buf := [], arg := ptrN (S.t n).now.nr ((S.t n).arg + 1), phase := if ptrN (S.t n).now.nr ((S.t n).arg + 1) = 4 then 3 else 2 } := by
  unfold furtherT; rw [hn, har, hp, h2]
 rw [hf]; rcases ptrN_cnt (S.t n).now.nr ((S.t n).arg + 1) (by omega) with ⟨h4, h5⟩ | ⟨h4, h5, h6⟩
 ·rw [if_pos h4]; refine goes_setT S n _ ⟨⟨by simp, by simp⟩, fun e => by simp at e, fun e => by simp at e, fun _ => ⟨hs.trans s1, by rw [ha, hn]; exact s2⟩⟩ ?_ ha (by simp) (by simp); rw [hl]; show 3 < _; omega
 ·rw [if_neg (by omega)]; refine goes_setT S n _ ⟨⟨by simp, by simp⟩, fun e => by simp at e, fun e => ⟨h4, by rw [hn]; exact h5, by simp⟩, fun _ => ⟨hs.trans s1, by rw [ha, hn]; exact s2⟩⟩ ?_ ha (by simp) (by simp); rw [hl]; show 44 + 41 * cntN T.now.nr (ptrN (S.t n).now.nr ((S.t n).arg + 1) + 1) - 0 < _; rw [hn]; omega
theorem goes_seal (S0 : WardS) (n : Nat) (h4 : (S0.t n).phase = 4) : ∀ (k a : Nat) (S : WardS), (∀ j, j ≠ n → S.t j = S0.t j) → S.log = S0.log → (S.t n).asked = (S0.t n).asked → Goes S0 (sealK S n a k) n
 | 0, a, S, ht, hl, ha => by
  have e0 : (setPh S n 5).t n = { S.t n with phase := 5 } := if_pos rfl; refine ⟨fun k hk => (if_neg hk).trans (ht k hk), ?_, ?_, .inl ⟨hl, ?_, ?_, ?_⟩⟩
  ·show GoodT ((setPh S n 5).t n); rw [e0]; exact ⟨⟨by simp, by simp⟩, fun e => by simp at e, fun e => by simp at e, fun e => by simp at e⟩
  ·show leftT ((setPh S n 5).t n) < _; rw [e0]; simp [leftT, h4]
  ·show ((setPh S n 5).t n).asked = _; rw [e0]; exact ha
  ·show ((setPh S n 5).t n).phase ≠ _; rw [e0]; simp
  ·show ((setPh S n 5).t n).phase ≠ _; rw [e0]; simp
 | k + 1, a, S, ht, hl, ha => by
  rw [sealK]; split
  ·have := goes_seal S0 n h4 0 a S ht hl ha; exact this
  ·split; rename_i x f hx; split
   ·exact goes_ends S0 _ n 2 12 zeroVals ht hl ha (by simp [leftT, h4])
   ·refine goes_seal S0 n h4 k _ _ (fun j hj => (if_neg hj).trans (ht j hj)) hl ?_; show (((S.setM _).setT n _).t n).asked = _; rw [show ∀ M T, ((S.setM M).setT n T).t n = T from fun M T => if_pos rfl]; exact ha
theorem goes_does (S : WardS) (n : Nat) (a : Int × Int) (h1 : a.1 ≠ 1) (h : 0 < leftT (S.t n)) : Goes S (doesS S n a) n := by
 unfold doesS; rw [if_neg h1]; split
 ·exact goes_ends S S n _ _ _ (fun _ _ => rfl) rfl rfl h
 ·exact goes_ends S S n _ _ _ (fun _ _ => rfl) rfl rfl h
theorem goes_step {p : PolD} (hf : polF p = 0) (S : WardS) (n : Nat) (hg : GoodT (S.t n)) (h0 : (S.t n).phase ≠ 0) (h6 : (S.t n).phase ≠ 6) : Goes S (stepT p S n) n := by
 have hpos : 0 < leftT (S.t n) := by
  rcases Nat.eq_zero_or_pos (leftT (S.t n)) with e | e
  ·rcases leftT_zero hg e with h | h
   ·exact absurd h h0
   ·exact absurd h h6
  ·exact e
 have hp := hg.ph; unfold stepT; split
 ·rename_i e1; have hl : leftT (S.t n) = 86 := by unfold leftT; rw [if_pos e1]
  obtain ⟨s1, s2⟩ := hg.sea (by omega); unfold filterS; split
  ·rename_i h4; obtain ⟨q1, q2, q3⟩ := trace_ptr hf h4; have hb := hg.at1 e1; refine goes_setT S n _ ⟨⟨by simp, by simp⟩, fun e => by simp at e, fun _ => ⟨q1, q2, by simp [hb]⟩, fun _ => ⟨s1, s2⟩⟩ ?_ rfl (by simp) (by simp); rw [hl]; show 44 + 41 * cntN (S.t n).now.nr (ptrN (S.t n).now.nr 0 + 1) - _ < 86; omega
  ·split
   ·refine goes_setT S n _ ⟨⟨by simp, by simp⟩, fun e => by simp at e, fun e => by simp at e, fun e => by simp at e⟩ ?_ rfl (by simp) (by simp); rw [hl]; simp [leftT]
   ·exact goes_does S n _ (by assumption) hpos
 ·split
  ·rename_i e1 e2; obtain ⟨b1, b2, b3⟩ := hg.at2 e2; obtain ⟨s1, s2⟩ := hg.sea (by omega); have hl : leftT (S.t n) = 44 + 41 * cntN (S.t n).now.nr ((S.t n).arg + 1) - (S.t n).buf.length := by unfold leftT; rw [if_neg e1, if_pos e2]
   have hmore : ∀ b, (S.t n).buf.length + 1 ≤ 40 → Goes S (S.setT n { S.t n with buf := (S.t n).buf ++ [b] }) n := fun b hb => by
    refine goes_setT S n _ ⟨⟨by show 0 ≤ (S.t n).phase; omega, by show (S.t n).phase ≤ 6; omega⟩, fun e => absurd e e1, fun _ => ⟨b1, b2, by simp; omega⟩, fun _ => ⟨s1, s2⟩⟩ ?_ rfl h0 h6; rw [hl]; unfold leftT; rw [if_neg (show ¬ (S.t n).phase = 1 from e1), if_pos (show (S.t n).phase = 2 from e2)]; simp only [List.length_append, List.length_cons, List.length_nil]; omega
   unfold snapS; split
   ·exact goes_ends S S n _ _ _ (fun _ _ => rfl) rfl rfl hpos
   ·split
    ·split
     ·exact goes_further S n _ hg e2 rfl rfl rfl rfl rfl
     ·split
      ·exact goes_ends S S n _ _ _ (fun _ _ => rfl) rfl rfl hpos
      ·exact hmore _ (by omega)
    ·split
     ·exact hmore _ (by omega)
     ·split
      ·exact goes_ends S _ n _ _ _ (fun k hk => if_neg hk) rfl (by rw [show ∀ T, (S.setT n T).t n = T from fun T => if_pos rfl]) hpos
      ·exact goes_further S n _ hg e2 rfl rfl rfl rfl rfl
  ·rename_i e1 e2; split
   ·rename_i e3; obtain ⟨s1, s2⟩ := hg.sea (by omega); unfold judgeS; split
    ·refine goes_setT S n _ ⟨⟨by simp, by simp⟩, fun e => by simp at e, fun e => by simp at e, fun _ => ⟨s1, s2⟩⟩ ?_ rfl (by simp) (by simp); simp [leftT, e3]
    ·exact goes_does S n _ (by assumption) hpos
   ·split
    ·rename_i e4; exact goes_seal S n e4 5 _ S (fun _ _ => rfl) rfl rfl
    ·split
     ·unfold execS; split
      ·exact goes_ends S S n _ _ _ (fun _ _ => rfl) rfl rfl hpos
      ·split; split
       ·exact goes_ends S S n _ _ _ (fun _ _ => rfl) rfl rfl hpos
       ·exact goes_ends S S n _ _ _ (fun _ _ => rfl) rfl rfl hpos
     ·omega
end Go.Proofs.YtmgngapkgcofnabGreatDoor
