/- The maker of a program: cond: the walk. Printed by gencompcond.py. -/
import Derived.Test.YtmgngapkgcofnaaGreatDoorM14
import Derived.Deep.RegionHeld3
import Derived.Test.YtmgngapkgcofnaaGreatDoorM06
import Derived.Test.YtmgngapkgcofnaaGreatDoorM01
import Derived.Laws.AppendOwn
namespace Go.Proofs.YtmgngapkgcofnaaGreatDoor
open Go.RowKit Go.PlainAid

def ldI (a h : Nat) : Ins := Ins.mk 1 0 0 ((8 + 8 * a + 4 * h : Nat) : Int)
def jmpI : Ins := Ins.mk 3 0 0 0
/-- A condition of a number, as instructions; the places that are open. -/
def condL (op : Int) (a v m : Nat) : List Ins :=
  if op = 1 then [ldI a 1, Ins.mk 4 1 0 (v / 4294967296 : Nat), jmpI, ldI a 0, Ins.mk 4 1 0 (v % 4294967296 : Nat), jmpI]
  else if op = 2 then [ldI a 1, Ins.mk 4 0 3 (v / 4294967296 : Nat), ldI a 0, Ins.mk 4 0 1 (v % 4294967296 : Nat), jmpI]
  else if op = 5 ∨ op = 6 then [ldI a 1, Ins.mk 5 5 0 (v / 4294967296 : Nat), Ins.mk 4 1 0 (v / 4294967296 : Nat), jmpI, ldI a 0, Ins.mk (if op = 5 then 5 else 6) 1 0 (v % 4294967296 : Nat), jmpI]
  else if op = 3 ∨ op = 4 then [ldI a 1, Ins.mk 5 1 0 (v / 4294967296 : Nat), Ins.mk 4 1 4 (v / 4294967296 : Nat), jmpI, ldI a 0, Ins.mk (if op = 3 then 6 else 5) 0 1 (v % 4294967296 : Nat), jmpI]
  else if op = 7 then [ldI a 1, Ins.mk 2 0 0 (m / 4294967296 : Nat), Ins.mk 4 1 0 (v / 4294967296 : Nat), jmpI, ldI a 0, Ins.mk 2 0 0 (m % 4294967296 : Nat), Ins.mk 4 1 0 (v % 4294967296 : Nat), jmpI]
  else [ldI a 1]
def condO (op : Int) : List Nat := if op = 1 then [2, 5] else if op = 2 then [4] else if op = 5 ∨ op = 6 then [3, 6] else if op = 3 ∨ op = 4 then [3, 6] else if op = 7 then [3, 7] else []
end Go.Proofs.YtmgngapkgcofnaaGreatDoor
/- What Compile makes, in plain words; what a policy that is right has. -/
namespace Go.Proofs.YtmgngapkgcofnaaGreatDoor
open Go.RowKit

/-- Conditions one behind the other: the program so far and what is open. -/
def condsL (s : List Ins × List Int) (cs : List CondD) : Nat → List Ins × List Int
  | 0 => s
  | k + 1 => match cs[k]? with
    | some c => if 7 < c.op then condsL s cs k else ((condsL s cs k).1 ++ condL c.op c.arg.toNat c.v.toNat c.m.toNat, (condsL s cs k).2 ++ (condO c.op).map fun i => (((condsL s cs k).1.length + i : Nat) : Int))
    | none => condsL s cs k
def deepN (cs : List CondD) : Nat → Bool
  | 0 => false
  | k + 1 => deepN cs k || match cs[k]? with
    | some c => decide (7 < c.op)
    | none => false
def ruleS (l : List Ins) (r : RuleD) : List Ins × List Int := condsL (l ++ [Ins.mk 1 0 0 0, Ins.mk 4 1 0 r.nr, jmpI], [((l.length + 2 : Nat) : Int)]) r.conds r.conds.length
def ruleK (i : Nat) (r : RuleD) : Int := if deepN r.conds r.conds.length then ((2146435072 + i : Nat) : Int) else retK r.kind r.errno
def ruleL (l : List Ins) (i : Nat) (r : RuleD) : List Ins := hereN ((ruleS l r).1 ++ [Ins.mk 8 0 0 (ruleK i r)]) (ruleS l r).2 (ruleS l r).2.length
def rulesL (rs : List RuleD) : Nat → List Ins
  | 0 => [Ins.mk 1 0 0 4, Ins.mk 4 1 0 3221225534, Ins.mk 8 0 0 0]
  | k + 1 => match rs[k]? with
    | some r => ruleL (rulesL rs k) k r
    | none => rulesL rs k
def progL (p : PolD) : List Ins := rulesL p.rules p.rules.length ++ [Ins.mk 8 0 0 (retK p.kind p.errno)]

theorem condL_len (op : Int) (a v m : Nat) : (condL op a v m).length ≤ 8 := by
  unfold condL
  split
  · simp
  · split
    · simp
    · split
      · simp
      · split
        · simp
        · split <;> simp
theorem condO_len (op : Int) : (condO op).length ≤ 2 := by
  unfold condO
  split
  · simp
  · split
    · simp
    · split
      · simp
      · split
        · simp
        · split <;> simp
theorem condO_lt (op : Int) (a v m : Nat) : ∀ i ∈ condO op, i < (condL op a v m).length := by
  intro i
  unfold condO condL
  split
  · simp; omega
  · split
    · simp; omega
    · split
      · simp; omega
      · split
        · simp; omega
        · split
          · simp; omega
          · simp
/-- The lengths and the open places of what conditions add. -/
theorem condsL_ok (s : List Ins × List Int) (cs : List CondD) (hs : ∀ a ∈ s.2, 0 ≤ a ∧ a < s.1.length) : ∀ k, (condsL s cs k).1.length ≤ s.1.length + 8 * k ∧ (condsL s cs k).2.length ≤ s.2.length + 2 * k ∧ s.1.length ≤ (condsL s cs k).1.length ∧ ∀ a ∈ (condsL s cs k).2, 0 ≤ a ∧ a < (condsL s cs k).1.length := by
  intro k
  induction k with
  | zero => exact ⟨by simp [condsL], by simp [condsL], by simp [condsL], hs⟩
  | succ k ih =>
    obtain ⟨h1, h2, h3, h4⟩ := ih
    rw [condsL]
    split
    · rename_i c _
      split
      · exact ⟨by omega, by omega, h3, h4⟩
      · have hl := condL_len c.op c.arg.toNat c.v.toNat c.m.toNat
        have ho := condO_len c.op
        refine ⟨by simp; omega, by simp; omega, by simp; omega, fun a ha => ?_⟩
        simp only [List.mem_append, List.mem_map] at ha
        rcases ha with ha | ⟨i, hi, rfl⟩
        · have := h4 a ha
          simp; omega
        · have := condO_lt c.op c.arg.toNat c.v.toNat c.m.toNat i hi
          simp; omega
    · exact ⟨by omega, by omega, h3, h4⟩
theorem ruleS_ok (l : List Ins) (r : RuleD) : (ruleS l r).1.length ≤ l.length + 3 + 8 * r.conds.length ∧ (ruleS l r).2.length ≤ 1 + 2 * r.conds.length ∧ ∀ a ∈ (ruleS l r).2, 0 ≤ a ∧ a < (ruleS l r).1.length := by
  have := condsL_ok (l ++ [Ins.mk 1 0 0 0, Ins.mk 4 1 0 r.nr, jmpI], [((l.length + 2 : Nat) : Int)]) r.conds (by intro a ha; simp at ha; subst ha; simp; omega) r.conds.length
  simp only [List.length_append, List.length_cons, List.length_nil] at this
  obtain ⟨t1, t2, _, t4⟩ := this
  unfold ruleS
  exact ⟨by omega, by omega, t4⟩
theorem ruleL_len (l : List Ins) (i : Nat) (r : RuleD) : (ruleL l i r).length = (ruleS l r).1.length + 1 := by
  unfold ruleL; rw [hereN_length]; simp

theorem condF_zero {nr : Nat} {c : CondD} (h : condF nr c = 0) : 0 ≤ c.arg ∧ c.arg ≤ 3 ∧ 1 ≤ c.op ∧ c.op ≤ 9 := by
  unfold condF at h
  split at h
  · omega
  · rename_i hb
    simp only [not_or] at hb
    omega
theorem firstNZ_zero {α : Type} {f : α → Int} : ∀ {l : List α}, firstNZ f l = 0 → ∀ x ∈ l, f x = 0
  | [], _, x, hx => by simp at hx
  | y :: r, h, x, hx => by
    rw [firstNZ] at h
    split at h
    · rename_i hy; exact absurd h hy
    · rename_i hy
      have hy0 : f y = 0 := by simpa using hy
      rcases List.mem_cons.1 hx with rfl | hx
      · exact hy0
      · exact firstNZ_zero h x hx
theorem actF_zero {k e : Int} (h : actF k e = 0) : k = 2 → 0 ≤ e ∧ e < 65536 := by
  intro hk
  subst hk
  unfold actF at h
  rw [if_neg (by omega), if_pos rfl] at h
  split at h <;> omega
theorem ruleF_zero {r : RuleD} (h : ruleF r = 0) : 0 ≤ r.nr ∧ r.nr ≤ 8 ∧ r.conds.length ≤ 4 ∧ (∀ c ∈ r.conds, 0 ≤ c.arg ∧ c.arg ≤ 3 ∧ 1 ≤ c.op ∧ c.op ≤ 9) ∧ actF r.kind r.errno = 0 := by
  unfold ruleF at h
  split at h
  · omega
  · rename_i h1
    split at h
    · omega
    · rename_i h2
      split at h
      · rename_i h3; exact absurd h h3
      · rename_i h3
        have h3' : firstNZ (condF r.nr.toNat) r.conds = 0 := by simpa using h3
        exact ⟨by omega, by omega, by omega, fun c hc => condF_zero (firstNZ_zero h3' c hc), h⟩
theorem polF_zero {p : PolD} (h : polF p = 0) : p.rules.length ≤ 12 ∧ actF p.kind p.errno = 0 ∧ ∀ r ∈ p.rules, ruleF r = 0 := by
  unfold polF at h
  split at h
  · omega
  · split at h
    · rename_i h2; exact absurd h h2
    · rename_i h1 h2
      exact ⟨by omega, by simpa using h2, firstNZ_zero h⟩
theorem rulesL_len (rs : List RuleD) (h : ∀ r ∈ rs, r.conds.length ≤ 4) : ∀ k, (rulesL rs k).length ≤ 3 + 40 * k := by
  intro k
  induction k with
  | zero => simp [rulesL]
  | succ k ih =>
    rw [rulesL]
    split
    · rename_i r hr
      have h1 := (ruleS_ok (rulesL rs k) r).1
      have h2 := h r (List.mem_of_getElem? hr)
      rw [ruleL_len]; omega
    · omega
theorem progL_pos (p : PolD) : 0 < (progL p).length := by unfold progL; simp

end Go.Proofs.YtmgngapkgcofnaaGreatDoor
/- A policy's text in plain words: its lines, their words; two right policies have two texts. -/
namespace Go.Proofs.YtmgngapkgcofnaaGreatDoor
open Go.Lib

/-! Lists cut at a byte. -/
def joinW (c : UInt8) : List (List UInt8) → List UInt8
  | [] => []
  | [a] => a
  | a :: b :: r => a ++ c :: joinW c (b :: r)
def cutW (c : UInt8) : List UInt8 → List (List UInt8)
  | [] => [[]]
  | b :: r => if b = c then [] :: cutW c r else match cutW c r with
    | [] => [[b]]
    | h :: t => (b :: h) :: t
theorem cutW_ne (c : UInt8) (l : List UInt8) : cutW c l ≠ [] := by
  cases l with
  | nil => simp [cutW]
  | cons b r =>
    rw [cutW]; split
    · simp
    · split <;> simp
theorem cutW_cons {c b : UInt8} {r h : List UInt8} {t : List (List UInt8)} (hb : b ≠ c) (hr : cutW c r = h :: t) : cutW c (b :: r) = (b :: h) :: t := by
  rw [cutW, if_neg hb, hr]
theorem cutW_app (c : UInt8) : ∀ (a r : List UInt8), (∀ b ∈ a, b ≠ c) → cutW c (a ++ c :: r) = a :: cutW c r
  | [], r, _ => by rw [List.nil_append, cutW, if_pos rfl]
  | x :: a, r, h => by
    rw [List.cons_append]
    exact cutW_cons (h x (by simp)) (cutW_app c a r (fun b hb => h b (by simp [hb])))
theorem cutW_one (c : UInt8) : ∀ (a : List UInt8), (∀ b ∈ a, b ≠ c) → cutW c a = [a]
  | [], _ => rfl
  | x :: a, h => cutW_cons (h x (by simp)) (cutW_one c a (fun b hb => h b (by simp [hb])))
theorem cut_join (c : UInt8) : ∀ (ws : List (List UInt8)), ws ≠ [] → (∀ w ∈ ws, ∀ b ∈ w, b ≠ c) → cutW c (joinW c ws) = ws
  | [], h, _ => absurd rfl h
  | [a], _, h => cutW_one c a (h a (by simp))
  | a :: b :: r, _, h => by
    rw [joinW, cutW_app c a _ (h a (by simp)), cut_join c (b :: r) (by simp) (fun w hw => h w (by simp [List.mem_cons.1 hw]))]
theorem join_cut (c : UInt8) : ∀ (l : List UInt8), joinW c (cutW c l) = l
  | [] => rfl
  | b :: r => by
    have ih := join_cut c r
    rw [cutW]
    split
    · rename_i e
      subst e
      cases h : cutW b r with
      | nil => exact absurd h (cutW_ne _ _)
      | cons x t => rw [joinW, ← h, ih]; rfl
    · cases h : cutW c r with
      | nil => exact absurd h (cutW_ne _ _)
      | cons x t =>
        simp only
        rw [h] at ih
        cases t with
        | nil => rw [joinW] at ih ⊢; rw [ih]
        | cons y t => rw [joinW] at ih ⊢; rw [List.cons_append, ih]
theorem cut_no (c : UInt8) : ∀ (l : List UInt8), ∀ w ∈ cutW c l, ∀ b ∈ w, b ≠ c
  | [], w, hw, b, hb => by simp [cutW] at hw; subst hw; simp at hb
  | x :: r, w, hw, b, hb => by
    rw [cutW] at hw
    split at hw
    · rcases List.mem_cons.1 hw with rfl | hw
      · simp at hb
      · exact cut_no c r w hw b hb
    · rename_i hx
      cases h : cutW c r with
      | nil => exact absurd h (cutW_ne _ _)
      | cons y t =>
        rw [h] at hw
        simp only at hw
        rcases List.mem_cons.1 hw with rfl | hw
        · rcases List.mem_cons.1 hb with rfl | hb
          · exact hx
          · exact cut_no c r y (by rw [h]; simp) b hb
        · exact cut_no c r w (by rw [h]; simp [hw]) b hb
theorem joinW_append (c : UInt8) : ∀ (a b : List (List UInt8)), a ≠ [] → b ≠ [] → joinW c (a ++ b) = joinW c a ++ c :: joinW c b
  | [], _, h, _ => absurd rfl h
  | [x], b, _, h => by
    cases b with
    | nil => exact absurd rfl h
    | cons y t => rfl
  | x :: y :: r, b, _, h => by
    have := joinW_append c (y :: r) b (by simp) h
    simp only [List.cons_append] at this ⊢
    rw [joinW, this, joinW, List.append_assoc, List.cons_append]

/-! The words. -/
def wElse : List UInt8 := [101, 108, 115, 101]
def wAllow : List UInt8 := [97, 108, 108, 111, 119]
def wKill : List UInt8 := [107, 105, 108, 108]
def wDeny : List UInt8 := [100, 101, 110, 121]
def wIf : List UInt8 := [105, 102]
def wAnd : List UInt8 := [97, 110, 100]
def wMask : List UInt8 := [38]
def wEq : List UInt8 := [61, 61]
def wLike : List UInt8 := [126]
def wIn : List UInt8 := [105, 110]
def signW : Nat → List UInt8
  | 1 => [61, 61]
  | 2 => [33, 61]
  | 3 => [60]
  | 4 => [60, 61]
  | 5 => [62]
  | 6 => [62, 61]
  | _ => []
def nameW (nr : Nat) : List UInt8 := (formName nr).data.toList
def quoteW (g : ByteArray) : List UInt8 := 34 :: g.data.toList ++ [34]
def actW (k e : Int) : List (List UInt8) := if k = 1 then [wAllow] else if k = 3 then [wKill] else [wDeny, decDigits e.toNat]
def condW (x : CondD) : List (List UInt8) := decDigits x.arg.toNat :: (if x.op = 7 then [wMask, decDigits x.m.toNat, wEq, decDigits x.v.toNat] else if x.op = 8 then [wLike, quoteW x.glob] else if x.op = 9 then [wIn, textN x.net] else [signW x.op.toNat, decDigits x.v.toNat])
def condsW : Nat → List CondD → List (List UInt8)
  | _, [] => []
  | k, x :: r => (if k = 0 then wIf else wAnd) :: (condW x ++ condsW (k + 1) r)
def ruleW (r : RuleD) : List (List UInt8) := actW r.kind r.errno ++ nameW r.nr.toNat :: condsW 0 r.conds
def lineR (r : RuleD) : List UInt8 := joinW 32 (ruleW r)
def lineE (p : PolD) : List UInt8 := joinW 32 (wElse :: actW p.kind p.errno)
def linesP (p : PolD) : List (List UInt8) := lineE p :: (p.rules.map lineR ++ [[]])
/-- A policy's text. -/
def polT (p : PolD) : List UInt8 := joinW 10 (linesP p)

/-! What can be read as it. -/
def ActRd (k e : Int) : Prop := (k = 1 ∧ e = 0) ∨ (k = 3 ∧ e = 0) ∨ (k = 2 ∧ 0 ≤ e ∧ e < 1000)
structure CondRd (x : CondD) : Prop where
  arg : 0 ≤ x.arg ∧ x.arg ≤ 3
  op : 1 ≤ x.op ∧ x.op ≤ 9
  v : 0 ≤ x.v ∧ x.v < 18446744073709551616
  m : 0 ≤ x.m ∧ x.m < 18446744073709551616
  m0 : x.op ≠ 7 → x.m = 0
  v0 : 7 < x.op → x.v = 0
  g0 : x.op ≠ 8 → x.glob = ByteArray.empty
  n0 : x.op ≠ 9 → x.net = ⟨0, 0, 0, 0⟩
  net : x.op = 9 → x.net.ok ∧ netF x.net = 0
structure RuleRd (r : RuleD) : Prop where
  act : ActRd r.kind r.errno
  nr : 0 ≤ r.nr ∧ r.nr ≤ 8
  con : ∀ x ∈ r.conds, CondRd x
def PolOk (p : PolD) : Prop := ∀ r ∈ p.rules, ∀ c ∈ r.conds, c.ok
theorem size_empty {g : ByteArray} (h : g.size = 0) : g = ByteArray.empty := by
  ext1
  exact Array.eq_empty_of_size_eq_zero h
theorem condRd_of {n : Nat} {x : CondD} (hok : x.ok) (h : condF n x = 0) : CondRd x := by
  obtain ⟨_, _, hv, hm, _, hn⟩ := hok
  unfold condF at h
  split at h
  · omega
  · rename_i h1
    split at h
    · omega
    · rename_i h2
      simp only [CondD.bad, not_or, ne_eq, not_and, Classical.not_not] at h2
      obtain ⟨_, b1, b2, b3, b4⟩ := h2
      refine ⟨by omega, by omega, hv, hm, b1, b2, fun k => size_empty (b3 k), b4, fun k => ⟨hn, ?_⟩⟩
      rw [if_neg (by omega), if_pos k] at h
      exact h
theorem actRd_of {k e : Int} (h : actF k e = 0) : ActRd k e := by
  unfold actF at h
  unfold ActRd
  split at h
  · split at h <;> omega
  · split at h
    · split at h <;> omega
    · omega
theorem ruleRd_of {r : RuleD} (hok : ∀ c ∈ r.conds, c.ok) (h : ruleF r = 0) : RuleRd r := by
  unfold ruleF at h
  split at h
  · omega
  · rename_i h1
    split at h
    · omega
    · split at h
      · rename_i h3; exact absurd h h3
      · rename_i h3
        have h3' : firstNZ (condF r.nr.toNat) r.conds = 0 := by simpa using h3
        exact ⟨actRd_of h, by omega, fun x hx => condRd_of (hok x hx) (firstNZ_zero h3' x hx)⟩

/-! They are read as one thing alone. -/
theorem dec_ne_of {l : List UInt8} (h : ∃ b ∈ l, isDig b = false) (n : Nat) : decDigits n ≠ l := fun e => by
  obtain ⟨b, hb, hd⟩ := h
  rw [← e] at hb
  rw [decDigits_dig n b hb] at hd
  cases hd
theorem actW_inj {k e k' e' : Int} {r r' : List (List UInt8)} (h : ActRd k e) (h' : ActRd k' e') (he : actW k e ++ r = actW k' e' ++ r') : k = k' ∧ e = e' ∧ r = r' := by
  unfold actW at he
  rcases h with ⟨rfl, rfl⟩ | ⟨rfl, rfl⟩ | ⟨rfl, h1, h2⟩ <;> rcases h' with ⟨rfl, rfl⟩ | ⟨rfl, rfl⟩ | ⟨rfl, h3, h4⟩ <;> simp [wAllow, wKill, wDeny] at he ⊢
  · exact he
  · exact he
  · have := dec_inj he.1
    exact ⟨by omega, he.2⟩
theorem signW_inj {a b : Int} (ha : 1 ≤ a ∧ a ≤ 6) (hb : 1 ≤ b ∧ b ≤ 6) (h : signW a.toNat = signW b.toNat) : a = b := by
  have h1 : a = 1 ∨ a = 2 ∨ a = 3 ∨ a = 4 ∨ a = 5 ∨ a = 6 := by omega
  have h2 : b = 1 ∨ b = 2 ∨ b = 3 ∨ b = 4 ∨ b = 5 ∨ b = 6 := by omega
  rcases h1 with rfl | rfl | rfl | rfl | rfl | rfl <;> rcases h2 with rfl | rfl | rfl | rfl | rfl | rfl <;> first | rfl | (exfalso; revert h; decide)
theorem signW_ne {a : Int} (ha : 1 ≤ a ∧ a ≤ 6) : signW a.toNat ≠ wMask ∧ signW a.toNat ≠ wLike ∧ signW a.toNat ≠ wIn ∧ signW a.toNat ≠ [] := by
  have h1 : a = 1 ∨ a = 2 ∨ a = 3 ∨ a = 4 ∨ a = 5 ∨ a = 6 := by omega
  rcases h1 with rfl | rfl | rfl | rfl | rfl | rfl <;> decide
theorem ba_ext {a b : ByteArray} (h : a.data.toList = b.data.toList) : a = b := by
  ext1
  exact Array.toList_inj.1 h
theorem quoteW_inj {a b : ByteArray} (h : quoteW a = quoteW b) : a = b := by
  unfold quoteW at h
  simp only [List.cons_append, List.cons.injEq, true_and, List.append_cancel_right_eq] at h
  exact ba_ext h
theorem condW_inj {x y : CondD} {r r' : List (List UInt8)} (hx : CondRd x) (hy : CondRd y) (he : condW x ++ r = condW y ++ r') : x = y ∧ r = r' := by
  unfold condW at he
  simp only [List.cons_append, List.cons.injEq] at he
  obtain ⟨h0, he⟩ := he
  have ha : x.arg = y.arg := by have := dec_inj h0; have := hx.arg; have := hy.arg; omega
  have x1 := hx.op
  have y1 := hy.op
  have x2 := hx.v
  have y2 := hy.v
  have x3 := hx.m
  have y3 := hy.m
  have key : x.op = y.op ∧ x.v = y.v ∧ x.m = y.m ∧ x.glob = y.glob ∧ x.net = y.net ∧ r = r' := by
    by_cases x7 : x.op = 7
    · have xg := hx.g0 (by omega)
      have xn := hx.n0 (by omega)
      rw [if_pos x7] at he
      by_cases y7 : y.op = 7
      · rw [if_pos y7] at he
        simp only [List.cons_append, List.nil_append, List.cons.injEq, true_and] at he
        have q1 := dec_inj he.1
        have q2 := dec_inj he.2.1
        exact ⟨by omega, by omega, by omega, by rw [xg, hy.g0 (by omega)], by rw [xn, hy.n0 (by omega)], he.2.2⟩
      · rw [if_neg y7] at he
        exfalso
        by_cases y8 : y.op = 8
        · rw [if_pos y8] at he; simp [wMask, wLike] at he
        · rw [if_neg y8] at he
          by_cases y9 : y.op = 9
          · rw [if_pos y9] at he; simp [wMask, wIn] at he
          · rw [if_neg y9] at he
            simp only [List.cons_append, List.nil_append, List.cons.injEq] at he
            exact (signW_ne ⟨y1.1, by omega⟩).1 he.1.symm
    · rw [if_neg x7] at he
      have xm := hx.m0 x7
      by_cases x8 : x.op = 8
      · rw [if_pos x8] at he
        have xv := hx.v0 (by omega)
        have xn := hx.n0 (by omega)
        by_cases y7 : y.op = 7
        · rw [if_pos y7] at he; simp [wMask, wLike] at he
        · rw [if_neg y7] at he
          have ym := hy.m0 y7
          by_cases y8 : y.op = 8
          · rw [if_pos y8] at he
            simp only [List.cons_append, List.nil_append, List.cons.injEq, true_and] at he
            exact ⟨by omega, by rw [xv, hy.v0 (by omega)], by omega, quoteW_inj he.1, by rw [xn, hy.n0 (by omega)], he.2⟩
          · rw [if_neg y8] at he
            exfalso
            by_cases y9 : y.op = 9
            · rw [if_pos y9] at he; simp [wLike, wIn] at he
            · rw [if_neg y9] at he
              simp only [List.cons_append, List.nil_append, List.cons.injEq] at he
              exact (signW_ne ⟨y1.1, by omega⟩).2.1 he.1.symm
      · rw [if_neg x8] at he
        have xg := hx.g0 x8
        by_cases x9 : x.op = 9
        · rw [if_pos x9] at he
          have xv := hx.v0 (by omega)
          by_cases y7 : y.op = 7
          · rw [if_pos y7] at he; simp [wMask, wIn] at he
          · rw [if_neg y7] at he
            have ym := hy.m0 y7
            by_cases y8 : y.op = 8
            · rw [if_pos y8] at he; simp [wLike, wIn] at he
            · rw [if_neg y8] at he
              have yg := hy.g0 y8
              by_cases y9 : y.op = 9
              · rw [if_pos y9] at he
                simp only [List.cons_append, List.nil_append, List.cons.injEq, true_and] at he
                obtain ⟨k1, k2⟩ := hx.net x9
                obtain ⟨k3, k4⟩ := hy.net y9
                exact ⟨by omega, by rw [xv, hy.v0 (by omega)], by omega, by rw [xg, yg], textN_inj k1 k3 k2 k4 he.1, he.2⟩
              · rw [if_neg y9] at he
                exfalso
                simp only [List.cons_append, List.nil_append, List.cons.injEq] at he
                exact (signW_ne ⟨y1.1, by omega⟩).2.2.1 he.1.symm
        · rw [if_neg x9] at he
          have xn := hx.n0 x9
          by_cases y7 : y.op = 7
          · rw [if_pos y7] at he
            exfalso
            simp only [List.cons_append, List.nil_append, List.cons.injEq] at he
            exact (signW_ne ⟨x1.1, by omega⟩).1 he.1
          · rw [if_neg y7] at he
            have ym := hy.m0 y7
            by_cases y8 : y.op = 8
            · rw [if_pos y8] at he
              exfalso
              simp only [List.cons_append, List.nil_append, List.cons.injEq] at he
              exact (signW_ne ⟨x1.1, by omega⟩).2.1 he.1
            · rw [if_neg y8] at he
              have yg := hy.g0 y8
              by_cases y9 : y.op = 9
              · rw [if_pos y9] at he
                exfalso
                simp only [List.cons_append, List.nil_append, List.cons.injEq] at he
                exact (signW_ne ⟨x1.1, by omega⟩).2.2.1 he.1
              · rw [if_neg y9] at he
                simp only [List.cons_append, List.nil_append, List.cons.injEq] at he
                have q1 := signW_inj ⟨x1.1, by omega⟩ ⟨y1.1, by omega⟩ he.1
                have q2 := dec_inj he.2.1
                exact ⟨q1, by omega, by omega, by rw [xg, yg], by rw [xn, hy.n0 y9], he.2.2⟩
  obtain ⟨k1, k2, k3, k4, k5, k6⟩ := key
  refine ⟨?_, k6⟩
  cases x; cases y
  simp only at ha k1 k2 k3 k4 k5
  rw [ha, k1, k2, k3, k4, k5]
theorem condsW_split : ∀ (cs : List CondD) (k : Nat) (ds : List CondD) (r : List (List UInt8)), (∀ x ∈ cs, CondRd x) → (∀ x ∈ ds, CondRd x) → condsW k cs ++ r = condsW k ds → ∃ ds', ds = cs ++ ds' ∧ r = condsW (k + cs.length) ds'
  | [], k, ds, r, _, _, h => ⟨ds, rfl, h⟩
  | x :: cs, k, ds, r, hc, hd, h => by
    cases ds with
    | nil => simp [condsW] at h
    | cons y ds =>
      simp only [condsW, List.cons_append, List.cons.injEq, true_and, List.append_assoc] at h
      obtain ⟨rfl, h2⟩ := condW_inj (hc x (by simp)) (hd y (by simp)) h
      obtain ⟨ds', e1, e2⟩ := condsW_split cs (k + 1) ds r (fun x hx => hc x (by simp [hx])) (fun x hx => hd x (by simp [hx])) h2
      exact ⟨ds', by rw [e1]; rfl, by rw [e2, List.length_cons]; congr 1; omega⟩
theorem nameW_inj {a b : Nat} (ha : a ≤ 8) (hb : b ≤ 8) (h : nameW a = nameW b) : a = b := by
  have h1 : a = 0 ∨ a = 1 ∨ a = 2 ∨ a = 3 ∨ a = 4 ∨ a = 5 ∨ a = 6 ∨ a = 7 ∨ a = 8 := by omega
  have h2 : b = 0 ∨ b = 1 ∨ b = 2 ∨ b = 3 ∨ b = 4 ∨ b = 5 ∨ b = 6 ∨ b = 7 ∨ b = 8 := by omega
  rcases h1 with rfl | rfl | rfl | rfl | rfl | rfl | rfl | rfl | rfl <;> rcases h2 with rfl | rfl | rfl | rfl | rfl | rfl | rfl | rfl | rfl <;> first | rfl | (exfalso; revert h; decide)
theorem ruleW_inj {r s : RuleD} (hr : RuleRd r) (hs : RuleRd s) (h : ruleW r = ruleW s) : r = s := by
  unfold ruleW at h
  obtain ⟨e1, e2, h⟩ := actW_inj hr.act hs.act h
  simp only [List.cons.injEq] at h
  have e3 := nameW_inj (by have := hr.nr; omega) (by have := hs.nr; omega) h.1
  obtain ⟨ds, e4, e5⟩ := condsW_split r.conds 0 s.conds [] hr.con hs.con (by rw [List.append_nil]; exact h.2)
  have e6 : ds = [] := by
    cases ds with
    | nil => rfl
    | cons x t => simp [condsW] at e5
  rw [e6, List.append_nil] at e4
  have h1 := hr.nr
  have h2 := hs.nr
  cases r; cases s
  simp only at e1 e2 e3 e4 h1 h2
  rw [e1, e2, e4]
  congr 1
  omega

/-! They are clean: no blank, no end of line. -/
def Clean (l : List UInt8) : Prop := ∀ b ∈ l, b ≠ 32 ∧ b ≠ 10
instance (l : List UInt8) : Decidable (Clean l) := by unfold Clean; infer_instance
theorem dec_clean (n : Nat) : Clean (decDigits n) := fun b hb => by
  have := decDigits_dig n b hb
  constructor <;> (rintro rfl; revert this; decide)
theorem joinT_mem : ∀ (cs : List UInt8) (ks : List Nat) (b : UInt8), b ∈ joinT cs ks → isDig b = true ∨ b ∈ cs
  | [], [k], b, h => .inl (decDigits_dig k b h)
  | [], [], b, h => by simp [joinT] at h
  | [], _ :: _ :: _, b, h => by simp [joinT] at h
  | c :: cs, [], b, h => by simp [joinT] at h
  | c :: cs, k :: ks, b, h => by
    rw [joinT] at h
    rcases List.mem_append.1 h with h | h
    · exact .inl (decDigits_dig k b h)
    · rcases List.mem_cons.1 h with rfl | h
      · exact .inr (by simp)
      · rcases joinT_mem cs ks b h with h | h
        · exact .inl h
        · exact .inr (by simp [h])
theorem textN_clean (x : NetD) : Clean (textN x) := fun b hb => by
  rcases joinT_mem _ _ b hb with h | h
  · constructor <;> (rintro rfl; revert h; decide)
  · constructor <;> (rintro rfl; revert h; decide)
def goodB (x : Int) : Prop := 32 < x ∧ x < 127 ∧ x ≠ 34
theorem member_good {x : Int} (h : memberF x = true) : goodB x := by simp only [memberF, decide_eq_true_eq] at h; unfold goodB; omega
theorem plain_good {x : Int} (h : plainF x = true) : goodB x := by simp only [plainF, decide_eq_true_eq] at h; unfold goodB; omega
theorem special_good {x : Int} (h : specialF x = true) : goodB x := by simp only [specialF, decide_eq_true_eq] at h; unfold goodB; omega
theorem classL_clean (not : Bool) : ∀ (m : Nat) (n : Bool) (l : List Int) (f : Nat → Bool) (g : Nat → Bool) (r : List Int), l.length ≤ m → classL not n l f = some (g, r) → ∀ x ∈ l, x ∈ r ∨ goodB x := by
  intro m
  induction m with
  | zero => intro n l f g r hl h; rcases l with _ | ⟨x, l⟩ <;> simp [classL] at h hl
  | succ m ih =>
    intro n l f g r hl h
    have g93 : goodB 93 := by unfold goodB; omega
    have g45 : goodB 45 := by unfold goodB; omega
    rcases l with _ | ⟨x, _ | ⟨y, l⟩⟩
    · simp [classL] at h
    · simp only [classL] at h
      split at h
      · rename_i e; subst e
        intro z hz; rcases List.mem_singleton.1 hz with rfl; exact .inr g93
      · simp at h
    · rcases l with _ | ⟨z, l⟩
      · simp only [classL] at h
        split at h
        · rename_i e; subst e
          split at h
          · obtain ⟨_, rfl⟩ := by simpa using h
            intro t ht
            rcases List.mem_cons.1 ht with rfl | ht
            · exact .inr g93
            · exact .inl ht
          · simp at h
        · split at h
          · simp at h
          · rename_i hm
            split at h
            · rename_i e; subst e
              simp only [Bool.not_eq_false] at hm
              simp only [if_true, Option.some.injEq, Prod.mk.injEq] at h
              intro t ht
              rcases List.mem_cons.1 ht with rfl | ht
              · exact .inr (member_good hm)
              · rcases List.mem_singleton.1 ht with rfl; exact .inr g93
            · simp at h
      · simp only [classL] at h
        split at h
        · rename_i e; subst e
          split at h
          · obtain ⟨_, rfl⟩ := by simpa using h
            intro t ht
            rcases List.mem_cons.1 ht with rfl | ht
            · exact .inr g93
            · exact .inl ht
          · simp at h
        · split at h
          · simp at h
          · rename_i hm
            simp only [Bool.not_eq_false] at hm
            split at h
            · rename_i e; subst e
              split at h
              · simp at h
              · rename_i hz
                simp only [not_or, Bool.not_eq_false] at hz
                have := ih _ _ _ _ _ (by simp at hl ⊢; omega) h
                intro t ht
                rcases List.mem_cons.1 ht with rfl | ht
                · exact .inr (member_good hm)
                · rcases List.mem_cons.1 ht with rfl | ht
                  · exact .inr g45
                  · rcases List.mem_cons.1 ht with rfl | ht
                    · exact .inr (member_good hz.1)
                    · exact this t ht
            · have := ih _ _ _ _ _ (by simp at hl ⊢; omega) h
              intro t ht
              rcases List.mem_cons.1 ht with rfl | ht
              · exact .inr (member_good hm)
              · exact this t ht
theorem classF_clean {l : List Int} {p : Part} {r : List Int} (h : classF l = some (p, r)) : ∀ x ∈ l, x ∈ r ∨ goodB x := by
  unfold classF at h
  simp only [Option.map_eq_some_iff] at h
  obtain ⟨⟨g, r'⟩, h1, h2⟩ := h
  obtain ⟨_, rfl⟩ : _ ∧ r' = r := by simpa using h2
  split at h1
  · intro t ht
    rcases List.mem_cons.1 ht with rfl | ht
    · exact .inr (by unfold goodB; omega)
    · exact classL_clean _ _ _ _ _ _ _ (Nat.le_refl _) h1 t ht
  · exact classL_clean _ _ _ _ _ _ _ (Nat.le_refl _) h1
theorem partL_clean {l : List Int} {p : Part} {r : List Int} (h : partL l = some (p, r)) : ∀ x ∈ l, x ∈ r ∨ goodB x := by
  cases l with
  | nil => simp [partL] at h
  | cons c l =>
    have hc : goodB c → (∀ x ∈ l, x ∈ r ∨ goodB x) → ∀ x ∈ c :: l, x ∈ r ∨ goodB x := fun h1 h2 x hx => by
      rcases List.mem_cons.1 hx with rfl | hx
      · exact .inr h1
      · exact h2 x hx
    unfold partL at h
    simp only at h
    split at h
    · rename_i e
      subst e
      refine hc (by unfold goodB; omega) ?_
      split at h
      · obtain ⟨_, rfl⟩ : _ ∧ _ = r := by simpa using h
        intro x hx
        rcases List.mem_cons.1 hx with rfl | hx
        · exact .inr (by unfold goodB; omega)
        · exact .inl hx
      · obtain ⟨_, rfl⟩ : _ ∧ _ = r := by simpa using h
        exact fun x hx => .inl hx
    · split at h
      · rename_i e
        subst e
        obtain ⟨_, rfl⟩ : _ ∧ _ = r := by simpa using h
        exact hc (by unfold goodB; omega) (fun x hx => .inl hx)
      · split at h
        · rename_i e
          subst e
          exact hc (by unfold goodB; omega) (classF_clean h)
        · split at h
          · rename_i e
            subst e
            refine hc (by unfold goodB; omega) ?_
            split at h
            · split at h
              · rename_i hs
                obtain ⟨_, rfl⟩ : _ ∧ _ = r := by simpa using h
                intro x hx
                rcases List.mem_cons.1 hx with rfl | hx
                · exact .inr (special_good hs)
                · exact .inl hx
              · simp at h
            · simp at h
          · split at h
            · rename_i hp
              obtain ⟨_, rfl⟩ : _ ∧ _ = r := by simpa using h
              exact hc (plain_good hp) (fun x hx => .inl hx)
            · simp at h
theorem partsL_clean : ∀ (n : Nat) (l : List Int) (ps : List Part), partsL n l = some ps → ∀ x ∈ l, goodB x
  | _, [], _, _, x, hx => by simp at hx
  | 0, c :: r, ps, h, _, _ => by simp [partsL] at h
  | n + 1, c :: r, ps, h, x, hx => by
    simp only [partsL, Option.bind_eq_some_iff, Option.map_eq_some_iff] at h
    obtain ⟨⟨p, r'⟩, h1, ps', h2, _⟩ := h
    rcases partL_clean h1 x hx with h3 | h3
    · exact partsL_clean n r' ps' h2 x h3
    · exact h3
theorem globF_clean {g : ByteArray} (h : globF (bytesOf g) = 0) : (∀ b ∈ g.data.toList, b ≠ 32 ∧ b ≠ 10 ∧ b ≠ 34) := fun b hb => by
  have hg : goodB (b.toNat : Int) := by
    unfold globF at h
    split at h
    · omega
    · split at h
      · omega
      · split at h
        · rename_i ps hp
          exact partsL_clean _ _ _ hp _ (by unfold bytesOf; exact List.mem_map.2 ⟨b, hb, rfl⟩)
        · omega
  unfold goodB at hg
  refine ⟨?_, ?_, ?_⟩ <;> (rintro rfl; revert hg; decide)
theorem actW_clean (k e : Int) : ∀ w ∈ actW k e, Clean w := fun w hw => by
  unfold actW at hw
  split at hw
  · obtain rfl := List.mem_singleton.1 hw; decide
  · split at hw
    · obtain rfl := List.mem_singleton.1 hw; decide
    · rcases List.mem_cons.1 hw with rfl | hw
      · decide
      · obtain rfl := List.mem_singleton.1 hw; exact dec_clean _
theorem signW_clean (n : Nat) : Clean (signW n) := by
  unfold signW
  split <;> decide
theorem condW_clean {n : Nat} {x : CondD} (h : condF n x = 0) : ∀ w ∈ condW x, Clean w := fun w hw => by
  unfold condW at hw
  rcases List.mem_cons.1 hw with rfl | hw
  · exact dec_clean _
  · split at hw
    · simp only [List.mem_cons, List.not_mem_nil, or_false] at hw
      rcases hw with rfl | rfl | rfl | rfl
      · decide
      · exact dec_clean _
      · decide
      · exact dec_clean _
    · split at hw
      · rename_i h8
        simp only [List.mem_cons, List.not_mem_nil, or_false] at hw
        rcases hw with rfl | rfl
        · decide
        · have hg : globF (bytesOf x.glob) = 0 := by
            unfold condF at h
            split at h
            · omega
            · split at h
              · omega
              · exact h
          intro b hb
          unfold quoteW at hb
          simp only [List.cons_append, List.mem_cons, List.mem_append, List.not_mem_nil, or_false] at hb
          rcases hb with rfl | hb | rfl
          · decide
          · exact ⟨(globF_clean hg b hb).1, (globF_clean hg b hb).2.1⟩
          · decide
      · split at hw
        · simp only [List.mem_cons, List.not_mem_nil, or_false] at hw
          rcases hw with rfl | rfl
          · decide
          · exact textN_clean _
        · simp only [List.mem_cons, List.not_mem_nil, or_false] at hw
          rcases hw with rfl | rfl
          · exact signW_clean _
          · exact dec_clean _
theorem condsW_clean {n : Nat} : ∀ (cs : List CondD) (k : Nat), (∀ x ∈ cs, condF n x = 0) → ∀ w ∈ condsW k cs, Clean w
  | [], _, _, w, hw => by simp [condsW] at hw
  | x :: cs, k, h, w, hw => by
    rw [condsW] at hw
    rcases List.mem_cons.1 hw with rfl | hw
    · split <;> decide
    · rcases List.mem_append.1 hw with hw | hw
      · exact condW_clean (h x (by simp)) w hw
      · exact condsW_clean cs (k + 1) (fun y hy => h y (by simp [hy])) w hw
theorem nameW_clean (n : Nat) (h : n ≤ 8) : Clean (nameW n) := by
  have h1 : n = 0 ∨ n = 1 ∨ n = 2 ∨ n = 3 ∨ n = 4 ∨ n = 5 ∨ n = 6 ∨ n = 7 ∨ n = 8 := by omega
  rcases h1 with rfl | rfl | rfl | rfl | rfl | rfl | rfl | rfl | rfl <;> decide
theorem ruleF_conds {r : RuleD} (h : ruleF r = 0) : ∀ x ∈ r.conds, condF r.nr.toNat x = 0 := by
  unfold ruleF at h
  split at h
  · omega
  · split at h
    · omega
    · split at h
      · rename_i h3; exact absurd h h3
      · rename_i h3
        have h3' : firstNZ (condF r.nr.toNat) r.conds = 0 := by simpa using h3
        exact fun x hx => firstNZ_zero h3' x hx
theorem ruleW_clean {r : RuleD} (h : ruleF r = 0) : ∀ w ∈ ruleW r, Clean w := fun w hw => by
  have hn := ruleF_zero h
  unfold ruleW at hw
  rcases List.mem_append.1 hw with hw | hw
  · exact actW_clean _ _ w hw
  · rcases List.mem_cons.1 hw with rfl | hw
    · exact nameW_clean _ (by omega)
    · exact condsW_clean r.conds 0 (ruleF_conds h) w hw
theorem joinW_mem {c : UInt8} : ∀ (ws : List (List UInt8)) (b : UInt8), b ∈ joinW c ws → b = c ∨ ∃ w ∈ ws, b ∈ w
  | [], b, h => by simp [joinW] at h
  | [a], b, h => .inr ⟨a, by simp, h⟩
  | a :: x :: r, b, h => by
    rw [joinW] at h
    rcases List.mem_append.1 h with h | h
    · exact .inr ⟨a, by simp, h⟩
    · rcases List.mem_cons.1 h with h | h
      · exact .inl h
      · rcases joinW_mem (x :: r) b h with h | ⟨w, hw, hb⟩
        · exact .inl h
        · exact .inr ⟨w, by simp [List.mem_cons.1 hw], hb⟩
theorem ruleW_ne (r : RuleD) : ruleW r ≠ [] := by unfold ruleW; simp
/-- A right rule's line is cut into its words. -/
theorem cut_line {r : RuleD} (h : ruleF r = 0) : cutW 32 (lineR r) = ruleW r :=
  cut_join 32 _ (ruleW_ne r) (fun w hw b hb => (ruleW_clean h w hw b hb).1)
theorem cut_else (p : PolD) : cutW 32 (lineE p) = wElse :: actW p.kind p.errno := by
  refine cut_join 32 _ (by simp) (fun w hw b hb => ?_)
  rcases List.mem_cons.1 hw with rfl | hw
  · revert b; decide
  · exact (actW_clean _ _ w hw b hb).1
/-- A right policy's text is cut into its lines. -/
theorem cut_pol {p : PolD} (h : polF p = 0) : cutW 10 (polT p) = linesP p := by
  obtain ⟨_, _, hr⟩ := polF_zero h
  refine cut_join 10 _ (by simp [linesP]) (fun w hw b hb => ?_)
  unfold linesP at hw
  rcases List.mem_cons.1 hw with rfl | hw
  · unfold lineE at hb
    rcases joinW_mem _ b hb with rfl | ⟨v, hv, hb⟩
    · decide
    · rcases List.mem_cons.1 hv with rfl | hv
      · exact (by decide : ∀ b ∈ wElse, b ≠ 10) b hb
      · exact (actW_clean _ _ v hv b hb).2
  · rcases List.mem_append.1 hw with hw | hw
    · obtain ⟨r, hr1, rfl⟩ := List.mem_map.1 hw
      unfold lineR at hb
      rcases joinW_mem _ b hb with rfl | ⟨v, hv, hb⟩
      · decide
      · exact (ruleW_clean (hr r hr1) v hv b hb).2
    · obtain rfl := List.mem_singleton.1 hw
      simp at hb
theorem lineR_inj {r s : RuleD} (hr : ruleF r = 0) (kr : ∀ c ∈ r.conds, c.ok) (hs : ruleF s = 0) (ks : ∀ c ∈ s.conds, c.ok) (h : lineR r = lineR s) : r = s := by
  have := cut_line hr
  rw [h, cut_line hs] at this
  exact (ruleW_inj (ruleRd_of ks hs) (ruleRd_of kr hr) this).symm
theorem lines_inj : ∀ (a b : List RuleD), (∀ r ∈ a, ruleF r = 0 ∧ ∀ c ∈ r.conds, c.ok) → (∀ r ∈ b, ruleF r = 0 ∧ ∀ c ∈ r.conds, c.ok) → a.map lineR = b.map lineR → a = b
  | [], [], _, _, _ => rfl
  | [], _ :: _, _, _, h => by simp at h
  | _ :: _, [], _, _, h => by simp at h
  | x :: a, y :: b, ha, hb, h => by
    simp only [List.map_cons, List.cons.injEq] at h
    obtain ⟨p1, p2⟩ := ha x (by simp)
    obtain ⟨q1, q2⟩ := hb y (by simp)
    rw [lineR_inj p1 p2 q1 q2 h.1, lines_inj a b (fun r hr => ha r (by simp [hr])) (fun r hr => hb r (by simp [hr])) h.2]
theorem polT_inj {p q : PolD} (hp : PolOk p) (hq : PolOk q) (kp : polF p = 0) (kq : polF q = 0) (h : polT p = polT q) : p = q := by
  have h1 := cut_pol kp
  rw [h, cut_pol kq] at h1
  obtain ⟨_, a1, r1⟩ := polF_zero kp
  obtain ⟨_, a2, r2⟩ := polF_zero kq
  unfold linesP at h1
  simp only [List.cons.injEq, List.append_cancel_right_eq] at h1
  have e1 := lines_inj q.rules p.rules (fun r hr => ⟨r2 r hr, hq r hr⟩) (fun r hr => ⟨r1 r hr, hp r hr⟩) h1.2
  have e2 := cut_else q
  rw [h1.1, cut_else p] at e2
  simp only [List.cons.injEq, true_and] at e2
  obtain ⟨e3, e4, _⟩ := actW_inj (r := []) (r' := []) (actRd_of a1) (actRd_of a2) (by rw [e2])
  cases p; cases q
  simp only at e1 e3 e4
  rw [e1, e3, e4]
/-- What the text l is read as. -/
def ReadP (l : List UInt8) : Option PolD → Prop
  | some p => PolOk p ∧ polF p = 0 ∧ l = polT p
  | none => ∀ p : PolD, PolOk p → polF p = 0 → l ≠ polT p
theorem ReadP.same {l : List UInt8} : ∀ {a b : Option PolD}, ReadP l a → ReadP l b → a = b
  | none, none, _, _ => rfl
  | some x, none, h, k => absurd h.2.2 (k x h.1 h.2.1)
  | none, some y, h, k => absurd k.2.2 (h y k.1 k.2.1)
  | some x, some y, h, k => by rw [polT_inj h.1 k.1 h.2.1 k.2.1 (h.2.2.symm.trans k.2.2)]
end Go.Proofs.YtmgngapkgcofnaaGreatDoor
/- A line's words that are read one by one: next and number. -/
namespace Go.Proofs.YtmgngapkgcofnaaGreatDoor
open Go.RowKit

/-- Strings side by side in a row. -/
def StrsRow (w : World) (g o : Nat) (ws : List ByteArray) : Prop := ∀ (i : Nat) (x : ByteArray), ws[i]? = some x → w.cell? ⟨g, o + i, none⟩ = some (.string x)
/-- A line's words, at block b; b and their row lie below block H. -/
def WordsAt (w : World) (H b : Nat) (ws : List ByteArray) (bad : Bool) : Prop :=
  b < H ∧ ∃ A c, w.heap[b]? = some (.cells #[.slice A ws.length c, .bool bad] 68 (0, 0)) ∧ (ws = [] ∨ ∃ g o, A = some ⟨g, o, none⟩ ∧ g ≠ b ∧ g < H ∧ StrsRow w g o ws) ∧ ws.length ≤ c
theorem lt_of_cell {w : World} {b o : Nat} {v : Value} (h : w.cell? ⟨b, o, none⟩ = some v) : b < w.heap.size := World.block_lt_of_cell? w ⟨b, o, none⟩ h
theorem lt_of_block {w : World} {b : Nat} {o : Obj} (h : w.heap[b]? = some o) : b < w.heap.size := (Array.getElem?_eq_some_iff.1 h).1
theorem StrsRow.grown {w w' : World} {g o : Nat} {ws : List ByteArray} {r : Option Nat} (h : StrsRow w g o ws) (hg : w.grownBy w' r) (hne : some g ≠ r) : StrsRow w' g o ws := fun i x hx => hg.cell (h i x hx) hne
theorem grown_of_below {w w' : World} {r : Option Nat} (h : Below w.heap.size w w') : w.grownBy w' r := ⟨h.os, h.tape, h.output, h.size, fun k hk _ => h.block k hk⟩
theorem grown_refl (w : World) (r : Option Nat) : w.grownBy w r := ⟨rfl, rfl, rfl, Nat.le_refl _, fun _ _ _ => rfl⟩
theorem grown_trans {a b c : World} {r : Option Nat} (h : a.grownBy b r) (k : b.grownBy c r) : a.grownBy c r := ⟨k.os.trans h.os, k.tape.trans h.tape, k.output.trans h.output, Nat.le_trans h.size k.size, fun i hi hne => (k.block i (Nat.lt_of_lt_of_le hi h.size) hne).trans (h.block i hi hne)⟩
theorem grown_set (w : World) (b i : Nat) (u : Value) : w.grownBy (w.setCell ⟨b, i, none⟩ u) (some b) := by
  have h : Below b w (w.setCell ⟨b, i, none⟩ u) := (Below.refl b w).setCell (p := ⟨b, i, none⟩) (Nat.le_refl _) u
  refine ⟨h.os, h.tape, h.output, h.size, fun k hk hne => ?_⟩
  exact heap_setCell_other w ⟨b, i, none⟩ k u (fun e => hne (by rw [e]))
theorem below_of_grown {B b : Nat} {a w w' : World} (h : Below B a w) (hg : w.grownBy w' (some b)) (hb : B ≤ b) (hs : B ≤ w.heap.size) : Below B a w' := by
  refine ⟨hg.os.trans h.os, hg.tape.trans h.tape, hg.output.trans h.output, Nat.le_trans h.size hg.size, fun k hk => ?_⟩
  exact (hg.block k (Nat.lt_of_lt_of_le hk hs) (fun e => by simp only [Option.some.injEq] at e; omega)).trans (h.block k hk)
theorem growB {w W1 W2 : World} {b : Nat} (h : w.grownBy W1 (some b)) (k : Below w.heap.size W1 W2) : w.grownBy W2 (some b) :=
  ⟨k.os.trans h.os, k.tape.trans h.tape, k.output.trans h.output, Nat.le_trans h.size k.size, fun i hi hne => (k.block i hi).trans (h.block i hi hne)⟩
theorem WordsAt.below {w w' : World} {H B b : Nat} {ws : List ByteArray} {bad : Bool} (h : WordsAt w H b ws bad) (hb : Below B w w') (hB : H ≤ B) : WordsAt w' H b ws bad := by
  obtain ⟨h0, A, c, h1, h2, h3⟩ := h
  refine ⟨h0, A, c, (hb.block b (Nat.lt_of_lt_of_le h0 hB)).trans h1, h2.imp id ?_, h3⟩
  rintro ⟨g, o, rfl, hne, hg, hr⟩
  exact ⟨g, o, rfl, hne, hg, fun i x hx => (hb.cell (p := ⟨g, o + i, none⟩) (Nat.lt_of_lt_of_le hg hB)).trans (hr i x hx)⟩
theorem WordsAt.cells {w : World} {H b : Nat} {ws : List ByteArray} {bad : Bool} (h : WordsAt w H b ws bad) : ∃ A c, w.cell? ⟨b, 0, none⟩ = some (.slice A ws.length c) ∧ w.cell? ⟨b, 1, none⟩ = some (.bool bad) ∧ w.frozen? ⟨b, 0, none⟩ = false ∧ w.frozen? ⟨b, 1, none⟩ = false := by
  obtain ⟨_, A, c, h1, _⟩ := h
  exact ⟨A, c, (cell_of_row _ _ _ _ _ _ h1).trans rfl, (cell_of_row _ _ _ _ _ _ h1).trans rfl, frozen_of_row _ _ _ _ _ h1, frozen_of_row _ _ _ _ _ h1⟩
theorem WordsAt.setBad {w : World} {H b : Nat} {ws : List ByteArray} {bad : Bool} (h : WordsAt w H b ws bad) (bad' : Bool) : WordsAt (w.setCell ⟨b, 1, none⟩ (.bool bad')) H b ws bad' := by
  obtain ⟨h0, A, c, h1, h2, h3⟩ := h
  refine ⟨h0, A, c, by have := heap_setCell_same w b 1 _ _ (.bool bad') h1; simpa using this, h2.imp id ?_, h3⟩
  rintro ⟨g, o, rfl, hne, hg, hr⟩
  exact ⟨g, o, rfl, hne, hg, hr.grown (grown_set w b 1 _) (by simpa using hne)⟩
theorem WordsAt.tail {w : World} {H b g o c : Nat} {x : ByteArray} {ws : List ByteArray} {bad : Bool} (h0 : b < H) (h1 : w.heap[b]? = some (.cells #[.slice (some ⟨g, o, none⟩) (ws.length + 1) c, .bool bad] 68 (0, 0))) (hne : g ≠ b) (hg : g < H) (hr : StrsRow w g o (x :: ws)) (A : Option Addr) (c' : Nat) (hA : ws ≠ [] → A = some ⟨g, o + 1, none⟩) (hc' : ws.length ≤ c') :
    WordsAt (w.setCell ⟨b, 0, none⟩ (.slice A ws.length c')) H b ws bad := by
  refine ⟨h0, A, c', by have := heap_setCell_same w b 0 _ _ (.slice A ws.length c') h1; simpa using this, ?_, hc'⟩
  by_cases hw : ws = []
  · exact .inl hw
  · refine .inr ⟨g, o + 1, hA hw, hne, hg, fun i y hy => ?_⟩
    have := hr (i + 1) y (by simpa using hy)
    rw [show o + (i + 1) = o + 1 + i from by omega] at this
    exact (grown_set w b 0 _).cell this (by simpa using hne)

theorem next_any (H b : Nat) (ws : List ByteArray) (bad : Bool) (w : World) (h : WordsAt w H b ws bad) (hl : ws.length ≤ 1000000) :
    Calls Tryz.prog 22 #[.pointer (some ⟨b, 0, none⟩)] w fun e w' => e = .returned (.string (ws.headD ByteArray.empty)) ∧ WordsAt w' H b ws.tail (bad || ws.isEmpty) ∧ w.grownBy w' (some b) := by
  have hW := Lib.hid h
  rcases ws with _ | ⟨x, ws⟩
  · obtain ⟨A, c, c0, c1, f0, f1⟩ := h.cells
    clear h
    go_enter Tryz.func22, Tryz.ntmps22
    go_wp2_with fail
    go_ret
    exact ⟨rfl, by simpa using hW.out.setBad true, grown_set _ _ _ _⟩
  · obtain ⟨h0, A, c, hb, hr, hc⟩ := h
    obtain ⟨g, o, rfl, hne, hg, hrow⟩ := hr.resolve_left (by simp)
    have x0 : w.cell? ⟨g, o, none⟩ = some (.string x) := hrow 0 x rfl
    have HT : Hid (∀ (A : Option Addr) (c' : Nat), (ws ≠ [] → A = some ⟨g, o + 1, none⟩) → ws.length ≤ c' → WordsAt (w.setCell ⟨b, 0, none⟩ (.slice A ws.length c')) H b ws bad) := WordsAt.tail h0 hb hne hg hrow
    have c0 : w.cell? ⟨b, 0, none⟩ = some (.slice (some ⟨g, o, none⟩) (ws.length + 1) c) := (cell_of_row _ _ _ _ _ _ hb).trans rfl
    have f0 := frozen_of_row _ _ _ _ (j := 0) hb
    clear hr hb hrow hW h0 hg
    simp only [List.length_cons] at hc hl
    by_cases hc1 : c = 1
    · subst hc1
      obtain rfl : ws = [] := List.eq_nil_of_length_eq_zero (by omega)
      go_enter Tryz.func22, Tryz.ntmps22
      go_wp2_with fail
      go_ret
      exact ⟨rfl, by simpa using HT.out _ 0 (fun h => absurd rfl h) (Nat.zero_le _), grown_set _ _ _ _⟩
    · go_enter Tryz.func22, Tryz.ntmps22
      go_wp2_with fail
      go_ret
      exact ⟨rfl, by simpa using HT.out _ (c - 1) (fun _ => rfl) (by omega), grown_set _ _ _ _⟩

/-- What the shelf's contracts read of the world, and what never changes. -/
structure Grd (w : World) : Prop where
  synt : ∃ ev, w.cell? ⟨3, 0, none⟩ = some ev ∧ (ev = .nilIface ∨ ∃ te pe, ev = .iface te pe)
  rang : ∃ ev, w.cell? ⟨4, 0, none⟩ = some ev ∧ (ev = .nilIface ∨ ∃ te pe, ev = .iface te pe)
  maxl : ∃ m, w.cell? ⟨0, 0, none⟩ = some (.int .i64 m)
theorem Grd.below {w w' : World} {B : Nat} (h : Grd w) (hb : Below B w w') (hB : w.heap.size ≤ B) : Grd w' := by
  obtain ⟨⟨e1, a1, a2⟩, ⟨e2, b1, b2⟩, m, c1⟩ := h
  exact ⟨⟨e1, (hb.cell (p := ⟨_, 0, none⟩) (Nat.lt_of_lt_of_le (lt_of_cell a1) hB)).trans a1, a2⟩, ⟨e2, (hb.cell (p := ⟨_, 0, none⟩) (Nat.lt_of_lt_of_le (lt_of_cell b1) hB)).trans b1, b2⟩, m, (hb.cell (p := ⟨_, 0, none⟩) (Nat.lt_of_lt_of_le (lt_of_cell c1) hB)).trans c1⟩
/-- Bytes of a string. -/
def bL (x : ByteArray) : List UInt8 := x.data.toList
theorem tl_eq (x : ByteArray) : x.toList = x.data.toList := ByteArray.toList_eq x
theorem tl_ne {x : ByteArray} {l : List UInt8} (h : ¬ x = ⟨l.toArray⟩) : (x.toList == l) = false := by
  rw [tl_eq]
  refine beq_eq_false_iff_ne.2 (fun e => h ?_)
  subst e
  simp
/-- The contract of number: right figures are read right. -/
def NumSaid : Prop := ∀ (w0 : World) (H b : Nat) (ws : List ByteArray) (bad : Bool) (w : World), Grd w0 → Below w0.heap.size w0 w → w0.heap.size ≤ b → H ≤ w.heap.size → WordsAt w H b ws bad → ws.length ≤ 1000000 → (∀ x ∈ ws, x.size ≤ 1000000) →
  Calls Tryz.prog 46 #[.pointer (some ⟨b, 0, none⟩)] w fun e w' => ∃ (n : Int) (bad' : Bool), e = .returned (.int .u64 n) ∧ (0 ≤ n ∧ n < 18446744073709551616) ∧ WordsAt w' H b ws.tail bad' ∧ w.grownBy w' (some b) ∧
    (∀ (k : Nat) (r : List (List UInt8)), k < 18446744073709551616 → ws.map bL = Lib.decDigits k :: r → n = k ∧ bad' = bad)
end Go.Proofs.YtmgngapkgcofnaaGreatDoor
