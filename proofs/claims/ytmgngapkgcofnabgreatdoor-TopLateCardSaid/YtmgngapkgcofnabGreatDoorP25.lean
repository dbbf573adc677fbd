/- A policy's text in plain words: its lines, their words; two right policies have two texts. -/
import Derived.Test.YtmgngapkgcofnabGreatDoorP10
import Derived.Test.YtmgngapkgcofnabGreatDoorP19
import Derived.Test.YtmgngapkgcofnabGreatDoorP01
import Derived.Laws.AppendOwn
import Derived.Laws.BitsAllLaws
import Derived.Test.YtmgngapkgcofnabGreatDoorP09
import Derived.Lib.ParseIntBCases
import Derived.Lib.AtoiErrMem
import Derived.Lib.SplitLaws
import Derived.Lib.IndexBytes
namespace Go.Proofs.YtmgngapkgcofnabGreatDoor
open Go.Lib
def joinW (c : UInt8) : List (List UInt8) → List UInt8
 | [] => []
 | [a] => a
 | a :: b :: r => a ++ c :: joinW c (b :: r)
def cutW (c : UInt8) : List UInt8 → List (List UInt8)
 | [] => [[]]
 | b :: r => if b = c then [] :: cutW c r else match cutW c r with
  | [] => [[b]]
  | h :: t => (b :: h) :: t
theorem cutW_ne (c : UInt8) (l : List UInt8) : cutW c l ≠ [] := by
 cases l with
 | nil => simp [cutW]
 | cons b r =>
  rw [cutW]; split
  ·simp
  ·split <;> simp
theorem cutW_cons {c b : UInt8} {r h : List UInt8} {t : List (List UInt8)} (hb : b ≠ c) (hr : cutW c r = h :: t) : cutW c (b :: r) = (b :: h) :: t := by
 rw [cutW, if_neg hb, hr]
theorem cutW_app (c : UInt8) : ∀ (a r : List UInt8), (∀ b ∈ a, b ≠ c) → cutW c (a ++ c :: r) = a :: cutW c r
 | [], r, _ => by rw [List.nil_append, cutW, if_pos rfl]
 | x :: a, r, h => by
  rw [List.cons_append]; exact cutW_cons (h x (by simp)) (cutW_app c a r (fun b hb => h b (by simp [hb])))
theorem cutW_one (c : UInt8) : ∀ (a : List UInt8), (∀ b ∈ a, b ≠ c) → cutW c a = [a]
 | [], _ => rfl
 | x :: a, h => cutW_cons (h x (by simp)) (cutW_one c a (fun b hb => h b (by simp [hb])))
theorem cut_join (c : UInt8) : ∀ (ws : List (List UInt8)), ws ≠ [] → (∀ w ∈ ws, ∀ b ∈ w, b ≠ c) → cutW c (joinW c ws) = ws
 | [], h, _ => absurd rfl h
 | [a], _, h => cutW_one c a (h a (by simp))
 | a :: b :: r, _, h => by
  rw [joinW, cutW_app c a _ (h a (by simp)), cut_join c (b :: r) (by simp) (fun w hw => h w (by simp [List.mem_cons.1 hw]))]
theorem joinW_append (c : UInt8) : ∀ (a b : List (List UInt8)), a ≠ [] → b ≠ [] → joinW c (a ++ b) = joinW c a ++ c :: joinW c b
 | [], _, h, _ => absurd rfl h
 | [x], b, _, h => by
  cases b with
  | nil => exact absurd rfl h
  | cons y t => rfl
 | x :: y :: r, b, _, h => by
  have := joinW_append c (y :: r) b (by simp) h; simp only [List.cons_append] at this ⊢; rw [joinW, this, joinW, List.append_assoc, List.cons_append]
def wElse : List UInt8 := [101, 108, 115, 101]
def wAllow : List UInt8 := [97, 108, 108, 111, 119]
def wKill : List UInt8 := [107, 105, 108, 108]
def wDeny : List UInt8 := [100, 101, 110, 121]
def wIf : List UInt8 := [105, 102]
def wAnd : List UInt8 := [97, 110, 100]
def wMask : List UInt8 := [38]
def wEq : List UInt8 := [61, 61]
def wLike : List UInt8 := [126]
def wIn : List UInt8 := [105, 110]
def signW : Nat → List UInt8
 | 1 => [61, 61]
 | 2 => [33, 61]
 | 3 => [60]
 | 4 => [60, 61]
 | 5 => [62]
 | 6 => [62, 61]
 | _ => []
def nameW (nr : Nat) : List UInt8 := (formName nr).data.toList
def quoteW (g : ByteArray) : List UInt8 := 34 :: g.data.toList ++ [34]
def actW (k e : Int) : List (List UInt8) := if k = 1 then [wAllow] else if k = 3 then [wKill] else [wDeny, decDigits e.toNat]
def condW (x : CondD) : List (List UInt8) := decDigits x.arg.toNat :: (if x.op = 7 then [wMask, decDigits x.m.toNat, wEq, decDigits x.v.toNat] else if x.op = 8 then [wLike, quoteW x.glob] else if x.op = 9 then [wIn, textN x.net] else [signW x.op.toNat, decDigits x.v.toNat])
def condsW : Nat → List CondD → List (List UInt8)
 | _, [] => []
 | k, x :: r => (if k = 0 then wIf else wAnd) :: (condW x ++ condsW (k + 1) r)
def ruleW (r : RuleD) : List (List UInt8) := actW r.kind r.errno ++ nameW r.nr.toNat :: condsW 0 r.conds
def lineR (r : RuleD) : List UInt8 := joinW 32 (ruleW r)
def lineE (p : PolD) : List UInt8 := joinW 32 (wElse :: actW p.kind p.errno)
def linesP (p : PolD) : List (List UInt8) := lineE p :: (p.rules.map lineR ++ [[]])
def polT (p : PolD) : List UInt8 := joinW 10 (linesP p)
def ActRd (k e : Int) : Prop := (k = 1 ∧ e = 0) ∨ (k = 3 ∧ e = 0) ∨ (k = 2 ∧ 0 ≤ e ∧ e < 1000)
structure CondRd (x : CondD) : Prop where
 arg : 0 ≤ x.arg ∧ x.arg ≤ 3
 op : 1 ≤ x.op ∧ x.op ≤ 9
 v : 0 ≤ x.v ∧ x.v < 18446744073709551616
 m : 0 ≤ x.m ∧ x.m < 18446744073709551616
 m0 : x.op ≠ 7 → x.m = 0
 v0 : 7 < x.op → x.v = 0
 g0 : x.op ≠ 8 → x.glob = ByteArray.empty
 n0 : x.op ≠ 9 → x.net = ⟨0, 0, 0, 0⟩
 net : x.op = 9 → x.net.ok ∧ netF x.net = 0
structure RuleRd (r : RuleD) : Prop where
 act : ActRd r.kind r.errno
 nr : 0 ≤ r.nr ∧ r.nr ≤ 8
 con : ∀ x ∈ r.conds, CondRd x
def PolOk (p : PolD) : Prop := ∀ r ∈ p.rules, ∀ c ∈ r.conds, c.ok
theorem size_empty {g : ByteArray} (h : g.size = 0) : g = ByteArray.empty := by
 ext1
 exact Array.eq_empty_of_size_eq_zero h
theorem condRd_of {n : Nat} {x : CondD} (hok : x.ok) (h : condF n x = 0) : CondRd x := by
 obtain ⟨_, _, hv, hm, _, hn⟩ := hok; unfold condF at h; split at h
 ·omega
 ·rename_i h1; split at h
  ·omega
  ·rename_i h2; simp only [CondD.bad, not_or, ne_eq, not_and, Classical.not_not] at h2; obtain ⟨_, b1, b2, b3, b4⟩ := h2; refine ⟨by omega, by omega, hv, hm, b1, b2, fun k => size_empty (b3 k), b4, fun k => ⟨hn, ?_⟩⟩; rw [if_neg (by omega), if_pos k] at h; exact h
theorem actRd_of {k e : Int} (h : actF k e = 0) : ActRd k e := by
 unfold actF at h; unfold ActRd; split at h
 ·split at h <;> omega
 ·split at h
  ·split at h <;> omega
  ·omega
theorem ruleRd_of {r : RuleD} (hok : ∀ c ∈ r.conds, c.ok) (h : ruleF r = 0) : RuleRd r := by
 unfold ruleF at h; split at h
 ·omega
 ·rename_i h1; split at h
  ·omega
  ·split at h
   ·rename_i h3; exact absurd h h3
   ·rename_i h3; have h3' : firstNZ (condF r.nr.toNat) r.conds = 0 := by simpa using h3
    exact ⟨actRd_of h, by omega, fun x hx => condRd_of (hok x hx) (firstNZ_zero h3' x hx)⟩
theorem actW_inj {k e k' e' : Int} {r r' : List (List UInt8)} (h : ActRd k e) (h' : ActRd k' e') (he : actW k e ++ r = actW k' e' ++ r') : k = k' ∧ e = e' ∧ r = r' := by
 unfold actW at he; rcases h with ⟨rfl, rfl⟩ | ⟨rfl, rfl⟩ | ⟨rfl, h1, h2⟩ <;> rcases h' with ⟨rfl, rfl⟩ | ⟨rfl, rfl⟩ | ⟨rfl, h3, h4⟩ <;> simp [wAllow, wKill, wDeny] at he ⊢
 ·exact he
 ·exact he
 ·have := dec_inj he.1; exact ⟨by omega, he.2⟩
theorem signW_inj {a b : Int} (ha : 1 ≤ a ∧ a ≤ 6) (hb : 1 ≤ b ∧ b ≤ 6) (h : signW a.toNat = signW b.toNat) : a = b := by
 have h1 : a = 1 ∨ a = 2 ∨ a = 3 ∨ a = 4 ∨ a = 5 ∨ a = 6 := by omega
 have h2 : b = 1 ∨ b = 2 ∨ b = 3 ∨ b = 4 ∨ b = 5 ∨ b = 6 := by omega
 rcases h1 with rfl | rfl | rfl | rfl | rfl | rfl <;> rcases h2 with rfl | rfl | rfl | rfl | rfl | rfl <;> first | rfl | (exfalso; revert h; decide)
theorem signW_ne {a : Int} (ha : 1 ≤ a ∧ a ≤ 6) : signW a.toNat ≠ wMask ∧ signW a.toNat ≠ wLike ∧ signW a.toNat ≠ wIn ∧ signW a.toNat ≠ [] := by
 have h1 : a = 1 ∨ a = 2 ∨ a = 3 ∨ a = 4 ∨ a = 5 ∨ a = 6 := by omega
 rcases h1 with rfl | rfl | rfl | rfl | rfl | rfl <;> decide
theorem ba_ext {a b : ByteArray} (h : a.data.toList = b.data.toList) : a = b := by
 ext1
 exact Array.toList_inj.1 h
theorem quoteW_inj {a b : ByteArray} (h : quoteW a = quoteW b) : a = b := by
 unfold quoteW at h; simp only [List.cons_append, List.cons.injEq, true_and, List.append_cancel_right_eq] at h; exact ba_ext h
theorem condW_inj {x y : CondD} {r r' : List (List UInt8)} (hx : CondRd x) (hy : CondRd y) (he : condW x ++ r = condW y ++ r') : x = y ∧ r = r' := by
 unfold condW at he; simp only [List.cons_append, List.cons.injEq] at he; obtain ⟨h0, he⟩ := he; have ha : x.arg = y.arg := by have := dec_inj h0; have := hx.arg; have := hy.arg; omega
 have x1 := hx.op; have y1 := hy.op; have x2 := hx.v; have y2 := hy.v; have x3 := hx.m; have y3 := hy.m
 have key : x.op = y.op ∧ x.v = y.v ∧ x.m = y.m ∧ x.glob = y.glob ∧ x.net = y.net ∧ r = r' := by
  by_cases x7 : x.op = 7
  ·have xg := hx.g0 (by omega); have xn := hx.n0 (by omega); rw [if_pos x7] at he
   by_cases y7 : y.op = 7
   ·rw [if_pos y7] at he; simp only [List.cons_append, List.nil_append, List.cons.injEq, true_and] at he; have q1 := dec_inj he.1; have q2 := dec_inj he.2.1; exact ⟨by omega, by omega, by omega, by rw [xg, hy.g0 (by omega)], by rw [xn, hy.n0 (by omega)], he.2.2⟩
   ·rw [if_neg y7] at he; exfalso
    by_cases y8 : y.op = 8
    ·rw [if_pos y8] at he; simp [wMask, wLike] at he
    ·rw [if_neg y8] at he
     by_cases y9 : y.op = 9
     ·rw [if_pos y9] at he; simp [wMask, wIn] at he
     ·rw [if_neg y9] at he; simp only [List.cons_append, List.nil_append, List.cons.injEq] at he; exact (signW_ne ⟨y1.1, by omega⟩).1 he.1.symm
  ·rw [if_neg x7] at he; have xm := hx.m0 x7
   by_cases x8 : x.op = 8
   ·rw [if_pos x8] at he; have xv := hx.v0 (by omega); have xn := hx.n0 (by omega)
    by_cases y7 : y.op = 7
    ·rw [if_pos y7] at he; simp [wMask, wLike] at he
    ·rw [if_neg y7] at he; have ym := hy.m0 y7
     by_cases y8 : y.op = 8
     ·rw [if_pos y8] at he; simp only [List.cons_append, List.nil_append, List.cons.injEq, true_and] at he; exact ⟨by omega, by rw [xv, hy.v0 (by omega)], by omega, quoteW_inj he.1, by rw [xn, hy.n0 (by omega)], he.2⟩
     ·rw [if_neg y8] at he; exfalso
      by_cases y9 : y.op = 9
      ·rw [if_pos y9] at he; simp [wLike, wIn] at he
      ·rw [if_neg y9] at he; simp only [List.cons_append, List.nil_append, List.cons.injEq] at he; exact (signW_ne ⟨y1.1, by omega⟩).2.1 he.1.symm
   ·rw [if_neg x8] at he; have xg := hx.g0 x8
    by_cases x9 : x.op = 9
    ·rw [if_pos x9] at he; have xv := hx.v0 (by omega)
     by_cases y7 : y.op = 7
     ·rw [if_pos y7] at he; simp [wMask, wIn] at he
     ·rw [if_neg y7] at he; have ym := hy.m0 y7
      by_cases y8 : y.op = 8
      ·rw [if_pos y8] at he; simp [wLike, wIn] at he
      ·rw [if_neg y8] at he; have yg := hy.g0 y8
       by_cases y9 : y.op = 9
       ·rw [if_pos y9] at he; simp only [List.cons_append, List.nil_append, List.cons.injEq, true_and] at he; obtain ⟨k1, k2⟩ := hx.net x9; obtain ⟨k3, k4⟩ := hy.net y9; exact ⟨by omega, by rw [xv, hy.v0 (by omega)], by omega, by rw [xg, yg], textN_inj k1 k3 k2 k4 he.1, he.2⟩
       ·rw [if_neg y9] at he; exfalso; simp only [List.cons_append, List.nil_append, List.cons.injEq] at he; exact (signW_ne ⟨y1.1, by omega⟩).2.2.1 he.1.symm
    ·rw [if_neg x9] at he; have xn := hx.n0 x9
     by_cases y7 : y.op = 7
     ·rw [if_pos y7] at he; exfalso; simp only [List.cons_append, List.nil_append, List.cons.injEq] at he; exact (signW_ne ⟨x1.1, by omega⟩).1 he.1
     ·rw [if_neg y7] at he; have ym := hy.m0 y7
      by_cases y8 : y.op = 8
      ·rw [if_pos y8] at he; exfalso; simp only [List.cons_append, List.nil_append, List.cons.injEq] at he; exact (signW_ne ⟨x1.1, by omega⟩).2.1 he.1
      ·rw [if_neg y8] at he; have yg := hy.g0 y8
       by_cases y9 : y.op = 9
       ·rw [if_pos y9] at he; exfalso; simp only [List.cons_append, List.nil_append, List.cons.injEq] at he; exact (signW_ne ⟨x1.1, by omega⟩).2.2.1 he.1
       ·rw [if_neg y9] at he; simp only [List.cons_append, List.nil_append, List.cons.injEq] at he; have q1 := signW_inj ⟨x1.1, by omega⟩ ⟨y1.1, by omega⟩ he.1; have q2 := dec_inj he.2.1; exact ⟨q1, by omega, by omega, by rw [xg, yg], by rw [xn, hy.n0 y9], he.2.2⟩
 obtain ⟨k1, k2, k3, k4, k5, k6⟩ := key; refine ⟨?_, k6⟩
 cases x; cases y
 simp only at ha k1 k2 k3 k4 k5; rw [ha, k1, k2, k3, k4, k5]
theorem condsW_split : ∀ (cs : List CondD) (k : Nat) (ds : List CondD) (r : List (List UInt8)), (∀ x ∈ cs, CondRd x) → (∀ x ∈ ds, CondRd x) → condsW k cs ++ r = condsW k ds → ∃ ds', ds = cs ++ ds' ∧ r = condsW (k + cs.length) ds'
 | [], k, ds, r, _, _, h => ⟨ds, rfl, h⟩
 | x :: cs, k, ds, r, hc, hd, h => by
  cases ds with
  | nil => simp [condsW] at h
  | cons y ds =>
   simp only [condsW, List.cons_append, List.cons.injEq, true_and, List.append_assoc] at h; obtain ⟨rfl, h2⟩ := condW_inj (hc x (by simp)) (hd y (by simp)) h; obtain ⟨ds', e1, e2⟩ := condsW_split cs (k + 1) ds r (fun x hx => hc x (by simp [hx])) (fun x hx => hd x (by simp [hx])) h2; exact ⟨ds', by rw [e1]; rfl, by rw [e2, List.length_cons]; congr 1; omega⟩
theorem nameW_inj {a b : Nat} (ha : a ≤ 8) (hb : b ≤ 8) (h : nameW a = nameW b) : a = b := by
 have h1 : a = 0 ∨ a = 1 ∨ a = 2 ∨ a = 3 ∨ a = 4 ∨ a = 5 ∨ a = 6 ∨ a = 7 ∨ a = 8 := by omega
 have h2 : b = 0 ∨ b = 1 ∨ b = 2 ∨ b = 3 ∨ b = 4 ∨ b = 5 ∨ b = 6 ∨ b = 7 ∨ b = 8 := by omega
 rcases h1 with rfl | rfl | rfl | rfl | rfl | rfl | rfl | rfl | rfl <;> rcases h2 with rfl | rfl | rfl | rfl | rfl | rfl | rfl | rfl | rfl <;> first | rfl | (exfalso; revert h; decide)
theorem ruleW_inj {r s : RuleD} (hr : RuleRd r) (hs : RuleRd s) (h : ruleW r = ruleW s) : r = s := by
 unfold ruleW at h; obtain ⟨e1, e2, h⟩ := actW_inj hr.act hs.act h; simp only [List.cons.injEq] at h; have e3 := nameW_inj (by have := hr.nr; omega) (by have := hs.nr; omega) h.1; obtain ⟨ds, e4, e5⟩ := condsW_split r.conds 0 s.conds [] hr.con hs.con (by rw [List.append_nil]; exact h.2)
 have e6 : ds = [] := by
  cases ds with
  | nil => rfl
  | cons x t => simp [condsW] at e5
 rw [e6, List.append_nil] at e4; have h1 := hr.nr; have h2 := hs.nr
 cases r; cases s
 simp only at e1 e2 e3 e4 h1 h2; rw [e1, e2, e4]
 congr 1
 omega
def Clean (l : List UInt8) : Prop := ∀ b ∈ l, b ≠ 32 ∧ b ≠ 10
instance (l : List UInt8) : Decidable (Clean l) := by unfold Clean; infer_instance
theorem dec_clean (n : Nat) : Clean (decDigits n) := fun b hb => by
 have := decDigits_dig n b hb; constructor <;> (rintro rfl; revert this; decide)
theorem joinT_mem : ∀ (cs : List UInt8) (ks : List Nat) (b : UInt8), b ∈ joinT cs ks → isDig b = true ∨ b ∈ cs
 | [], [k], b, h => .inl (decDigits_dig k b h)
 | [], [], b, h => by simp [joinT] at h
 | [], _ :: _ :: _, b, h => by simp [joinT] at h
 | c :: cs, [], b, h => by simp [joinT] at h
 | c :: cs, k :: ks, b, h => by
  rw [joinT] at h; rcases List.mem_append.1 h with h | h
  ·exact .inl (decDigits_dig k b h)
  ·rcases List.mem_cons.1 h with rfl | h
   ·exact .inr (by simp)
   ·rcases joinT_mem cs ks b h with h | h
    ·exact .inl h
    ·exact .inr (by simp [h])
theorem textN_clean (x : NetD) : Clean (textN x) := fun b hb => by
 rcases joinT_mem _ _ b hb with h | h
 ·constructor <;> (rintro rfl; revert h; decide)
 ·constructor <;> (rintro rfl; revert h; decide)
def goodB (x : Int) : Prop := 32 < x ∧ x < 127 ∧ x ≠ 34
theorem member_good {x : Int} (h : memberF x = true) : goodB x := by simp only [memberF, decide_eq_true_eq] at h; unfold goodB; omega
theorem plain_good {x : Int} (h : plainF x = true) : goodB x := by simp only [plainF, decide_eq_true_eq] at h; unfold goodB; omega
theorem special_good {x : Int} (h : specialF x = true) : goodB x := by simp only [specialF, decide_eq_true_eq] at h; unfold goodB; omega
theorem classL_clean (not : Bool) : ∀ (m : Nat) (n : Bool) (l : List Int) (f : Nat → Bool) (g : Nat → Bool) (r : List Int), l.length ≤ m → classL not n l f = some (g, r) → ∀ x ∈ l, x ∈ r ∨ goodB x := by
 intro m
 induction m with
 | zero => intro n l f g r hl h; rcases l with _ | ⟨x, l⟩ <;> simp [classL] at h hl
 | succ m ih =>
  intro n l f g r hl h; have g93 : goodB 93 := by unfold goodB; omega
  have g45 : goodB 45 := by unfold goodB; omega
  rcases l with _ | ⟨x, _ | ⟨y, l⟩⟩
  ·simp [classL] at h
  ·simp only [classL] at h; split at h
   ·rename_i e; subst e; intro z hz; rcases List.mem_singleton.1 hz with rfl; exact .inr g93
   ·simp at h
  ·rcases l with _ | ⟨z, l⟩
   ·simp only [classL] at h; split at h
    ·rename_i e; subst e; split at h
     ·obtain ⟨_, rfl⟩ := by simpa using h
      intro t ht; rcases List.mem_cons.1 ht with rfl | ht
      ·exact .inr g93
      ·exact .inl ht
     ·simp at h
    ·split at h
     ·simp at h
     ·rename_i hm; split at h
      ·rename_i e; subst e; simp only [Bool.not_eq_false] at hm; simp only [if_true, Option.some.injEq, Prod.mk.injEq] at h; intro t ht; rcases List.mem_cons.1 ht with rfl | ht
       ·exact .inr (member_good hm)
       ·rcases List.mem_singleton.1 ht with rfl; exact .inr g93
      ·simp at h
   ·simp only [classL] at h; split at h
    ·rename_i e; subst e; split at h
     ·obtain ⟨_, rfl⟩ := by simpa using h
      intro t ht; rcases List.mem_cons.1 ht with rfl | ht
      ·exact .inr g93
      ·exact .inl ht
     ·simp at h
    ·split at h
     ·simp at h
     ·rename_i hm; simp only [Bool.not_eq_false] at hm; split at h
      ·rename_i e; subst e; split at h
       ·simp at h
       ·rename_i hz; simp only [not_or, Bool.not_eq_false] at hz; have := ih _ _ _ _ _ (by simp at hl ⊢; omega) h; intro t ht; rcases List.mem_cons.1 ht with rfl | ht
        ·exact .inr (member_good hm)
        ·rcases List.mem_cons.1 ht with rfl | ht
         ·exact .inr g45
         ·rcases List.mem_cons.1 ht with rfl | ht
          ·exact .inr (member_good hz.1)
          ·exact this t ht
      ·have := ih _ _ _ _ _ (by simp at hl ⊢; omega) h; intro t ht; rcases List.mem_cons.1 ht with rfl | ht
       ·exact .inr (member_good hm)
       ·exact this t ht
theorem classF_clean {l : List Int} {p : Part} {r : List Int} (h : classF l = some (p, r)) : ∀ x ∈ l, x ∈ r ∨ goodB x := by
 unfold classF at h; simp only [Option.map_eq_some_iff] at h; obtain ⟨⟨g, r'⟩, h1, h2⟩ := h; obtain ⟨_, rfl⟩ : _ ∧ r' = r := by simpa using h2
 split at h1
 ·intro t ht; rcases List.mem_cons.1 ht with rfl | ht
  ·exact .inr (by unfold goodB; omega)
  ·exact classL_clean _ _ _ _ _ _ _ (Nat.le_refl _) h1 t ht
 ·exact classL_clean _ _ _ _ _ _ _ (Nat.le_refl _) h1
theorem partL_clean {l : List Int} {p : Part} {r : List Int} (h : partL l = some (p, r)) : ∀ x ∈ l, x ∈ r ∨ goodB x := by
 cases l with
 | nil => simp [partL] at h
 | cons c l =>
  have hc : goodB c → (∀ x ∈ l, x ∈ r ∨ goodB x) → ∀ x ∈ c :: l, x ∈ r ∨ goodB x := fun h1 h2 x hx => by
   rcases List.mem_cons.1 hx with rfl | hx
   ·exact .inr h1
   ·exact h2 x hx
  unfold partL at h; simp only at h; split at h
  ·rename_i e; subst e; refine hc (by unfold goodB; omega) ?_; split at h
   ·obtain ⟨_, rfl⟩ : _ ∧ _ = r := by simpa using h
    intro x hx; rcases List.mem_cons.1 hx with rfl | hx
    ·exact .inr (by unfold goodB; omega)
    ·exact .inl hx
   ·obtain ⟨_, rfl⟩ : _ ∧ _ = r := by simpa using h
    exact fun x hx => .inl hx
  ·split at h
   ·rename_i e; subst e; obtain ⟨_, rfl⟩ : _ ∧ _ = r := by simpa using h
    exact hc (by unfold goodB; omega) (fun x hx => .inl hx)
   ·split at h
    ·rename_i e; subst e; exact hc (by unfold goodB; omega) (classF_clean h)
    ·split at h
     ·rename_i e; subst e; refine hc (by unfold goodB; omega) ?_; split at h
      ·split at h
       ·rename_i hs; obtain ⟨_, rfl⟩ : _ ∧ _ = r := by simpa using h
        intro x hx; rcases List.mem_cons.1 hx with rfl | hx
        ·exact .inr (special_good hs)
        ·exact .inl hx
       ·simp at h
      ·simp at h
     ·split at h
      ·rename_i hp; obtain ⟨_, rfl⟩ : _ ∧ _ = r := by simpa using h
       exact hc (plain_good hp) (fun x hx => .inl hx)
      ·simp at h
theorem partsL_clean : ∀ (n : Nat) (l : List Int) (ps : List Part), partsL n l = some ps → ∀ x ∈ l, goodB x
 | _, [], _, _, x, hx => by simp at hx
 | 0, c :: r, ps, h, _, _ => by simp [partsL] at h
 | n + 1, c :: r, ps, h, x, hx => by
  simp only [partsL, Option.bind_eq_some_iff, Option.map_eq_some_iff] at h; obtain ⟨⟨p, r'⟩, h1, ps', h2, _⟩ := h; rcases partL_clean h1 x hx with h3 | h3
  ·exact partsL_clean n r' ps' h2 x h3
  ·exact h3
theorem globF_clean {g : ByteArray} (h : globF (bytesOf g) = 0) : (∀ b ∈ g.data.toList, b ≠ 32 ∧ b ≠ 10 ∧ b ≠ 34) := fun b hb => by
 have hg : goodB (b.toNat : Int) := by
  unfold globF at h; split at h
  ·omega
  ·split at h
   ·omega
   ·split at h
    ·rename_i ps hp; exact partsL_clean _ _ _ hp _ (by unfold bytesOf; exact List.mem_map.2 ⟨b, hb, rfl⟩)
    ·omega
 unfold goodB at hg; refine ⟨?_, ?_, ?_⟩ <;> (rintro rfl; revert hg; decide)
theorem actW_clean (k e : Int) : ∀ w ∈ actW k e, Clean w := fun w hw => by
 unfold actW at hw; split at hw
 ·obtain rfl := List.mem_singleton.1 hw; decide
 ·split at hw
  ·obtain rfl := List.mem_singleton.1 hw; decide
  ·rcases List.mem_cons.1 hw with rfl | hw
   ·decide
   ·obtain rfl := List.mem_singleton.1 hw; exact dec_clean _
theorem signW_clean (n : Nat) : Clean (signW n) := by
 unfold signW; split <;> decide
theorem condW_clean {n : Nat} {x : CondD} (h : condF n x = 0) : ∀ w ∈ condW x, Clean w := fun w hw => by
 unfold condW at hw; rcases List.mem_cons.1 hw with rfl | hw
 ·exact dec_clean _
 ·split at hw
  ·simp only [List.mem_cons, List.not_mem_nil, or_false] at hw; rcases hw with rfl | rfl | rfl | rfl
   ·decide
   ·exact dec_clean _
   ·decide
   ·exact dec_clean _
  ·split at hw
   ·rename_i h8; simp only [List.mem_cons, List.not_mem_nil, or_false] at hw; rcases hw with rfl | rfl
    ·decide
    ·have hg : globF (bytesOf x.glob) = 0 := by
      unfold condF at h; split at h
      ·omega
      ·split at h
       ·omega
       ·exact h
     intro b hb; unfold quoteW at hb; simp only [List.cons_append, List.mem_cons, List.mem_append, List.not_mem_nil, or_false] at hb; rcases hb with rfl | hb | rfl
     ·decide
     ·exact ⟨(globF_clean hg b hb).1, (globF_clean hg b hb).2.1⟩
     ·decide
   ·split at hw
    ·simp only [List.mem_cons, List.not_mem_nil, or_false] at hw; rcases hw with rfl | rfl
     ·decide
     ·exact textN_clean _
    ·simp only [List.mem_cons, List.not_mem_nil, or_false] at hw; rcases hw with rfl | rfl
     ·exact signW_clean _
     ·exact dec_clean _
theorem condsW_clean {n : Nat} : ∀ (cs : List CondD) (k : Nat), (∀ x ∈ cs, condF n x = 0) → ∀ w ∈ condsW k cs, Clean w
 | [], _, _, w, hw => by simp [condsW] at hw
 | x :: cs, k, h, w, hw => by
  rw [condsW] at hw; rcases List.mem_cons.1 hw with rfl | hw
  ·split <;> decide
  ·rcases List.mem_append.1 hw with hw | hw
   ·exact condW_clean (h x (by simp)) w hw
   ·exact condsW_clean cs (k + 1) (fun y hy => h y (by simp [hy])) w hw
theorem nameW_clean (n : Nat) (h : n ≤ 8) : Clean (nameW n) := by
 have h1 : n = 0 ∨ n = 1 ∨ n = 2 ∨ n = 3 ∨ n = 4 ∨ n = 5 ∨ n = 6 ∨ n = 7 ∨ n = 8 := by omega
 rcases h1 with rfl | rfl | rfl | rfl | rfl | rfl | rfl | rfl | rfl <;> decide
theorem ruleF_conds {r : RuleD} (h : ruleF r = 0) : ∀ x ∈ r.conds, condF r.nr.toNat x = 0 := by
 unfold ruleF at h; split at h
 ·omega
 ·split at h
  ·omega
  ·split at h
   ·rename_i h3; exact absurd h h3
   ·rename_i h3; have h3' : firstNZ (condF r.nr.toNat) r.conds = 0 := by simpa using h3
    exact fun x hx => firstNZ_zero h3' x hx
theorem ruleW_clean {r : RuleD} (h : ruleF r = 0) : ∀ w ∈ ruleW r, Clean w := fun w hw => by
 have hn := ruleF_zero h; unfold ruleW at hw; rcases List.mem_append.1 hw with hw | hw
 ·exact actW_clean _ _ w hw
 ·rcases List.mem_cons.1 hw with rfl | hw
  ·exact nameW_clean _ (by omega)
  ·exact condsW_clean r.conds 0 (ruleF_conds h) w hw
theorem joinW_mem {c : UInt8} : ∀ (ws : List (List UInt8)) (b : UInt8), b ∈ joinW c ws → b = c ∨ ∃ w ∈ ws, b ∈ w
 | [], b, h => by simp [joinW] at h
 | [a], b, h => .inr ⟨a, by simp, h⟩
 | a :: x :: r, b, h => by
  rw [joinW] at h; rcases List.mem_append.1 h with h | h
  ·exact .inr ⟨a, by simp, h⟩
  ·rcases List.mem_cons.1 h with h | h
   ·exact .inl h
   ·rcases joinW_mem (x :: r) b h with h | ⟨w, hw, hb⟩
    ·exact .inl h
    ·exact .inr ⟨w, by simp [List.mem_cons.1 hw], hb⟩
theorem ruleW_ne (r : RuleD) : ruleW r ≠ [] := by unfold ruleW; simp
theorem cut_line {r : RuleD} (h : ruleF r = 0) : cutW 32 (lineR r) = ruleW r :=
 cut_join 32 _ (ruleW_ne r) (fun w hw b hb => (ruleW_clean h w hw b hb).1)
theorem cut_else (p : PolD) : cutW 32 (lineE p) = wElse :: actW p.kind p.errno := by
 refine cut_join 32 _ (by simp) (fun w hw b hb => ?_); rcases List.mem_cons.1 hw with rfl | hw
 ·revert b; decide
 ·exact (actW_clean _ _ w hw b hb).1
theorem cut_pol {p : PolD} (h : polF p = 0) : cutW 10 (polT p) = linesP p := by
 obtain ⟨_, _, hr⟩ := polF_zero h; refine cut_join 10 _ (by simp [linesP]) (fun w hw b hb => ?_); unfold linesP at hw; rcases List.mem_cons.1 hw with rfl | hw
 ·unfold lineE at hb; rcases joinW_mem _ b hb with rfl | ⟨v, hv, hb⟩
  ·decide
  ·rcases List.mem_cons.1 hv with rfl | hv
   ·exact (by decide : ∀ b ∈ wElse, b ≠ 10) b hb
   ·exact (actW_clean _ _ v hv b hb).2
 ·rcases List.mem_append.1 hw with hw | hw
  ·obtain ⟨r, hr1, rfl⟩ := List.mem_map.1 hw; unfold lineR at hb; rcases joinW_mem _ b hb with rfl | ⟨v, hv, hb⟩
   ·decide
   ·exact (ruleW_clean (hr r hr1) v hv b hb).2
  ·obtain rfl := List.mem_singleton.1 hw; simp at hb
theorem lineR_inj {r s : RuleD} (hr : ruleF r = 0) (kr : ∀ c ∈ r.conds, c.ok) (hs : ruleF s = 0) (ks : ∀ c ∈ s.conds, c.ok) (h : lineR r = lineR s) : r = s := by
 have := cut_line hr; rw [h, cut_line hs] at this; exact (ruleW_inj (ruleRd_of ks hs) (ruleRd_of kr hr) this).symm
theorem lines_inj : ∀ (a b : List RuleD), (∀ r ∈ a, ruleF r = 0 ∧ ∀ c ∈ r.conds, c.ok) → (∀ r ∈ b, ruleF r = 0 ∧ ∀ c ∈ r.conds, c.ok) → a.map lineR = b.map lineR → a = b
 | [], [], _, _, _ => rfl
 | [], _ :: _, _, _, h => by simp at h
 | _ :: _, [], _, _, h => by simp at h
 | x :: a, y :: b, ha, hb, h => by
  simp only [List.map_cons, List.cons.injEq] at h; obtain ⟨p1, p2⟩ := ha x (by simp); obtain ⟨q1, q2⟩ := hb y (by simp); rw [lineR_inj p1 p2 q1 q2 h.1, lines_inj a b (fun r hr => ha r (by simp [hr])) (fun r hr => hb r (by simp [hr])) h.2]
theorem polT_inj {p q : PolD} (hp : PolOk p) (hq : PolOk q) (kp : polF p = 0) (kq : polF q = 0) (h : polT p = polT q) : p = q := by
 have h1 := cut_pol kp; rw [h, cut_pol kq] at h1; obtain ⟨_, a1, r1⟩ := polF_zero kp; obtain ⟨_, a2, r2⟩ := polF_zero kq; unfold linesP at h1; simp only [List.cons.injEq, List.append_cancel_right_eq] at h1; have e1 := lines_inj q.rules p.rules (fun r hr => ⟨r2 r hr, hq r hr⟩) (fun r hr => ⟨r1 r hr, hp r hr⟩) h1.2; have e2 := cut_else q; rw [h1.1, cut_else p] at e2
 simp only [List.cons.injEq, true_and] at e2; obtain ⟨e3, e4, _⟩ := actW_inj (r := []) (r' := []) (actRd_of a1) (actRd_of a2) (by rw [e2])
 cases p; cases q
 simp only at e1 e3 e4; rw [e1, e3, e4]
def ReadP (l : List UInt8) : Option PolD → Prop
 | some p => PolOk p ∧ polF p = 0 ∧ l = polT p
 | none => ∀ p : PolD, PolOk p → polF p = 0 → l ≠ polT p
theorem ReadP.same {l : List UInt8} : ∀ {a b : Option PolD}, ReadP l a → ReadP l b → a = b
 | none, none, _, _ => rfl
 | some x, none, h, k => absurd h.2.2 (k x h.1 h.2.1)
 | none, some y, h, k => absurd k.2.2 (h y k.1 k.2.1)
 | some x, some y, h, k => by rw [polT_inj h.1 k.1 h.2.1 k.2.1 (h.2.2.symm.trans k.2.2)]
end Go.Proofs.YtmgngapkgcofnabGreatDoor
namespace Go.Proofs.YtmgngapkgcofnabGreatDoor
open Go.RowKit
def StrsRow (w : World) (g o : Nat) (ws : List ByteArray) : Prop := ∀ (i : Nat) (x : ByteArray), ws[i]? = some x → w.cell? ⟨g, o + i, none⟩ = some (.string x)
def WordsAt (w : World) (H b : Nat) (ws : List ByteArray) (bad : Bool) : Prop :=
 b < H ∧ ∃ A c, w.heap[b]? = some (.cells #[.slice A ws.length c, .bool bad] 188 (0, 0)) ∧ (ws = [] ∨ ∃ g o, A = some ⟨g, o, none⟩ ∧ g ≠ b ∧ g < H ∧ StrsRow w g o ws) ∧ ws.length ≤ c
theorem lt_of_cell {w : World} {b o : Nat} {v : Value} (h : w.cell? ⟨b, o, none⟩ = some v) : b < w.heap.size := World.block_lt_of_cell? w ⟨b, o, none⟩ h
theorem lt_of_block {w : World} {b : Nat} {o : Obj} (h : w.heap[b]? = some o) : b < w.heap.size := (Array.getElem?_eq_some_iff.1 h).1
theorem StrsRow.grown {w w' : World} {g o : Nat} {ws : List ByteArray} {r : Option Nat} (h : StrsRow w g o ws) (hg : w.grownBy w' r) (hne : some g ≠ r) : StrsRow w' g o ws := fun i x hx => hg.cell (h i x hx) hne
theorem grown_of_below {w w' : World} {r : Option Nat} (h : Below w.heap.size w w') : w.grownBy w' r := ⟨h.os, h.tape, h.output, h.size, fun k hk _ => h.block k hk⟩
theorem grown_trans {a b c : World} {r : Option Nat} (h : a.grownBy b r) (k : b.grownBy c r) : a.grownBy c r := ⟨k.os.trans h.os, k.tape.trans h.tape, k.output.trans h.output, Nat.le_trans h.size k.size, fun i hi hne => (k.block i (Nat.lt_of_lt_of_le hi h.size) hne).trans (h.block i hi hne)⟩
theorem grown_set (w : World) (b i : Nat) (u : Value) : w.grownBy (w.setCell ⟨b, i, none⟩ u) (some b) := by
 have h : Below b w (w.setCell ⟨b, i, none⟩ u) := (Below.refl b w).setCell (p := ⟨b, i, none⟩) (Nat.le_refl _) u; refine ⟨h.os, h.tape, h.output, h.size, fun k hk hne => ?_⟩; exact heap_setCell_other w ⟨b, i, none⟩ k u (fun e => hne (by rw [e]))
theorem below_of_grown {B b : Nat} {a w w' : World} (h : Below B a w) (hg : w.grownBy w' (some b)) (hb : B ≤ b) (hs : B ≤ w.heap.size) : Below B a w' := by
 refine ⟨hg.os.trans h.os, hg.tape.trans h.tape, hg.output.trans h.output, Nat.le_trans h.size hg.size, fun k hk => ?_⟩; exact (hg.block k (Nat.lt_of_lt_of_le hk hs) (fun e => by simp only [Option.some.injEq] at e; omega)).trans (h.block k hk)
theorem growB {w W1 W2 : World} {b : Nat} (h : w.grownBy W1 (some b)) (k : Below w.heap.size W1 W2) : w.grownBy W2 (some b) :=
 ⟨k.os.trans h.os, k.tape.trans h.tape, k.output.trans h.output, Nat.le_trans h.size k.size, fun i hi hne => (k.block i hi).trans (h.block i hi hne)⟩
theorem WordsAt.below {w w' : World} {H B b : Nat} {ws : List ByteArray} {bad : Bool} (h : WordsAt w H b ws bad) (hb : Below B w w') (hB : H ≤ B) : WordsAt w' H b ws bad := by
 obtain ⟨h0, A, c, h1, h2, h3⟩ := h; refine ⟨h0, A, c, (hb.block b (Nat.lt_of_lt_of_le h0 hB)).trans h1, h2.imp id ?_, h3⟩; rintro ⟨g, o, rfl, hne, hg, hr⟩; exact ⟨g, o, rfl, hne, hg, fun i x hx => (hb.cell (p := ⟨g, o + i, none⟩) (Nat.lt_of_lt_of_le hg hB)).trans (hr i x hx)⟩
theorem WordsAt.cells {w : World} {H b : Nat} {ws : List ByteArray} {bad : Bool} (h : WordsAt w H b ws bad) : ∃ A c, w.cell? ⟨b, 0, none⟩ = some (.slice A ws.length c) ∧ w.cell? ⟨b, 1, none⟩ = some (.bool bad) ∧ w.frozen? ⟨b, 0, none⟩ = false ∧ w.frozen? ⟨b, 1, none⟩ = false := by
 obtain ⟨_, A, c, h1, _⟩ := h; exact ⟨A, c, (cell_of_row _ _ _ _ _ _ h1).trans rfl, (cell_of_row _ _ _ _ _ _ h1).trans rfl, frozen_of_row _ _ _ _ _ h1, frozen_of_row _ _ _ _ _ h1⟩
theorem WordsAt.setBad {w : World} {H b : Nat} {ws : List ByteArray} {bad : Bool} (h : WordsAt w H b ws bad) (bad' : Bool) : WordsAt (w.setCell ⟨b, 1, none⟩ (.bool bad')) H b ws bad' := by
 obtain ⟨h0, A, c, h1, h2, h3⟩ := h; refine ⟨h0, A, c, by have := heap_setCell_same w b 1 _ _ (.bool bad') h1; simpa using this, h2.imp id ?_, h3⟩; rintro ⟨g, o, rfl, hne, hg, hr⟩; exact ⟨g, o, rfl, hne, hg, hr.grown (grown_set w b 1 _) (by simpa using hne)⟩
theorem WordsAt.tail {w : World} {H b g o c : Nat} {x : ByteArray} {ws : List ByteArray} {bad : Bool} (h0 : b < H) (h1 : w.heap[b]? = some (.cells #[.slice (some ⟨g, o, none⟩) (ws.length + 1) c, .bool bad] 188 (0, 0))) (hne : g ≠ b) (hg : g < H) (hr : StrsRow w g o (x :: ws)) (A : Option Addr) (c' : Nat) (hA : ws ≠ [] → A = some ⟨g, o + 1, none⟩) (hc' : ws.length ≤ c') :
  WordsAt (w.setCell ⟨b, 0, none⟩ (.slice A ws.length c')) H b ws bad := by
 refine ⟨h0, A, c', by have := heap_setCell_same w b 0 _ _ (.slice A ws.length c') h1; simpa using this, ?_, hc'⟩
 by_cases hw : ws = []
 ·exact .inl hw
 ·refine .inr ⟨g, o + 1, hA hw, hne, hg, fun i y hy => ?_⟩; have := hr (i + 1) y (by simpa using hy); rw [show o + (i + 1) = o + 1 + i from by omega] at this; exact (grown_set w b 0 _).cell this (by simpa using hne)
theorem next_any (H b : Nat) (ws : List ByteArray) (bad : Bool) (w : World) (h : WordsAt w H b ws bad) (hl : ws.length ≤ 1000000) :
  Calls Tryz.prog 86 #[.pointer (some ⟨b, 0, none⟩)] w fun e w' => e = .returned (.string (ws.headD ByteArray.empty)) ∧ WordsAt w' H b ws.tail (bad || ws.isEmpty) ∧ w.grownBy w' (some b) := by
 have hW := Lib.hid h; rcases ws with _ | ⟨x, ws⟩
 ·obtain ⟨A, c, c0, c1, f0, f1⟩ := h.cells; clear h; go_enter Tryz.func86, Tryz.ntmps86
  go_wp2_with fail; go_ret; exact ⟨rfl, by simpa using hW.out.setBad true, grown_set _ _ _ _⟩
 ·obtain ⟨h0, A, c, hb, hr, hc⟩ := h; obtain ⟨g, o, rfl, hne, hg, hrow⟩ := hr.resolve_left (by simp); have x0 : w.cell? ⟨g, o, none⟩ = some (.string x) := hrow 0 x rfl; have HT : Hid (∀ (A : Option Addr) (c' : Nat), (ws ≠ [] → A = some ⟨g, o + 1, none⟩) → ws.length ≤ c' → WordsAt (w.setCell ⟨b, 0, none⟩ (.slice A ws.length c')) H b ws bad) := WordsAt.tail h0 hb hne hg hrow
  have c0 : w.cell? ⟨b, 0, none⟩ = some (.slice (some ⟨g, o, none⟩) (ws.length + 1) c) := (cell_of_row _ _ _ _ _ _ hb).trans rfl; have f0 := frozen_of_row _ _ _ _ (j := 0) hb; clear hr hb hrow hW h0 hg; simp only [List.length_cons] at hc hl
  by_cases hc1 : c = 1
  ·subst hc1; obtain rfl : ws = [] := List.eq_nil_of_length_eq_zero (by omega); go_enter Tryz.func86, Tryz.ntmps86
   go_wp2_with fail; go_ret; exact ⟨rfl, by simpa using HT.out _ 0 (fun h => absurd rfl h) (Nat.zero_le _), grown_set _ _ _ _⟩
  ·go_enter Tryz.func86, Tryz.ntmps86
   go_wp2_with fail; go_ret; exact ⟨rfl, by simpa using HT.out _ (c - 1) (fun _ => rfl) (by omega), grown_set _ _ _ _⟩
structure Grd (w : World) : Prop where
 synt : ∃ ev, w.cell? ⟨1, 0, none⟩ = some ev ∧ (ev = .nilIface ∨ ∃ te pe, ev = .iface te pe)
 rang : ∃ ev, w.cell? ⟨2, 0, none⟩ = some ev ∧ (ev = .nilIface ∨ ∃ te pe, ev = .iface te pe)
 maxl : ∃ m, w.cell? ⟨0, 0, none⟩ = some (.int .i64 m)
theorem Grd.below {w w' : World} {B : Nat} (h : Grd w) (hb : Below B w w') (hB : w.heap.size ≤ B) : Grd w' := by
 obtain ⟨⟨e1, a1, a2⟩, ⟨e2, b1, b2⟩, m, c1⟩ := h; exact ⟨⟨e1, (hb.cell (p := ⟨_, 0, none⟩) (Nat.lt_of_lt_of_le (lt_of_cell a1) hB)).trans a1, a2⟩, ⟨e2, (hb.cell (p := ⟨_, 0, none⟩) (Nat.lt_of_lt_of_le (lt_of_cell b1) hB)).trans b1, b2⟩, m, (hb.cell (p := ⟨_, 0, none⟩) (Nat.lt_of_lt_of_le (lt_of_cell c1) hB)).trans c1⟩
def bL (x : ByteArray) : List UInt8 := x.data.toList
theorem tl_eq (x : ByteArray) : x.toList = x.data.toList := ByteArray.toList_eq x
theorem tl_ne {x : ByteArray} {l : List UInt8} (h : ¬ x = ⟨l.toArray⟩) : (x.toList == l) = false := by
 rw [tl_eq]; refine beq_eq_false_iff_ne.2 (fun e => h ?_); subst e; simp
def NumSaid : Prop := ∀ (w0 : World) (H b : Nat) (ws : List ByteArray) (bad : Bool) (w : World), Grd w0 → Below w0.heap.size w0 w → w0.heap.size ≤ b → H ≤ w.heap.size → WordsAt w H b ws bad → ws.length ≤ 1000000 → (∀ x ∈ ws, x.size ≤ 1000000) →
 Calls Tryz.prog 139 #[.pointer (some ⟨b, 0, none⟩)] w fun e w' => ∃ (n : Int) (bad' : Bool), e = .returned (.int .u64 n) ∧ (0 ≤ n ∧ n < 18446744073709551616) ∧ WordsAt w' H b ws.tail bad' ∧ w.grownBy w' (some b) ∧
  (∀ (k : Nat) (r : List (List UInt8)), k < 18446744073709551616 → ws.map bL = Lib.decDigits k :: r → n = k ∧ bad' = bad)
end Go.Proofs.YtmgngapkgcofnabGreatDoor
namespace Go.Proofs.YtmgngapkgcofnabGreatDoor
open Go.RowKit
theorem and255_big (n : Nat) (h : n < 18446744073709551616) : bits .and .u64 (n : Int) 255 = ((n % 256 : Nat) : Int) := by
 rw [show (255 : Int) = ((255 : Nat) : Int) from rfl, u64_and_nat _ _ (by omega) (by omega)]
 congr 1
 exact Nat.and_two_pow_sub_one_eq_mod n 8
theorem act_head {ws : List ByteArray} {k e : Int} {r : List (List UInt8)} (h : ActRd k e) (hw : ws.map bL = actW k e ++ r) :
  ∃ x ws', ws = x :: ws' ∧ ((k = 1 ∧ e = 0 ∧ bL x = wAllow ∧ ws'.map bL = r) ∨ (k = 3 ∧ e = 0 ∧ bL x = wKill ∧ ws'.map bL = r) ∨ (k = 2 ∧ 0 ≤ e ∧ e < 1000 ∧ bL x = wDeny ∧ ws'.map bL = Lib.decDigits e.toNat :: r)) := by
 cases ws with
 | nil => rcases h with ⟨rfl, rfl⟩ | ⟨rfl, rfl⟩ | ⟨rfl, _, _⟩ <;> simp [actW] at hw
 | cons x ws' =>
  refine ⟨x, ws', rfl, ?_⟩; rcases h with ⟨rfl, rfl⟩ | ⟨rfl, rfl⟩ | ⟨rfl, h1, h2⟩ <;> simp [actW] at hw
  ·exact .inl ⟨rfl, rfl, hw⟩
  ·exact .inr (.inl ⟨rfl, rfl, hw⟩)
  ·exact .inr (.inr ⟨rfl, h1, h2, hw⟩)
theorem bL_inj {a : ByteArray} {l : List UInt8} (h : bL a = l) : a = ⟨l.toArray⟩ := by
 subst h; unfold bL; simp
theorem act_fin {w W : World} {H b : Nat} {ws : List ByteArray} {bad : Bool} (c0 c1 : Value) (hH : H ≤ w.heap.size) (hW : WordsAt W H b ws bad) (hg : w.grownBy W (some b)) :
  WordsAt ((W.setCell ⟨w.heap.size, 0, none⟩ c0).setCell ⟨w.heap.size, 1, none⟩ c1) H b ws bad ∧ w.grownBy ((W.setCell ⟨w.heap.size, 0, none⟩ c0).setCell ⟨w.heap.size, 1, none⟩ c1) (some b) := by
 have h1 : Below w.heap.size W (W.setCell ⟨w.heap.size, 0, none⟩ c0) := (Below.refl w.heap.size W).setCell (p := ⟨w.heap.size, 0, none⟩) (Nat.le_refl _) c0; have hb := h1.setCell (p := ⟨w.heap.size, 1, none⟩) (Nat.le_refl _) c1; exact ⟨hW.below hb hH, growB hg hb⟩
theorem store2 {w : World} {b : Nat} {t : TypeId} {a0 a1 : Value} (h : w.heap[b]? = some (.cells #[a0, a1] t (0, 0))) (c0 c1 : Value) :
  ((w.setCell ⟨b, 0, none⟩ c0).setCell ⟨b, 1, none⟩ c1).cell? ⟨b, 0, none⟩ = some c0 ∧ ((w.setCell ⟨b, 0, none⟩ c0).setCell ⟨b, 1, none⟩ c1).cell? ⟨b, 1, none⟩ = some c1 := by
 have e1 : (w.setCell ⟨b, 0, none⟩ c0).heap[b]? = some (.cells #[c0, a1] t (0, 0)) := by
  have := heap_setCell_same w b 0 _ _ c0 h; simpa using this
 have e2 : ((w.setCell ⟨b, 0, none⟩ c0).setCell ⟨b, 1, none⟩ c1).heap[b]? = some (.cells #[c0, c1] t (0, 0)) := by
  have := heap_setCell_same _ b 1 _ _ c1 e1; simpa using this
 exact ⟨(cell_of_row _ _ _ _ _ _ e2).trans rfl, (cell_of_row _ _ _ _ _ _ e2).trans rfl⟩
theorem row2 {w : World} {b : Nat} {t : TypeId} {a0 a1 : Value} (h : w.heap[b]? = some (.cells #[a0, a1] t (0, 0))) : w.cell? ⟨b, 0, none⟩ = some a0 ∧ w.cell? ⟨b, 1, none⟩ = some a1 ∧ w.frozen? ⟨b, 0, none⟩ = false ∧ w.frozen? ⟨b, 1, none⟩ = false :=
 ⟨(cell_of_row _ _ _ _ _ _ h).trans rfl, (cell_of_row _ _ _ _ _ _ h).trans rfl, frozen_of_row _ _ _ _ _ h, frozen_of_row _ _ _ _ _ h⟩
theorem act_fwd {ws : List ByteArray} {k e : Int} {r : List (List UInt8)} (h : ActRd k e) (hw : ws.map bL = actW k e ++ r) :
  ws.isEmpty = false ∧ ((k = 1 ∧ e = 0 ∧ ws.headD ByteArray.empty = ⟨#[97, 108, 108, 111, 119]⟩ ∧ ws.tail.map bL = r) ∨ (k = 3 ∧ e = 0 ∧ ws.headD ByteArray.empty = ⟨#[107, 105, 108, 108]⟩ ∧ ws.tail.map bL = r) ∨ (k = 2 ∧ 0 ≤ e ∧ e < 1000 ∧ ws.headD ByteArray.empty = ⟨#[100, 101, 110, 121]⟩ ∧ ws.tail.map bL = Lib.decDigits e.toNat :: r)) := by
 obtain ⟨x, ws', rfl, h⟩ := act_head h hw; refine ⟨rfl, ?_⟩; rcases h with ⟨a, b, c, d⟩ | ⟨a, b, c, d⟩ | ⟨a, b, c, d, e⟩
 ·exact .inl ⟨a, b, bL_inj c, d⟩
 ·exact .inr (.inl ⟨a, b, bL_inj c, d⟩)
 ·exact .inr (.inr ⟨a, b, c, bL_inj d, e⟩)
def ActA (w : World) (H b : Nat) (ws : List ByteArray) (bad : Bool) (e : Ending) (w' : World) : Prop :=
 ∃ (k x : Int) (j : Nat) (bad' : Bool), e = .returned (.agg #[.int .i64 k, .int .i64 x]) ∧ WordsAt w' H b (ws.drop j) bad' ∧ w.grownBy w' (some b) ∧
  (∀ (k0 e0 : Int) (r : List (List UInt8)), bad = false → ActRd k0 e0 → e0 ≤ 255 → ws.map bL = actW k0 e0 ++ r → k = k0 ∧ x = e0 ∧ bad' = false ∧ (ws.drop j).map bL = r)
set_option linter.unusedSimpArgs false in
set_option maxHeartbeats 2000000 in
theorem action_any (HN : NumSaid) (w0 : World) (H b : Nat) (ws : List ByteArray) (bad : Bool) (w : World) (hG : Grd w0) (hB : Below w0.heap.size w0 w) (hb : w0.heap.size ≤ b) (hH : H ≤ w.heap.size) (h : WordsAt w H b ws bad) (hl : ws.length ≤ 1000000) (hs : ∀ x ∈ ws, x.size ≤ 1000000) :
  Calls Tryz.prog 87 #[.pointer (some ⟨b, 0, none⟩)] w (ActA w H b ws bad) := by
 have hbw : b < w.heap.size := Nat.lt_of_lt_of_le h.1 hH; have HA := Lib.hid (fun k e r => act_fwd (ws := ws) (k := k) (e := e) (r := r)); have HD1 : Hid (ws.drop 1 = ws.tail) := List.drop_one; have HD2 : Hid (ws.drop 2 = ws.tail.tail) := by show _ = _; cases ws with | nil => rfl | cons x t => cases t <;> rfl
 obtain ⟨W0, hW0⟩ : ∃ W0, W0 = w.alloc (.cells #[.int .i64 0, .int .i64 0] 24) := ⟨_, rfl⟩
 have hb0 : Below w.heap.size w W0 := by rw [hW0]; exact (Below.refl _ _).alloc (Nat.le_refl _) _
 have hs0 : W0.heap.size = w.heap.size + 1 := by rw [hW0]; simp
 have hr0 : W0.heap[w.heap.size]? = some (.cells #[.int .i64 0, .int .i64 0] 24 (0, 0)) := by rw [hW0]; exact heap_alloc_new _ _
 have HK : Hid (∀ W1, W0.grownBy W1 (some b) → W1.heap[w.heap.size]? = some (.cells #[.int .i64 0, .int .i64 0] 24 (0, 0)) ∧ w.grownBy W1 (some b) ∧ Below w0.heap.size w0 W1) := fun W1 hg =>
  ⟨(hg.block _ (by omega) (by simp; omega)).trans hr0, grown_trans (grown_of_below hb0) hg, below_of_grown (hB.trans (hb0.mono (by have := hB.size; omega))) hg hb (by have := hB.size; omega)⟩
 have HNX := Lib.hid (next_any H b ws bad W0 (h.below hb0 hH) hl); have HNM := Lib.hid (fun W1 bad1 (hw1 : WordsAt W1 H b ws.tail bad1) (hg1 : W0.grownBy W1 (some b)) => HN w0 H b ws.tail bad1 W1 hG (HK.out W1 hg1).2.2 hb (Nat.le_trans hH (HK.out W1 hg1).2.1.size) hw1 (by simp; omega) (fun x hx => hs x (List.mem_of_mem_tail hx)))
 have HFIN := Lib.hid (fun W ws' bad' c0 c1 (h1 : WordsAt W H b ws' bad') (h2 : w.grownBy W (some b)) => act_fin (w := w) c0 c1 hH h1 h2); clear h hs hG hB hb hH hb0 hr0 HN; generalize ws.headD ByteArray.empty = X at *
 generalize ws.isEmpty = E at *
 generalize ws.tail = T at *
 go_enter Tryz.func87, Tryz.ntmps87
 go_upto_region 2 with (go_at_call 86; rw [← hW0]; refine cargs (by simp [Act.eval]) (HNX.out.mono ?_); rintro e w1 ⟨rfl, hw1, hg1⟩; have HW1 := Lib.hid hw1; have HG1 := Lib.hid hg1; clear hw1 hg1)
 clear HNX hW0; obtain ⟨hr1, hgw1, _⟩ := HK.out w1 HG1.out; have HR1 := Lib.hid hr1; have HGW1 := Lib.hid hgw1; have hrow := row2 hr1; clear hr1 hgw1
 by_cases ha : X = ⟨#[97, 108, 108, 111, 119]⟩
 ·subst ha; obtain ⟨r0, r1, z0, z1⟩ := hrow; obtain ⟨y0, y1⟩ := store2 HR1.out (.int .i64 1) (.int .i64 0); have ta : ((⟨#[97, 108, 108, 111, 119]⟩ : ByteArray).toList == [97, 108, 108, 111, 119]) = true := by rw [tl_eq]; decide
  go_wp2_with fail
  try simp only [Exit.inBlock, Exit.then]
  refine bodyPost_ret (by simp [results, Tryz.results87, go_sem, y0, y1]; try rfl) rfl ?_; obtain ⟨hf1, hf2⟩ := HFIN.out _ _ _ (.int .i64 1) (.int .i64 0) HW1.out HGW1.out; refine ⟨1, 0, 1, _, rfl, by rw [HD1.out]; exact hf1, hf2, fun k0 e0 r hbad hrd he hws => ?_⟩; obtain ⟨q0, ⟨q1, q2, _, q4⟩ | ⟨_, _, q3, _⟩ | ⟨_, _, _, q3, _⟩⟩ := HA.out k0 e0 r hrd hws
  ·exact ⟨q1.symm, q2.symm, by rw [hbad, q0]; rfl, by rw [HD1.out]; exact q4⟩
  ·exact absurd q3 (by decide)
  ·exact absurd q3 (by decide)
 ·have t1 : (X.toList == [97, 108, 108, 111, 119]) = false := tl_ne ha
  by_cases hk : X = ⟨#[107, 105, 108, 108]⟩
  ·subst hk; obtain ⟨r0, r1, z0, z1⟩ := hrow; obtain ⟨y0, y1⟩ := store2 HR1.out (.int .i64 3) (.int .i64 0)
   go_wp2_with fail
   try simp only [Exit.inBlock, Exit.then]
   refine bodyPost_ret (by simp [results, Tryz.results87, go_sem, y0, y1]; try rfl) rfl ?_; obtain ⟨hf1, hf2⟩ := HFIN.out _ _ _ (.int .i64 3) (.int .i64 0) HW1.out HGW1.out; refine ⟨3, 0, 1, _, rfl, by rw [HD1.out]; exact hf1, hf2, fun k0 e0 r hbad hrd he hws => ?_⟩; obtain ⟨q0, ⟨_, _, q3, _⟩ | ⟨q1, q2, _, q4⟩ | ⟨_, _, _, q3, _⟩⟩ := HA.out k0 e0 r hrd hws
   ·exact absurd q3 (by decide)
   ·exact ⟨q1.symm, q2.symm, by rw [hbad, q0]; rfl, by rw [HD1.out]; exact q4⟩
   ·exact absurd q3 (by decide)
  ·have t2 : (X.toList == [107, 105, 108, 108]) = false := tl_ne hk
   by_cases hd : X = ⟨#[100, 101, 110, 121]⟩
   ·subst hd; have HN1 := Lib.hid (HNM.out w1 _ HW1.out HG1.out); clear hrow HNM
    go_upto_region 8 with (go_at_call 139; refine cargs (by simp [Act.eval]) (HN1.out.mono ?_); rintro e w2 ⟨n, bad2, rfl, hn, hw2, hg2, hfw⟩; have HW2 := Lib.hid hw2; have HG2 := Lib.hid hg2; have HFW := Lib.hid hfw; clear hw2 hg2 hfw)
    obtain ⟨hr2, hgw2, _⟩ := HK.out w2 (grown_trans HG1.out HG2.out); have HR2 := Lib.hid hr2; have HGW2 := Lib.hid hgw2; obtain ⟨r0, r1, z0, z1⟩ := row2 (hr2); obtain ⟨_, _, _, b1, _, bz⟩ := HW2.out.cells; obtain ⟨N, rfl⟩ : ∃ N : Nat, n = N := ⟨n.toNat, by omega⟩
    have hN : N < 18446744073709551616 := by omega
    have a5 := and255_big N hN; have HM : Hid (N ≤ 255 → N % 256 = N) := fun h => by omega
    have hM : N % 256 ≤ 255 := by omega
    generalize N % 256 = M at *
    have HFN : Hid (∀ (W : World) (bad3 : Bool), W = w2.setCell ⟨b, 1, none⟩ (.bool bad3) → (bad2 = false → N ≤ 255 → bad3 = false) → ActA w H b ws bad (.returned (.agg #[.int .i64 2, .int .i64 M])) ((W.setCell ⟨w.heap.size, 0, none⟩ (.int .i64 2)).setCell ⟨w.heap.size, 1, none⟩ (.int .i64 M))) := fun W bad3 hW hb3 => by
     subst hW; obtain ⟨hf1, hf2⟩ := HFIN.out _ _ _ (.int .i64 2) (.int .i64 M) (HW2.out.setBad bad3) (grown_trans HGW2.out (grown_set w2 b 1 (.bool bad3))); refine ⟨2, M, 2, bad3, rfl, by rw [HD2.out]; exact hf1, hf2, fun k0 e0 r hbad hrd he hws => ?_⟩; obtain ⟨q0, ⟨_, _, q3, _⟩ | ⟨_, _, q3, _⟩ | ⟨q1, q2, q3, _, q5⟩⟩ := HA.out k0 e0 r hrd hws
     ·exact absurd q3 (by decide)
     ·exact absurd q3 (by decide)
     ·obtain ⟨k1, k2⟩ := HFW.out e0.toNat r (by omega) q5; have k3 := HM.out (by omega); refine ⟨q1.symm, by omega, hb3 (by rw [k2, hbad, q0]; rfl) (by omega), ?_⟩; rw [HD2.out, List.map_tail, q5]; rfl
    have HY := Lib.hid (fun bad3 => store2 ((heap_setCell_other w2 ⟨b, 1, none⟩ w.heap.size (.bool bad3) (fun e => by simp at e; omega)).trans hr2) (.int .i64 2) (.int .i64 M)); have HZ := Lib.hid (fun bad3 => row2 ((heap_setCell_other w2 ⟨b, 1, none⟩ w.heap.size (.bool bad3) (fun e => by simp at e; omega)).trans hr2)); clear hr2 hgw2 HA HM
    cases bad2 with
    | true =>
     obtain ⟨y0, y1⟩ := HY.out true; obtain ⟨r0', r1', z0', z1'⟩ := HZ.out true
     go_wp2_with fail
     try simp only [Exit.inBlock, Exit.then]
     refine bodyPost_ret (by simp [results, Tryz.results87, go_sem, y0, y1]; try rfl) rfl ?_; exact HFN.out _ true rfl (fun h => by simp at h)
    | false =>
     by_cases hgt : 255 < N
     ·have t5 : (255 : Int) < (N : Int) := by omega
      obtain ⟨y0, y1⟩ := HY.out true; obtain ⟨r0', r1', z0', z1'⟩ := HZ.out true
      go_wp2_with fail
      try simp only [Exit.inBlock, Exit.then]
      refine bodyPost_ret (by simp [results, Tryz.results87, go_sem, y0, y1]; try rfl) rfl ?_; exact HFN.out _ true rfl (fun _ h => by omega)
     ·have t5 : ¬ (255 : Int) < (N : Int) := by omega
      obtain ⟨y0, y1⟩ := HY.out false; obtain ⟨r0', r1', z0', z1'⟩ := HZ.out false
      go_wp2_with fail
      try simp only [Exit.inBlock, Exit.then]
      refine bodyPost_ret (by simp [results, Tryz.results87, go_sem, y0, y1]; try rfl) rfl ?_; exact HFN.out _ false rfl (fun _ _ => rfl)
   ·have t3 : (X.toList == [100, 101, 110, 121]) = false := tl_ne hd; have HX := Lib.hid (And.intro ha (And.intro hk hd)); clear hd hk ha; obtain ⟨_, _, _, b1, _, bz⟩ := HW1.out.cells; have HR2 := Lib.hid ((heap_setCell_other w1 ⟨b, 1, none⟩ w.heap.size (.bool true) (fun e => by simp at e; omega)).trans HR1.out); obtain ⟨r0, r1, z0, z1⟩ := row2 HR2.out
    obtain ⟨y0, y1⟩ := store2 HR2.out (.int .i64 0) (.int .i64 0)
    go_wp2_with fail
    try simp only [Exit.inBlock, Exit.then]
    refine bodyPost_ret (by simp [results, Tryz.results87, go_sem, y0, y1]; try rfl) rfl ?_; obtain ⟨hf1, hf2⟩ := HFIN.out _ _ _ (.int .i64 0) (.int .i64 0) (HW1.out.setBad true) (grown_trans HGW1.out (grown_set w1 b 1 (.bool true))); refine ⟨0, 0, 1, _, rfl, by rw [HD1.out]; exact hf1, hf2, fun k0 e0 r hbad hrd he hws => ?_⟩; exfalso
    obtain ⟨q0, ⟨_, _, q3, _⟩ | ⟨_, _, q3, _⟩ | ⟨_, _, _, q3, _⟩⟩ := HA.out k0 e0 r hrd hws
    ·exact HX.out.1 q3
    ·exact HX.out.2.1 q3
    ·exact HX.out.2.2 q3
end Go.Proofs.YtmgngapkgcofnabGreatDoor
namespace Go.Proofs.YtmgngapkgcofnabGreatDoor
open Go.RowKit
theorem fold_ge : ∀ (l : List UInt8) (a : Nat), a ≤ l.foldl (fun n b => 10 * n + (b.toNat - 48)) a
 | [], _ => Nat.le_refl _
 | b :: l, a => by
  have := fold_ge l (10 * a + (b.toNat - 48)); simp only [List.foldl_cons]; omega
theorem parseM_digs : ∀ (l : List UInt8) (a : Nat), (∀ b ∈ l, isDig b = true) → l.foldl (fun n b => 10 * n + (b.toNat - 48)) a ≤ 18446744073709551615 → Lib.parseUintM 18446744073709551615 a l = .ok (l.foldl (fun n b => 10 * n + (b.toNat - 48)) a)
 | [], _, _, _ => rfl
 | b :: l, a, hd, hl => by
  have h1 := hd b (by simp); simp only [isDig, Bool.and_eq_true, decide_eq_true_eq] at h1; simp only [List.foldl_cons] at hl ⊢; have h2 := fold_ge l (10 * a + (b.toNat - 48)); rw [Lib.parseUintM, if_pos h1, if_neg (by omega), if_neg (by omega), show a * 10 + (b.toNat - 48) = 10 * a + (b.toNat - 48) from by omega]; exact parseM_digs l _ (fun x hx => hd x (by simp [hx])) hl
theorem parseB_dec {k : Nat} (h : k < 18446744073709551616) : Lib.parseUintB 64 (Lib.decDigits k) = .ok k := by
 unfold Lib.parseUintB; rw [if_neg (dec_ne k)]; have h1 : valD (Lib.decDigits k) = k := valD_dec k; unfold valD at h1; have := parseM_digs (Lib.decDigits k) 0 (decDigits_dig k) (by rw [h1]; omega); rw [h1] at this; exact this
theorem num_head {ws : List ByteArray} {k : Nat} {r : List (List UInt8)} (h : ws.map bL = Lib.decDigits k :: r) : ws.isEmpty = false ∧ (ws.headD ByteArray.empty).data.toList = Lib.decDigits k := by
 cases ws with
 | nil => simp at h
 | cons x t => simp only [List.map_cons, List.cons.injEq] at h; exact ⟨rfl, h.1⟩
set_option linter.unusedSimpArgs false in
set_option maxHeartbeats 2000000 in
theorem wordNum_any : NumSaid := fun w0 H b ws bad w hG hB hb hH h hl hs => by
 have hbw : b < w.heap.size := Nat.lt_of_lt_of_le h.1 hH; have HP := Lib.hid (fun k r => num_head (ws := ws) (k := k) (r := r))
 have hX : (ws.headD ByteArray.empty).size ≤ 1000000 := by
  cases ws with
  | nil => simp
  | cons x t => exact hs x (by simp)
 have HNX := Lib.hid (next_any H b ws bad w h hl)
 have HK : Hid (∀ W1, w.grownBy W1 (some b) → Grd W1 ∧ H ≤ W1.heap.size) := fun W1 hg =>
  ⟨hG.below (below_of_grown hB hg hb hB.size) (Nat.le_refl _), Nat.le_trans hH hg.size⟩
 clear h hs hG hB hb hH; generalize ws.headD ByteArray.empty = X at *
 generalize ws.isEmpty = E at *
 generalize ws.tail = T at *
 have HFIN : Hid (∀ (w1 w2 : World) (bad1 bad2 : Bool) (n : Int), WordsAt w1 H b T bad1 → w.grownBy w1 (some b) → Below w1.heap.size w1 w2 → (0 ≤ n ∧ n < 18446744073709551616) → (∀ (k : Nat) (r : List (List UInt8)), k < 18446744073709551616 → ws.map bL = Lib.decDigits k :: r → n = k ∧ bad2 = bad) → ∃ (n' : Int) (bad' : Bool), Ending.returned (.int .u64 n) = .returned (.int .u64 n') ∧ (0 ≤ n' ∧ n' < 18446744073709551616) ∧ WordsAt (w2.setCell ⟨b, 1, none⟩ (.bool bad2)) H b T bad' ∧ w.grownBy (w2.setCell ⟨b, 1, none⟩ (.bool bad2)) (some b) ∧ (∀ (k : Nat) (r : List (List UInt8)), k < 18446744073709551616 → ws.map bL = Lib.decDigits k :: r → n' = k ∧ bad' = bad)) := fun w1 w2 bad1 bad2 n h1 h2 h3 h4 h5 =>
  ⟨n, bad2, rfl, h4, (h1.below h3 (HK.out w1 h2).2).setBad bad2, grown_trans (grown_trans h2 (grown_of_below h3)) (grown_set _ _ _ _), h5⟩
 have HPD : Hid (∀ k, k < 18446744073709551616 → X.data.toList = Lib.decDigits k → Lib.parseUintB 64 X.data.toList = .ok k) := fun k hk e => by rw [e]; exact parseB_dec hk
 cases hp : Lib.parseUintB 64 X.data.toList with
 | ok u =>
  have hu : u ≤ 18446744073709551615 := Lib.parseUintB_le hp
  have HPU : Hid (∀ W : World, Calls Tryz.prog 161 #[.string X, .int .i64 10, .int .i64 64] W fun e w' => e = .returned (.tuple #[.int .u64 u, .nilIface]) ∧ Below W.heap.size W w') := fun W =>
   (Tryz.strconv_ParseUint_10_at64_ok X (by omega) u hp W).mono fun e w' ⟨h1, h2⟩ => ⟨h1, by rcases h2 with rfl | rfl; exact Below.refl _ _; exact Lib.bytesWorld_below _ _ _⟩
  have HFW : Hid (∀ (k : Nat) (r : List (List UInt8)), k < 18446744073709551616 → ws.map bL = Lib.decDigits k :: r → (u : Int) = k ∧ (bad || E) = bad) := fun k r hk hw => by
   obtain ⟨h1, h2⟩ := HP.out k r hw; have h3 := HPD.out k hk h2; rw [hp] at h3; injection h3 with h3; exact ⟨by rw [h3], by rw [h1]; simp⟩
  clear hp HPD HP; generalize (bad || E) = bad1 at *
  go_enter Tryz.func139, Tryz.ntmps139
  go_upto_region 2 with (first
   | (go_at_call 86; refine cargs (by simp [Act.eval]) (HNX.out.mono ?_); rintro e w1 ⟨rfl, hw1, hg1⟩; have HW1 := Lib.hid hw1; have HG1 := Lib.hid hg1; clear hw1 hg1)
   | (go_at_call 161; refine cargs (by simp [Act.eval]) ((HPU.out _).mono ?_); rintro e w2 ⟨rfl, hb2⟩; have HB2 := Lib.hid hb2; clear hb2))
  obtain ⟨_, _, _, b1, _, bz⟩ := (HW1.out.below HB2.out (HK.out w1 HG1.out).2).cells
  cases bad1 with
  | true =>
   go_wp2_with fail; go_ret; exact HFIN.out w1 w2 true true u HW1.out HG1.out HB2.out ⟨by omega, by omega⟩ (fun k r hk hw => HFW.out k r hk hw)
  | false =>
   go_wp2_with fail; go_ret; exact HFIN.out w1 w2 false false u HW1.out HG1.out HB2.out ⟨by omega, by omega⟩ (fun k r hk hw => HFW.out k r hk hw)
 | range =>
  have HPU : Hid (∀ W : World, Grd W → Calls Tryz.prog 161 #[.string X, .int .i64 10, .int .i64 64] W fun e w' => (∃ t N, e = .returned (.tuple #[.int .u64 18446744073709551615, .iface t (.pointer (some ⟨N, 0, none⟩))])) ∧ Below W.heap.size W w') := fun W hg => by
   obtain ⟨ev, h1, h2⟩ := hg.rang; exact (Tryz.strconv_ParseUint_10_at64_range X (by omega) hp ev W h1 h2).mono fun e w' ⟨N, k1, _, _, k2⟩ => ⟨⟨_, N, k1⟩, k2⟩
  have HFW : Hid (∀ (k : Nat) (r : List (List UInt8)), k < 18446744073709551616 → ws.map bL = Lib.decDigits k :: r → (18446744073709551615 : Int) = k ∧ true = bad) := fun k r hk hw => by
   obtain ⟨h1, h2⟩ := HP.out k r hw; have h3 := HPD.out k hk h2; rw [hp] at h3; cases h3
  clear hp HPD HP; generalize (bad || E) = bad1 at *
  go_enter Tryz.func139, Tryz.ntmps139
  go_upto_region 2 with (first
   | (go_at_call 86; refine cargs (by simp [Act.eval]) (HNX.out.mono ?_); rintro e w1 ⟨rfl, hw1, hg1⟩; have HW1 := Lib.hid hw1; have HG1 := Lib.hid hg1; clear hw1 hg1)
   | (go_at_call 161; refine cargs (by simp [Act.eval]) ((HPU.out _ (HK.out w1 HG1.out).1).mono ?_); rintro e w2 ⟨⟨te, N, rfl⟩, hb2⟩; have HB2 := Lib.hid hb2; clear hb2))
  obtain ⟨_, _, _, b1, _, bz⟩ := (HW1.out.below HB2.out (HK.out w1 HG1.out).2).cells
  cases bad1 with
  | true =>
   go_wp2_with fail; go_ret; exact HFIN.out w1 w2 true true 18446744073709551615 HW1.out HG1.out HB2.out ⟨by omega, by omega⟩ (fun k r hk hw => HFW.out k r hk hw)
  | false =>
   go_wp2_with fail; go_ret; exact HFIN.out w1 w2 false true 18446744073709551615 HW1.out HG1.out HB2.out ⟨by omega, by omega⟩ (fun k r hk hw => HFW.out k r hk hw)
 | _ =>
  have HPU : Hid (∀ W : World, Grd W → Calls Tryz.prog 161 #[.string X, .int .i64 10, .int .i64 64] W fun e w' => (∃ t N, e = .returned (.tuple #[.int .u64 0, .iface t (.pointer (some ⟨N, 0, none⟩))])) ∧ Below W.heap.size W w') := fun W hg => by
   obtain ⟨ev, h1, h2⟩ := hg.synt; exact (Tryz.strconv_ParseUint_10_at64_syntax X (by omega) hp ev W h1 h2).mono fun e w' ⟨N, k1, _, _, k2⟩ => ⟨⟨_, N, k1⟩, k2⟩
  have HFW : Hid (∀ (k : Nat) (r : List (List UInt8)), k < 18446744073709551616 → ws.map bL = Lib.decDigits k :: r → (0 : Int) = k ∧ true = bad) := fun k r hk hw => by
   obtain ⟨h1, h2⟩ := HP.out k r hw; have h3 := HPD.out k hk h2; rw [hp] at h3; cases h3
  clear hp HPD HP; generalize (bad || E) = bad1 at *
  go_enter Tryz.func139, Tryz.ntmps139
  go_upto_region 2 with (first
   | (go_at_call 86; refine cargs (by simp [Act.eval]) (HNX.out.mono ?_); rintro e w1 ⟨rfl, hw1, hg1⟩; have HW1 := Lib.hid hw1; have HG1 := Lib.hid hg1; clear hw1 hg1)
   | (go_at_call 161; refine cargs (by simp [Act.eval]) ((HPU.out _ (HK.out w1 HG1.out).1).mono ?_); rintro e w2 ⟨⟨te, N, rfl⟩, hb2⟩; have HB2 := Lib.hid hb2; clear hb2))
  obtain ⟨_, _, _, b1, _, bz⟩ := (HW1.out.below HB2.out (HK.out w1 HG1.out).2).cells
  cases bad1 with
  | true =>
   go_wp2_with fail; go_ret; exact HFIN.out w1 w2 true true 0 HW1.out HG1.out HB2.out ⟨by omega, by omega⟩ (fun k r hk hw => HFW.out k r hk hw)
  | false =>
   go_wp2_with fail; go_ret; exact HFIN.out w1 w2 false true 0 HW1.out HG1.out HB2.out ⟨by omega, by omega⟩ (fun k r hk hw => HFW.out k r hk hw)
end Go.Proofs.YtmgngapkgcofnabGreatDoor
namespace Go.Proofs.YtmgngapkgcofnabGreatDoor
open Go.RowKit
theorem index_at (c : UInt8) : ∀ (a r : List UInt8), (∀ b ∈ a, b ≠ c) → Lib.indexByte (a ++ c :: r) c = a.length
 | [], r, _ => by simp [Lib.indexByte]
 | x :: a, r, h => by
  have ih := index_at c a r (fun b hb => h b (by simp [hb])); have hx := h x (by simp); rw [List.cons_append, Lib.indexByte, if_neg (by simpa using hx), ih, if_neg (by simp)]; simp
theorem first_of {c : UInt8} : ∀ {l : List UInt8}, c ∈ l → ∃ a r, l = a ++ c :: r ∧ c ∉ a
 | [], h => by simp at h
 | x :: l, h => by
  by_cases hx : x = c
  ·subst hx; exact ⟨[], l, rfl, by simp⟩
  ·obtain ⟨a, r, rfl, ha⟩ := first_of (List.mem_of_ne_of_mem (Ne.symm hx) h); exact ⟨x :: a, r, rfl, by simp [ha]; exact fun e => hx e.symm⟩
theorem splitK_cut (c : UInt8) : ∀ (n : Nat) (l : List UInt8), l.length ≤ n → Lib.splitK [c] 0 (l.count c) l = cutW c l
 | n, l, hn => by
  by_cases hc : c ∈ l
  ·obtain ⟨a, r, rfl, ha⟩ := first_of hc; have ha' : ∀ b ∈ a, b ≠ c := fun b hb e => ha (e ▸ hb)
   have hcnt : (a ++ c :: r).count c = r.count c + 1 := by
    rw [List.count_append, List.count_cons_self, List.count_eq_zero.2 ha]; omega
   have hix : Lib.index (a ++ c :: r) [c] = a.length := by rw [Lib.index_one, index_at c a r ha']
   rw [hcnt, Lib.splitK, hix, if_neg (by simp), cutW_app c a r ha']
   cases n with
   | zero => simp at hn
   | succ n =>
    have ih := splitK_cut c n r (by simp at hn; omega); simp only [Int.toNat_natCast, Nat.add_zero, List.length_cons, List.length_nil, Nat.zero_add]; rw [List.take_left, show (a ++ c :: r).drop (a.length + 1) = r from by simp, ih]
  ·rw [List.count_eq_zero.2 hc, Lib.splitK, cutW_one c l (fun b hb e => hc (e ▸ hb))]
theorem cutW_len (c : UInt8) : ∀ l : List UInt8, (cutW c l).length ≤ l.length + 1
 | [] => by simp [cutW]
 | b :: r => by
  have ih := cutW_len c r; rw [cutW]; split
  ·simp; omega
  ·split
   ·simp
   ·rename_i h t e; rw [e] at ih; simp at ih ⊢; omega
theorem cutW_word (c : UInt8) : ∀ (l : List UInt8), ∀ w ∈ cutW c l, w.length ≤ l.length
 | [], w, hw => by simp [cutW] at hw; subst hw; simp
 | b :: r, w, hw => by
  rw [cutW] at hw; split at hw
  ·rcases List.mem_cons.1 hw with rfl | hw
   ·simp
   ·have := cutW_word c r w hw; simp; omega
  ·cases h : cutW c r with
   | nil => exact absurd h (cutW_ne _ _)
   | cons y t =>
    rw [h] at hw; simp only at hw; rcases List.mem_cons.1 hw with rfl | hw
    ·have := cutW_word c r y (by rw [h]; simp); simp; omega
    ·have := cutW_word c r w (by rw [h]; simp [hw]); simp; omega
theorem split_any (s : ByteArray) (c : UInt8) (w : World) (hs : s.size ≤ 1000000) (hG : Grd w) :
  Calls Tryz.prog 85 #[.string s, .string ⟨#[c]⟩] w fun e w' => ∃ ws : List ByteArray, ws.map bL = cutW c (bL s) ∧ e = .returned (.slice (some ⟨w.heap.size, 0, none⟩) ws.length ws.length) ∧ w' = w.alloc (.cells (ws.map Value.string).toArray 9) ∧ (∀ x ∈ ws, x.size ≤ s.size) ∧ ws.length ≤ s.size + 1 ∧ ws ≠ [] := by
 obtain ⟨m, hm⟩ := hG.maxl; refine (Tryz.strings_Split s ⟨#[c]⟩ m w (by omega) hm (Nat.le_refl 1)).mono fun e w' ⟨h1, h2⟩ => ?_; have hd := Lib.splitB_data ⟨#[c]⟩ 0 (Lib.countB s ⟨#[c]⟩) s; have hlen := Lib.splitB_all ⟨#[c]⟩ (Nat.le_refl 1) 0 _ s rfl
 have hk : (Lib.splitB ⟨#[c]⟩ 0 (Lib.countB s ⟨#[c]⟩) s).map bL = cutW c (bL s) := by
  show (Lib.splitB ⟨#[c]⟩ 0 (Lib.countB s ⟨#[c]⟩) s).map (·.data.toList) = _; rw [hd]
  have : Lib.countB s ⟨#[c]⟩ = (bL s).count c := by
   unfold Lib.countB; rw [Lib.count_one]; rfl
  rw [this]; exact splitK_cut c _ _ (Nat.le_refl _)
 have hsz : (bL s).length = s.size := by unfold bL; simp
 refine ⟨_, hk, by rw [h1, hlen], h2, fun x hx => ?_, ?_, fun h0 => ?_⟩
 ·have := cutW_word c (bL s) (bL x) (by rw [← hk]; exact List.mem_map_of_mem hx); unfold bL at this; simp at this; exact this
 ·have := cutW_len c (bL s); rw [← hk, List.length_map] at this; omega
 ·rw [h0] at hlen; simp at hlen
end Go.Proofs.YtmgngapkgcofnabGreatDoor
