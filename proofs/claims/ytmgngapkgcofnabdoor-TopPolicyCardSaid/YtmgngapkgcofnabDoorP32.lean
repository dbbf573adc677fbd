/- A policy's text in plain words: its lines, their words; two right policies have two texts. -/
import Derived.Test.YtmgngapkgcofnabDoorP23
import Derived.Test.YtmgngapkgcofnabDoorP21
namespace Go.Proofs.YtmgngapkgcofnabDoor
open Go.Lib

/-! Lists cut at a byte. -/
def joinW (c : UInt8) : List (List UInt8) → List UInt8
  | [] => []
  | [a] => a
  | a :: b :: r => a ++ c :: joinW c (b :: r)
def cutW (c : UInt8) : List UInt8 → List (List UInt8)
  | [] => [[]]
  | b :: r => if b = c then [] :: cutW c r else match cutW c r with
    | [] => [[b]]
    | h :: t => (b :: h) :: t
theorem cutW_ne (c : UInt8) (l : List UInt8) : cutW c l ≠ [] := by
  cases l with
  | nil => simp [cutW]
  | cons b r =>
    rw [cutW]; split
    · simp
    · split <;> simp
theorem cutW_cons {c b : UInt8} {r h : List UInt8} {t : List (List UInt8)} (hb : b ≠ c) (hr : cutW c r = h :: t) : cutW c (b :: r) = (b :: h) :: t := by
  rw [cutW, if_neg hb, hr]
theorem cutW_app (c : UInt8) : ∀ (a r : List UInt8), (∀ b ∈ a, b ≠ c) → cutW c (a ++ c :: r) = a :: cutW c r
  | [], r, _ => by rw [List.nil_append, cutW, if_pos rfl]
  | x :: a, r, h => by
    rw [List.cons_append]
    exact cutW_cons (h x (by simp)) (cutW_app c a r (fun b hb => h b (by simp [hb])))
theorem cutW_one (c : UInt8) : ∀ (a : List UInt8), (∀ b ∈ a, b ≠ c) → cutW c a = [a]
  | [], _ => rfl
  | x :: a, h => cutW_cons (h x (by simp)) (cutW_one c a (fun b hb => h b (by simp [hb])))
theorem cut_join (c : UInt8) : ∀ (ws : List (List UInt8)), ws ≠ [] → (∀ w ∈ ws, ∀ b ∈ w, b ≠ c) → cutW c (joinW c ws) = ws
  | [], h, _ => absurd rfl h
  | [a], _, h => cutW_one c a (h a (by simp))
  | a :: b :: r, _, h => by
    rw [joinW, cutW_app c a _ (h a (by simp)), cut_join c (b :: r) (by simp) (fun w hw => h w (by simp [List.mem_cons.1 hw]))]
theorem join_cut (c : UInt8) : ∀ (l : List UInt8), joinW c (cutW c l) = l
  | [] => rfl
  | b :: r => by
    have ih := join_cut c r
    rw [cutW]
    split
    · rename_i e
      subst e
      cases h : cutW b r with
      | nil => exact absurd h (cutW_ne _ _)
      | cons x t => rw [joinW, ← h, ih]; rfl
    · cases h : cutW c r with
      | nil => exact absurd h (cutW_ne _ _)
      | cons x t =>
        simp only
        rw [h] at ih
        cases t with
        | nil => rw [joinW] at ih ⊢; rw [ih]
        | cons y t => rw [joinW] at ih ⊢; rw [List.cons_append, ih]
theorem cut_no (c : UInt8) : ∀ (l : List UInt8), ∀ w ∈ cutW c l, ∀ b ∈ w, b ≠ c
  | [], w, hw, b, hb => by simp [cutW] at hw; subst hw; simp at hb
  | x :: r, w, hw, b, hb => by
    rw [cutW] at hw
    split at hw
    · rcases List.mem_cons.1 hw with rfl | hw
      · simp at hb
      · exact cut_no c r w hw b hb
    · rename_i hx
      cases h : cutW c r with
      | nil => exact absurd h (cutW_ne _ _)
      | cons y t =>
        rw [h] at hw
        simp only at hw
        rcases List.mem_cons.1 hw with rfl | hw
        · rcases List.mem_cons.1 hb with rfl | hb
          · exact hx
          · exact cut_no c r y (by rw [h]; simp) b hb
        · exact cut_no c r w (by rw [h]; simp [hw]) b hb
theorem joinW_append (c : UInt8) : ∀ (a b : List (List UInt8)), a ≠ [] → b ≠ [] → joinW c (a ++ b) = joinW c a ++ c :: joinW c b
  | [], _, h, _ => absurd rfl h
  | [x], b, _, h => by
    cases b with
    | nil => exact absurd rfl h
    | cons y t => rfl
  | x :: y :: r, b, _, h => by
    have := joinW_append c (y :: r) b (by simp) h
    simp only [List.cons_append] at this ⊢
    rw [joinW, this, joinW, List.append_assoc, List.cons_append]

/-! The words. -/
def wElse : List UInt8 := [101, 108, 115, 101]
def wAllow : List UInt8 := [97, 108, 108, 111, 119]
def wKill : List UInt8 := [107, 105, 108, 108]
def wDeny : List UInt8 := [100, 101, 110, 121]
def wIf : List UInt8 := [105, 102]
def wAnd : List UInt8 := [97, 110, 100]
def wMask : List UInt8 := [38]
def wEq : List UInt8 := [61, 61]
def wLike : List UInt8 := [126]
def wIn : List UInt8 := [105, 110]
def signW : Nat → List UInt8
  | 1 => [61, 61]
  | 2 => [33, 61]
  | 3 => [60]
  | 4 => [60, 61]
  | 5 => [62]
  | 6 => [62, 61]
  | _ => []
def nameW (nr : Nat) : List UInt8 := (formName nr).data.toList
def quoteW (g : ByteArray) : List UInt8 := 34 :: g.data.toList ++ [34]
def actW (k e : Int) : List (List UInt8) := if k = 1 then [wAllow] else if k = 3 then [wKill] else [wDeny, decDigits e.toNat]
def condW (x : CondD) : List (List UInt8) := decDigits x.arg.toNat :: (if x.op = 7 then [wMask, decDigits x.m.toNat, wEq, decDigits x.v.toNat] else if x.op = 8 then [wLike, quoteW x.glob] else if x.op = 9 then [wIn, textN x.net] else [signW x.op.toNat, decDigits x.v.toNat])
def condsW : Nat → List CondD → List (List UInt8)
  | _, [] => []
  | k, x :: r => (if k = 0 then wIf else wAnd) :: (condW x ++ condsW (k + 1) r)
def ruleW (r : RuleD) : List (List UInt8) := actW r.kind r.errno ++ nameW r.nr.toNat :: condsW 0 r.conds
def lineR (r : RuleD) : List UInt8 := joinW 32 (ruleW r)
def lineE (p : PolD) : List UInt8 := joinW 32 (wElse :: actW p.kind p.errno)
def linesP (p : PolD) : List (List UInt8) := lineE p :: (p.rules.map lineR ++ [[]])
/-- A policy's text. -/
def polT (p : PolD) : List UInt8 := joinW 10 (linesP p)

/-! What can be read as it. -/
def ActRd (k e : Int) : Prop := (k = 1 ∧ e = 0) ∨ (k = 3 ∧ e = 0) ∨ (k = 2 ∧ 0 ≤ e ∧ e < 1000)
structure CondRd (x : CondD) : Prop where
  arg : 0 ≤ x.arg ∧ x.arg ≤ 3
  op : 1 ≤ x.op ∧ x.op ≤ 9
  v : 0 ≤ x.v ∧ x.v < 18446744073709551616
  m : 0 ≤ x.m ∧ x.m < 18446744073709551616
  m0 : x.op ≠ 7 → x.m = 0
  v0 : 7 < x.op → x.v = 0
  g0 : x.op ≠ 8 → x.glob = ByteArray.empty
  n0 : x.op ≠ 9 → x.net = ⟨0, 0, 0, 0⟩
  net : x.op = 9 → x.net.ok ∧ netF x.net = 0
structure RuleRd (r : RuleD) : Prop where
  act : ActRd r.kind r.errno
  nr : 0 ≤ r.nr ∧ r.nr ≤ 8
  con : ∀ x ∈ r.conds, CondRd x
def PolOk (p : PolD) : Prop := ∀ r ∈ p.rules, ∀ c ∈ r.conds, c.ok
theorem size_empty {g : ByteArray} (h : g.size = 0) : g = ByteArray.empty := by
  ext1
  exact Array.eq_empty_of_size_eq_zero h
theorem condRd_of {n : Nat} {x : CondD} (hok : x.ok) (h : condF n x = 0) : CondRd x := by
  obtain ⟨_, _, hv, hm, _, hn⟩ := hok
  unfold condF at h
  split at h
  · omega
  · rename_i h1
    split at h
    · omega
    · rename_i h2
      simp only [CondD.bad, not_or, ne_eq, not_and, Classical.not_not] at h2
      obtain ⟨_, b1, b2, b3, b4⟩ := h2
      refine ⟨by omega, by omega, hv, hm, b1, b2, fun k => size_empty (b3 k), b4, fun k => ⟨hn, ?_⟩⟩
      rw [if_neg (by omega), if_pos k] at h
      exact h
theorem actRd_of {k e : Int} (h : actF k e = 0) : ActRd k e := by
  unfold actF at h
  unfold ActRd
  split at h
  · split at h <;> omega
  · split at h
    · split at h <;> omega
    · omega
theorem ruleRd_of {r : RuleD} (hok : ∀ c ∈ r.conds, c.ok) (h : ruleF r = 0) : RuleRd r := by
  unfold ruleF at h
  split at h
  · omega
  · rename_i h1
    split at h
    · omega
    · split at h
      · rename_i h3; exact absurd h h3
      · rename_i h3
        have h3' : firstNZ (condF r.nr.toNat) r.conds = 0 := by simpa using h3
        exact ⟨actRd_of h, by omega, fun x hx => condRd_of (hok x hx) (firstNZ_zero h3' x hx)⟩

/-! They are read as one thing alone. -/
theorem dec_ne_of {l : List UInt8} (h : ∃ b ∈ l, isDig b = false) (n : Nat) : decDigits n ≠ l := fun e => by
  obtain ⟨b, hb, hd⟩ := h
  rw [← e] at hb
  rw [decDigits_dig n b hb] at hd
  cases hd
theorem actW_inj {k e k' e' : Int} {r r' : List (List UInt8)} (h : ActRd k e) (h' : ActRd k' e') (he : actW k e ++ r = actW k' e' ++ r') : k = k' ∧ e = e' ∧ r = r' := by
  unfold actW at he
  rcases h with ⟨rfl, rfl⟩ | ⟨rfl, rfl⟩ | ⟨rfl, h1, h2⟩ <;> rcases h' with ⟨rfl, rfl⟩ | ⟨rfl, rfl⟩ | ⟨rfl, h3, h4⟩ <;> simp [wAllow, wKill, wDeny] at he ⊢
  · exact he
  · exact he
  · have := dec_inj he.1
    exact ⟨by omega, he.2⟩
theorem signW_inj {a b : Int} (ha : 1 ≤ a ∧ a ≤ 6) (hb : 1 ≤ b ∧ b ≤ 6) (h : signW a.toNat = signW b.toNat) : a = b := by
  have h1 : a = 1 ∨ a = 2 ∨ a = 3 ∨ a = 4 ∨ a = 5 ∨ a = 6 := by omega
  have h2 : b = 1 ∨ b = 2 ∨ b = 3 ∨ b = 4 ∨ b = 5 ∨ b = 6 := by omega
  rcases h1 with rfl | rfl | rfl | rfl | rfl | rfl <;> rcases h2 with rfl | rfl | rfl | rfl | rfl | rfl <;> first | rfl | (exfalso; revert h; decide)
theorem signW_ne {a : Int} (ha : 1 ≤ a ∧ a ≤ 6) : signW a.toNat ≠ wMask ∧ signW a.toNat ≠ wLike ∧ signW a.toNat ≠ wIn ∧ signW a.toNat ≠ [] := by
  have h1 : a = 1 ∨ a = 2 ∨ a = 3 ∨ a = 4 ∨ a = 5 ∨ a = 6 := by omega
  rcases h1 with rfl | rfl | rfl | rfl | rfl | rfl <;> decide
theorem ba_ext {a b : ByteArray} (h : a.data.toList = b.data.toList) : a = b := by
  ext1
  exact Array.toList_inj.1 h
theorem quoteW_inj {a b : ByteArray} (h : quoteW a = quoteW b) : a = b := by
  unfold quoteW at h
  simp only [List.cons_append, List.cons.injEq, true_and, List.append_cancel_right_eq] at h
  exact ba_ext h
theorem condW_inj {x y : CondD} {r r' : List (List UInt8)} (hx : CondRd x) (hy : CondRd y) (he : condW x ++ r = condW y ++ r') : x = y ∧ r = r' := by
  unfold condW at he
  simp only [List.cons_append, List.cons.injEq] at he
  obtain ⟨h0, he⟩ := he
  have ha : x.arg = y.arg := by have := dec_inj h0; have := hx.arg; have := hy.arg; omega
  have x1 := hx.op
  have y1 := hy.op
  have x2 := hx.v
  have y2 := hy.v
  have x3 := hx.m
  have y3 := hy.m
  have key : x.op = y.op ∧ x.v = y.v ∧ x.m = y.m ∧ x.glob = y.glob ∧ x.net = y.net ∧ r = r' := by
    by_cases x7 : x.op = 7
    · have xg := hx.g0 (by omega)
      have xn := hx.n0 (by omega)
      rw [if_pos x7] at he
      by_cases y7 : y.op = 7
      · rw [if_pos y7] at he
        simp only [List.cons_append, List.nil_append, List.cons.injEq, true_and] at he
        have q1 := dec_inj he.1
        have q2 := dec_inj he.2.1
        exact ⟨by omega, by omega, by omega, by rw [xg, hy.g0 (by omega)], by rw [xn, hy.n0 (by omega)], he.2.2⟩
      · rw [if_neg y7] at he
        exfalso
        by_cases y8 : y.op = 8
        · rw [if_pos y8] at he; simp [wMask, wLike] at he
        · rw [if_neg y8] at he
          by_cases y9 : y.op = 9
          · rw [if_pos y9] at he; simp [wMask, wIn] at he
          · rw [if_neg y9] at he
            simp only [List.cons_append, List.nil_append, List.cons.injEq] at he
            exact (signW_ne ⟨y1.1, by omega⟩).1 he.1.symm
    · rw [if_neg x7] at he
      have xm := hx.m0 x7
      by_cases x8 : x.op = 8
      · rw [if_pos x8] at he
        have xv := hx.v0 (by omega)
        have xn := hx.n0 (by omega)
        by_cases y7 : y.op = 7
        · rw [if_pos y7] at he; simp [wMask, wLike] at he
        · rw [if_neg y7] at he
          have ym := hy.m0 y7
          by_cases y8 : y.op = 8
          · rw [if_pos y8] at he
            simp only [List.cons_append, List.nil_append, List.cons.injEq, true_and] at he
            exact ⟨by omega, by rw [xv, hy.v0 (by omega)], by omega, quoteW_inj he.1, by rw [xn, hy.n0 (by omega)], he.2⟩
          · rw [if_neg y8] at he
            exfalso
            by_cases y9 : y.op = 9
            · rw [if_pos y9] at he; simp [wLike, wIn] at he
            · rw [if_neg y9] at he
              simp only [List.cons_append, List.nil_append, List.cons.injEq] at he
              exact (signW_ne ⟨y1.1, by omega⟩).2.1 he.1.symm
      · rw [if_neg x8] at he
        have xg := hx.g0 x8
        by_cases x9 : x.op = 9
        · rw [if_pos x9] at he
          have xv := hx.v0 (by omega)
          by_cases y7 : y.op = 7
          · rw [if_pos y7] at he; simp [wMask, wIn] at he
          · rw [if_neg y7] at he
            have ym := hy.m0 y7
            by_cases y8 : y.op = 8
            · rw [if_pos y8] at he; simp [wLike, wIn] at he
            · rw [if_neg y8] at he
              have yg := hy.g0 y8
              by_cases y9 : y.op = 9
              · rw [if_pos y9] at he
                simp only [List.cons_append, List.nil_append, List.cons.injEq, true_and] at he
                obtain ⟨k1, k2⟩ := hx.net x9
                obtain ⟨k3, k4⟩ := hy.net y9
                exact ⟨by omega, by rw [xv, hy.v0 (by omega)], by omega, by rw [xg, yg], textN_inj k1 k3 k2 k4 he.1, he.2⟩
              · rw [if_neg y9] at he
                exfalso
                simp only [List.cons_append, List.nil_append, List.cons.injEq] at he
                exact (signW_ne ⟨y1.1, by omega⟩).2.2.1 he.1.symm
        · rw [if_neg x9] at he
          have xn := hx.n0 x9
          by_cases y7 : y.op = 7
          · rw [if_pos y7] at he
            exfalso
            simp only [List.cons_append, List.nil_append, List.cons.injEq] at he
            exact (signW_ne ⟨x1.1, by omega⟩).1 he.1
          · rw [if_neg y7] at he
            have ym := hy.m0 y7
            by_cases y8 : y.op = 8
            · rw [if_pos y8] at he
              exfalso
              simp only [List.cons_append, List.nil_append, List.cons.injEq] at he
              exact (signW_ne ⟨x1.1, by omega⟩).2.1 he.1
            · rw [if_neg y8] at he
              have yg := hy.g0 y8
              by_cases y9 : y.op = 9
              · rw [if_pos y9] at he
                exfalso
                simp only [List.cons_append, List.nil_append, List.cons.injEq] at he
                exact (signW_ne ⟨x1.1, by omega⟩).2.2.1 he.1
              · rw [if_neg y9] at he
                simp only [List.cons_append, List.nil_append, List.cons.injEq] at he
                have q1 := signW_inj ⟨x1.1, by omega⟩ ⟨y1.1, by omega⟩ he.1
                have q2 := dec_inj he.2.1
                exact ⟨q1, by omega, by omega, by rw [xg, yg], by rw [xn, hy.n0 y9], he.2.2⟩
  obtain ⟨k1, k2, k3, k4, k5, k6⟩ := key
  refine ⟨?_, k6⟩
  cases x; cases y
  simp only at ha k1 k2 k3 k4 k5
  rw [ha, k1, k2, k3, k4, k5]
theorem condsW_split : ∀ (cs : List CondD) (k : Nat) (ds : List CondD) (r : List (List UInt8)), (∀ x ∈ cs, CondRd x) → (∀ x ∈ ds, CondRd x) → condsW k cs ++ r = condsW k ds → ∃ ds', ds = cs ++ ds' ∧ r = condsW (k + cs.length) ds'
  | [], k, ds, r, _, _, h => ⟨ds, rfl, h⟩
  | x :: cs, k, ds, r, hc, hd, h => by
    cases ds with
    | nil => simp [condsW] at h
    | cons y ds =>
      simp only [condsW, List.cons_append, List.cons.injEq, true_and, List.append_assoc] at h
      obtain ⟨rfl, h2⟩ := condW_inj (hc x (by simp)) (hd y (by simp)) h
      obtain ⟨ds', e1, e2⟩ := condsW_split cs (k + 1) ds r (fun x hx => hc x (by simp [hx])) (fun x hx => hd x (by simp [hx])) h2
      exact ⟨ds', by rw [e1]; rfl, by rw [e2, List.length_cons]; congr 1; omega⟩
theorem nameW_inj {a b : Nat} (ha : a ≤ 8) (hb : b ≤ 8) (h : nameW a = nameW b) : a = b := by
  have h1 : a = 0 ∨ a = 1 ∨ a = 2 ∨ a = 3 ∨ a = 4 ∨ a = 5 ∨ a = 6 ∨ a = 7 ∨ a = 8 := by omega
  have h2 : b = 0 ∨ b = 1 ∨ b = 2 ∨ b = 3 ∨ b = 4 ∨ b = 5 ∨ b = 6 ∨ b = 7 ∨ b = 8 := by omega
  rcases h1 with rfl | rfl | rfl | rfl | rfl | rfl | rfl | rfl | rfl <;> rcases h2 with rfl | rfl | rfl | rfl | rfl | rfl | rfl | rfl | rfl <;> first | rfl | (exfalso; revert h; decide)
theorem ruleW_inj {r s : RuleD} (hr : RuleRd r) (hs : RuleRd s) (h : ruleW r = ruleW s) : r = s := by
  unfold ruleW at h
  obtain ⟨e1, e2, h⟩ := actW_inj hr.act hs.act h
  simp only [List.cons.injEq] at h
  have e3 := nameW_inj (by have := hr.nr; omega) (by have := hs.nr; omega) h.1
  obtain ⟨ds, e4, e5⟩ := condsW_split r.conds 0 s.conds [] hr.con hs.con (by rw [List.append_nil]; exact h.2)
  have e6 : ds = [] := by
    cases ds with
    | nil => rfl
    | cons x t => simp [condsW] at e5
  rw [e6, List.append_nil] at e4
  have h1 := hr.nr
  have h2 := hs.nr
  cases r; cases s
  simp only at e1 e2 e3 e4 h1 h2
  rw [e1, e2, e4]
  congr 1
  omega

/-! They are clean: no blank, no end of line. -/
def Clean (l : List UInt8) : Prop := ∀ b ∈ l, b ≠ 32 ∧ b ≠ 10
instance (l : List UInt8) : Decidable (Clean l) := by unfold Clean; infer_instance
theorem dec_clean (n : Nat) : Clean (decDigits n) := fun b hb => by
  have := decDigits_dig n b hb
  constructor <;> (rintro rfl; revert this; decide)
theorem joinT_mem : ∀ (cs : List UInt8) (ks : List Nat) (b : UInt8), b ∈ joinT cs ks → isDig b = true ∨ b ∈ cs
  | [], [k], b, h => .inl (decDigits_dig k b h)
  | [], [], b, h => by simp [joinT] at h
  | [], _ :: _ :: _, b, h => by simp [joinT] at h
  | c :: cs, [], b, h => by simp [joinT] at h
  | c :: cs, k :: ks, b, h => by
    rw [joinT] at h
    rcases List.mem_append.1 h with h | h
    · exact .inl (decDigits_dig k b h)
    · rcases List.mem_cons.1 h with rfl | h
      · exact .inr (by simp)
      · rcases joinT_mem cs ks b h with h | h
        · exact .inl h
        · exact .inr (by simp [h])
theorem textN_clean (x : NetD) : Clean (textN x) := fun b hb => by
  rcases joinT_mem _ _ b hb with h | h
  · constructor <;> (rintro rfl; revert h; decide)
  · constructor <;> (rintro rfl; revert h; decide)
def goodB (x : Int) : Prop := 32 < x ∧ x < 127 ∧ x ≠ 34
theorem member_good {x : Int} (h : memberF x = true) : goodB x := by simp only [memberF, decide_eq_true_eq] at h; unfold goodB; omega
theorem plain_good {x : Int} (h : plainF x = true) : goodB x := by simp only [plainF, decide_eq_true_eq] at h; unfold goodB; omega
theorem special_good {x : Int} (h : specialF x = true) : goodB x := by simp only [specialF, decide_eq_true_eq] at h; unfold goodB; omega
theorem classL_clean (not : Bool) : ∀ (m : Nat) (n : Bool) (l : List Int) (f : Nat → Bool) (g : Nat → Bool) (r : List Int), l.length ≤ m → classL not n l f = some (g, r) → ∀ x ∈ l, x ∈ r ∨ goodB x := by
  intro m
  induction m with
  | zero => intro n l f g r hl h; rcases l with _ | ⟨x, l⟩ <;> simp [classL] at h hl
  | succ m ih =>
    intro n l f g r hl h
    have g93 : goodB 93 := by unfold goodB; omega
    have g45 : goodB 45 := by unfold goodB; omega
    rcases l with _ | ⟨x, _ | ⟨y, l⟩⟩
    · simp [classL] at h
    · simp only [classL] at h
      split at h
      · rename_i e; subst e
        intro z hz; rcases List.mem_singleton.1 hz with rfl; exact .inr g93
      · simp at h
    · rcases l with _ | ⟨z, l⟩
      · simp only [classL] at h
        split at h
        · rename_i e; subst e
          split at h
          · obtain ⟨_, rfl⟩ := by simpa using h
            intro t ht
            rcases List.mem_cons.1 ht with rfl | ht
            · exact .inr g93
            · exact .inl ht
          · simp at h
        · split at h
          · simp at h
          · rename_i hm
            split at h
            · rename_i e; subst e
              simp only [Bool.not_eq_false] at hm
              simp only [if_true, Option.some.injEq, Prod.mk.injEq] at h
              intro t ht
              rcases List.mem_cons.1 ht with rfl | ht
              · exact .inr (member_good hm)
              · rcases List.mem_singleton.1 ht with rfl; exact .inr g93
            · simp at h
      · simp only [classL] at h
        split at h
        · rename_i e; subst e
          split at h
          · obtain ⟨_, rfl⟩ := by simpa using h
            intro t ht
            rcases List.mem_cons.1 ht with rfl | ht
            · exact .inr g93
            · exact .inl ht
          · simp at h
        · split at h
          · simp at h
          · rename_i hm
            simp only [Bool.not_eq_false] at hm
            split at h
            · rename_i e; subst e
              split at h
              · simp at h
              · rename_i hz
                simp only [not_or, Bool.not_eq_false] at hz
                have := ih _ _ _ _ _ (by simp at hl ⊢; omega) h
                intro t ht
                rcases List.mem_cons.1 ht with rfl | ht
                · exact .inr (member_good hm)
                · rcases List.mem_cons.1 ht with rfl | ht
                  · exact .inr g45
                  · rcases List.mem_cons.1 ht with rfl | ht
                    · exact .inr (member_good hz.1)
                    · exact this t ht
            · have := ih _ _ _ _ _ (by simp at hl ⊢; omega) h
              intro t ht
              rcases List.mem_cons.1 ht with rfl | ht
              · exact .inr (member_good hm)
              · exact this t ht
theorem classF_clean {l : List Int} {p : Part} {r : List Int} (h : classF l = some (p, r)) : ∀ x ∈ l, x ∈ r ∨ goodB x := by
  unfold classF at h
  simp only [Option.map_eq_some_iff] at h
  obtain ⟨⟨g, r'⟩, h1, h2⟩ := h
  obtain ⟨_, rfl⟩ : _ ∧ r' = r := by simpa using h2
  split at h1
  · intro t ht
    rcases List.mem_cons.1 ht with rfl | ht
    · exact .inr (by unfold goodB; omega)
    · exact classL_clean _ _ _ _ _ _ _ (Nat.le_refl _) h1 t ht
  · exact classL_clean _ _ _ _ _ _ _ (Nat.le_refl _) h1
theorem partL_clean {l : List Int} {p : Part} {r : List Int} (h : partL l = some (p, r)) : ∀ x ∈ l, x ∈ r ∨ goodB x := by
  cases l with
  | nil => simp [partL] at h
  | cons c l =>
    have hc : goodB c → (∀ x ∈ l, x ∈ r ∨ goodB x) → ∀ x ∈ c :: l, x ∈ r ∨ goodB x := fun h1 h2 x hx => by
      rcases List.mem_cons.1 hx with rfl | hx
      · exact .inr h1
      · exact h2 x hx
    unfold partL at h
    simp only at h
    split at h
    · rename_i e
      subst e
      refine hc (by unfold goodB; omega) ?_
      split at h
      · obtain ⟨_, rfl⟩ : _ ∧ _ = r := by simpa using h
        intro x hx
        rcases List.mem_cons.1 hx with rfl | hx
        · exact .inr (by unfold goodB; omega)
        · exact .inl hx
      · obtain ⟨_, rfl⟩ : _ ∧ _ = r := by simpa using h
        exact fun x hx => .inl hx
    · split at h
      · rename_i e
        subst e
        obtain ⟨_, rfl⟩ : _ ∧ _ = r := by simpa using h
        exact hc (by unfold goodB; omega) (fun x hx => .inl hx)
      · split at h
        · rename_i e
          subst e
          exact hc (by unfold goodB; omega) (classF_clean h)
        · split at h
          · rename_i e
            subst e
            refine hc (by unfold goodB; omega) ?_
            split at h
            · split at h
              · rename_i hs
                obtain ⟨_, rfl⟩ : _ ∧ _ = r := by simpa using h
                intro x hx
                rcases List.mem_cons.1 hx with rfl | hx
                · exact .inr (special_good hs)
                · exact .inl hx
              · simp at h
            · simp at h
          · split at h
            · rename_i hp
              obtain ⟨_, rfl⟩ : _ ∧ _ = r := by simpa using h
              exact hc (plain_good hp) (fun x hx => .inl hx)
            · simp at h
theorem partsL_clean : ∀ (n : Nat) (l : List Int) (ps : List Part), partsL n l = some ps → ∀ x ∈ l, goodB x
  | _, [], _, _, x, hx => by simp at hx
  | 0, c :: r, ps, h, _, _ => by simp [partsL] at h
  | n + 1, c :: r, ps, h, x, hx => by
    simp only [partsL, Option.bind_eq_some_iff, Option.map_eq_some_iff] at h
    obtain ⟨⟨p, r'⟩, h1, ps', h2, _⟩ := h
    rcases partL_clean h1 x hx with h3 | h3
    · exact partsL_clean n r' ps' h2 x h3
    · exact h3
theorem globF_clean {g : ByteArray} (h : globF (bytesOf g) = 0) : (∀ b ∈ g.data.toList, b ≠ 32 ∧ b ≠ 10 ∧ b ≠ 34) := fun b hb => by
  have hg : goodB (b.toNat : Int) := by
    unfold globF at h
    split at h
    · omega
    · split at h
      · omega
      · split at h
        · rename_i ps hp
          exact partsL_clean _ _ _ hp _ (by unfold bytesOf; exact List.mem_map.2 ⟨b, hb, rfl⟩)
        · omega
  unfold goodB at hg
  refine ⟨?_, ?_, ?_⟩ <;> (rintro rfl; revert hg; decide)
theorem actW_clean (k e : Int) : ∀ w ∈ actW k e, Clean w := fun w hw => by
  unfold actW at hw
  split at hw
  · obtain rfl := List.mem_singleton.1 hw; decide
  · split at hw
    · obtain rfl := List.mem_singleton.1 hw; decide
    · rcases List.mem_cons.1 hw with rfl | hw
      · decide
      · obtain rfl := List.mem_singleton.1 hw; exact dec_clean _
theorem signW_clean (n : Nat) : Clean (signW n) := by
  unfold signW
  split <;> decide
theorem condW_clean {n : Nat} {x : CondD} (h : condF n x = 0) : ∀ w ∈ condW x, Clean w := fun w hw => by
  unfold condW at hw
  rcases List.mem_cons.1 hw with rfl | hw
  · exact dec_clean _
  · split at hw
    · simp only [List.mem_cons, List.not_mem_nil, or_false] at hw
      rcases hw with rfl | rfl | rfl | rfl
      · decide
      · exact dec_clean _
      · decide
      · exact dec_clean _
    · split at hw
      · rename_i h8
        simp only [List.mem_cons, List.not_mem_nil, or_false] at hw
        rcases hw with rfl | rfl
        · decide
        · have hg : globF (bytesOf x.glob) = 0 := by
            unfold condF at h
            split at h
            · omega
            · split at h
              · omega
              · exact h
          intro b hb
          unfold quoteW at hb
          simp only [List.cons_append, List.mem_cons, List.mem_append, List.not_mem_nil, or_false] at hb
          rcases hb with rfl | hb | rfl
          · decide
          · exact ⟨(globF_clean hg b hb).1, (globF_clean hg b hb).2.1⟩
          · decide
      · split at hw
        · simp only [List.mem_cons, List.not_mem_nil, or_false] at hw
          rcases hw with rfl | rfl
          · decide
          · exact textN_clean _
        · simp only [List.mem_cons, List.not_mem_nil, or_false] at hw
          rcases hw with rfl | rfl
          · exact signW_clean _
          · exact dec_clean _
theorem condsW_clean {n : Nat} : ∀ (cs : List CondD) (k : Nat), (∀ x ∈ cs, condF n x = 0) → ∀ w ∈ condsW k cs, Clean w
  | [], _, _, w, hw => by simp [condsW] at hw
  | x :: cs, k, h, w, hw => by
    rw [condsW] at hw
    rcases List.mem_cons.1 hw with rfl | hw
    · split <;> decide
    · rcases List.mem_append.1 hw with hw | hw
      · exact condW_clean (h x (by simp)) w hw
      · exact condsW_clean cs (k + 1) (fun y hy => h y (by simp [hy])) w hw
theorem nameW_clean (n : Nat) (h : n ≤ 8) : Clean (nameW n) := by
  have h1 : n = 0 ∨ n = 1 ∨ n = 2 ∨ n = 3 ∨ n = 4 ∨ n = 5 ∨ n = 6 ∨ n = 7 ∨ n = 8 := by omega
  rcases h1 with rfl | rfl | rfl | rfl | rfl | rfl | rfl | rfl | rfl <;> decide
theorem ruleF_conds {r : RuleD} (h : ruleF r = 0) : ∀ x ∈ r.conds, condF r.nr.toNat x = 0 := by
  unfold ruleF at h
  split at h
  · omega
  · split at h
    · omega
    · split at h
      · rename_i h3; exact absurd h h3
      · rename_i h3
        have h3' : firstNZ (condF r.nr.toNat) r.conds = 0 := by simpa using h3
        exact fun x hx => firstNZ_zero h3' x hx
theorem ruleW_clean {r : RuleD} (h : ruleF r = 0) : ∀ w ∈ ruleW r, Clean w := fun w hw => by
  have hn := ruleF_zero h
  unfold ruleW at hw
  rcases List.mem_append.1 hw with hw | hw
  · exact actW_clean _ _ w hw
  · rcases List.mem_cons.1 hw with rfl | hw
    · exact nameW_clean _ (by omega)
    · exact condsW_clean r.conds 0 (ruleF_conds h) w hw
theorem joinW_mem {c : UInt8} : ∀ (ws : List (List UInt8)) (b : UInt8), b ∈ joinW c ws → b = c ∨ ∃ w ∈ ws, b ∈ w
  | [], b, h => by simp [joinW] at h
  | [a], b, h => .inr ⟨a, by simp, h⟩
  | a :: x :: r, b, h => by
    rw [joinW] at h
    rcases List.mem_append.1 h with h | h
    · exact .inr ⟨a, by simp, h⟩
    · rcases List.mem_cons.1 h with h | h
      · exact .inl h
      · rcases joinW_mem (x :: r) b h with h | ⟨w, hw, hb⟩
        · exact .inl h
        · exact .inr ⟨w, by simp [List.mem_cons.1 hw], hb⟩
theorem ruleW_ne (r : RuleD) : ruleW r ≠ [] := by unfold ruleW; simp
/-- A right rule's line is cut into its words. -/
theorem cut_line {r : RuleD} (h : ruleF r = 0) : cutW 32 (lineR r) = ruleW r :=
  cut_join 32 _ (ruleW_ne r) (fun w hw b hb => (ruleW_clean h w hw b hb).1)
theorem cut_else (p : PolD) : cutW 32 (lineE p) = wElse :: actW p.kind p.errno := by
  refine cut_join 32 _ (by simp) (fun w hw b hb => ?_)
  rcases List.mem_cons.1 hw with rfl | hw
  · revert b; decide
  · exact (actW_clean _ _ w hw b hb).1
/-- A right policy's text is cut into its lines. -/
theorem cut_pol {p : PolD} (h : polF p = 0) : cutW 10 (polT p) = linesP p := by
  obtain ⟨_, _, hr⟩ := polF_zero h
  refine cut_join 10 _ (by simp [linesP]) (fun w hw b hb => ?_)
  unfold linesP at hw
  rcases List.mem_cons.1 hw with rfl | hw
  · unfold lineE at hb
    rcases joinW_mem _ b hb with rfl | ⟨v, hv, hb⟩
    · decide
    · rcases List.mem_cons.1 hv with rfl | hv
      · exact (by decide : ∀ b ∈ wElse, b ≠ 10) b hb
      · exact (actW_clean _ _ v hv b hb).2
  · rcases List.mem_append.1 hw with hw | hw
    · obtain ⟨r, hr1, rfl⟩ := List.mem_map.1 hw
      unfold lineR at hb
      rcases joinW_mem _ b hb with rfl | ⟨v, hv, hb⟩
      · decide
      · exact (ruleW_clean (hr r hr1) v hv b hb).2
    · obtain rfl := List.mem_singleton.1 hw
      simp at hb
theorem lineR_inj {r s : RuleD} (hr : ruleF r = 0) (kr : ∀ c ∈ r.conds, c.ok) (hs : ruleF s = 0) (ks : ∀ c ∈ s.conds, c.ok) (h : lineR r = lineR s) : r = s := by
  have := cut_line hr
  rw [h, cut_line hs] at this
  exact (ruleW_inj (ruleRd_of ks hs) (ruleRd_of kr hr) this).symm
theorem lines_inj : ∀ (a b : List RuleD), (∀ r ∈ a, ruleF r = 0 ∧ ∀ c ∈ r.conds, c.ok) → (∀ r ∈ b, ruleF r = 0 ∧ ∀ c ∈ r.conds, c.ok) → a.map lineR = b.map lineR → a = b
  | [], [], _, _, _ => rfl
  | [], _ :: _, _, _, h => by simp at h
  | _ :: _, [], _, _, h => by simp at h
  | x :: a, y :: b, ha, hb, h => by
    simp only [List.map_cons, List.cons.injEq] at h
    obtain ⟨p1, p2⟩ := ha x (by simp)
    obtain ⟨q1, q2⟩ := hb y (by simp)
    rw [lineR_inj p1 p2 q1 q2 h.1, lines_inj a b (fun r hr => ha r (by simp [hr])) (fun r hr => hb r (by simp [hr])) h.2]
theorem polT_inj {p q : PolD} (hp : PolOk p) (hq : PolOk q) (kp : polF p = 0) (kq : polF q = 0) (h : polT p = polT q) : p = q := by
  have h1 := cut_pol kp
  rw [h, cut_pol kq] at h1
  obtain ⟨_, a1, r1⟩ := polF_zero kp
  obtain ⟨_, a2, r2⟩ := polF_zero kq
  unfold linesP at h1
  simp only [List.cons.injEq, List.append_cancel_right_eq] at h1
  have e1 := lines_inj q.rules p.rules (fun r hr => ⟨r2 r hr, hq r hr⟩) (fun r hr => ⟨r1 r hr, hp r hr⟩) h1.2
  have e2 := cut_else q
  rw [h1.1, cut_else p] at e2
  simp only [List.cons.injEq, true_and] at e2
  obtain ⟨e3, e4, _⟩ := actW_inj (r := []) (r' := []) (actRd_of a1) (actRd_of a2) (by rw [e2])
  cases p; cases q
  simp only at e1 e3 e4
  rw [e1, e3, e4]
/-- What the text l is read as. -/
def ReadP (l : List UInt8) : Option PolD → Prop
  | some p => PolOk p ∧ polF p = 0 ∧ l = polT p
  | none => ∀ p : PolD, PolOk p → polF p = 0 → l ≠ polT p
theorem ReadP.same {l : List UInt8} : ∀ {a b : Option PolD}, ReadP l a → ReadP l b → a = b
  | none, none, _, _ => rfl
  | some x, none, h, k => absurd h.2.2 (k x h.1 h.2.1)
  | none, some y, h, k => absurd k.2.2 (h y k.1 k.2.1)
  | some x, some y, h, k => by rw [polT_inj h.1 k.1 h.2.1 k.2.1 (h.2.2.symm.trans k.2.2)]
end Go.Proofs.YtmgngapkgcofnabDoor
