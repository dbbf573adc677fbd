/- A net's text: the plain laws: what is read of it, by either way, is the net; addresses as bytes. -/
import Derived.Lib.ItoaNum
import Derived.Lib.Bytealg
import Derived.Test.YtmgngapkgcofnabDoorP02
namespace Go.Proofs.YtmgngapkgcofnabDoor
open Go.Lib

def isDig (b : UInt8) : Bool := decide (48 ≤ b.toNat) && decide (b.toNat ≤ 57)
def valD (l : List UInt8) : Nat := l.foldl (fun n b => 10 * n + (b.toNat - 48)) 0
theorem valD_snoc (l : List UInt8) (b : UInt8) : valD (l ++ [b]) = 10 * valD l + (b.toNat - 48) := by simp [valD, List.foldl_append]
theorem isDig_of {d : Nat} (h : d < 10) : isDig (UInt8.ofNat (48 + d)) = true := by
  have : (UInt8.ofNat (48 + d)).toNat = 48 + d := by simp; omega
  unfold isDig; rw [this]; simp; omega
theorem ofNat_val {d : Nat} (h : d < 10) : (UInt8.ofNat (48 + d)).toNat = 48 + d := by simp; omega
theorem decDigits_small {u : Nat} (h : u < 10) : decDigits u = [UInt8.ofNat (48 + u)] := by rw [decDigits, dif_pos h]
theorem decDigits_big {u : Nat} (h : ¬ u < 10) : decDigits u = decDigits (u / 10) ++ [UInt8.ofNat (48 + u % 10)] := by rw [decDigits, dif_neg h]
theorem decDigits_dig (u : Nat) : ∀ b ∈ decDigits u, isDig b = true := by
  induction u using Nat.strongRecOn with
  | _ u ih =>
    by_cases h : u < 10
    · rw [decDigits_small h]; intro b hb; simp only [List.mem_singleton] at hb; subst hb; exact isDig_of h
    · rw [decDigits_big h]
      intro b hb
      rw [List.mem_append] at hb
      rcases hb with hb | hb
      · exact ih _ (by omega) b hb
      · simp only [List.mem_singleton] at hb; subst hb; exact isDig_of (by omega)
theorem valD_dec (u : Nat) : valD (decDigits u) = u := by
  induction u using Nat.strongRecOn with
  | _ u ih =>
    by_cases h : u < 10
    · rw [decDigits_small h]; simp only [valD, List.foldl_cons, List.foldl_nil, ofNat_val h]; omega
    · rw [decDigits_big h, valD_snoc, ih _ (by omega), ofNat_val (by omega)]; omega
theorem dec_inj {a b : Nat} (h : decDigits a = decDigits b) : a = b := by rw [← valD_dec a, h, valD_dec]
theorem dec_ne (u : Nat) : decDigits u ≠ [] := by
  intro h
  have := decDigits_length u
  have h2 := nDigits_pos u
  rw [h] at this
  simp at this
  omega
/-- A numeral's first digit is no 0 but of 0. -/
theorem dec_head (u : Nat) (r : List UInt8) (h : decDigits u = 48 :: r) : r = [] ∧ u = 0 := by
  induction u using Nat.strongRecOn generalizing r with
  | _ u ih =>
    by_cases hu : u < 10
    · rw [decDigits_small hu] at h
      simp only [List.cons.injEq] at h
      have h2 := congrArg UInt8.toNat h.1
      rw [ofNat_val hu] at h2
      simp at h2
      exact ⟨h.2.symm, h2⟩
    · rw [decDigits_big hu] at h
      cases hq : decDigits (u / 10) with
      | nil => exact absurd hq (dec_ne _)
      | cons a t =>
        rw [hq] at h
        simp only [List.cons_append, List.cons.injEq] at h
        have := ih (u / 10) (by omega) t (by rw [hq, h.1])
        omega
theorem ofNat_sub {b : UInt8} (h : isDig b = true) : UInt8.ofNat (48 + (b.toNat - 48)) = b := by
  simp only [isDig, Bool.and_eq_true, decide_eq_true_eq] at h
  rw [show 48 + (b.toNat - 48) = b.toNat from by omega]
  simp
/-- Digits, the first no 0 unless it is alone: a numeral. -/
theorem dec_of (l : List UInt8) (hd : ∀ b ∈ l, isDig b = true) (hne : l ≠ []) (h0 : ∀ r, l = 48 :: r → r = []) : l = decDigits (valD l) := by
  obtain ⟨n, hn⟩ : ∃ n, l.length = n := ⟨_, rfl⟩
  induction n using Nat.strongRecOn generalizing l with
  | _ n ih =>
    rcases List.eq_nil_or_concat l with rfl | ⟨t, b, rfl⟩
    · exact absurd rfl hne
    · rw [List.concat_eq_append] at *
      have hb : isDig b = true := hd b (by simp)
      have hb2 := hb
      simp only [isDig, Bool.and_eq_true, decide_eq_true_eq] at hb2
      rw [valD_snoc]
      by_cases ht : t = []
      · subst ht
        rw [show valD [] = 0 from rfl, decDigits_small (by omega), Nat.mul_zero, Nat.zero_add, ofNat_sub hb]; rfl
      · have hlen : t.length < n := by rw [List.length_append] at hn; simp at hn; omega
        have iht := ih t.length hlen t (fun x hx => hd x (by simp [hx])) ht (fun r hr => by
          have := h0 (r ++ [b]) (by rw [hr]; rfl)
          simp at this) rfl
        have hv : valD t ≠ 0 := by
          intro hz
          rw [hz, decDigits_small (by omega)] at iht
          have := h0 [b] (by rw [iht]; rfl)
          simp at this
        rw [decDigits_big (by omega), show (10 * valD t + (b.toNat - 48)) / 10 = valD t from by omega, show (10 * valD t + (b.toNat - 48)) % 10 = b.toNat - 48 from by omega, ofNat_sub hb, ← iht]
theorem nDigits_le5 {u : Nat} (h : u < 100000) : nDigits u ≤ 5 := by
  rcases Nat.lt_or_ge u 10 with h1 | h1
  · rw [nDigits_small h1]; omega
  · rw [nDigits_big (by omega)]
    rcases Nat.lt_or_ge (u / 10) 10 with h2 | h2
    · rw [nDigits_small h2]; omega
    · rw [nDigits_big (by omega)]
      rcases Nat.lt_or_ge (u / 10 / 10) 10 with h3 | h3
      · rw [nDigits_small h3]; omega
      · rw [nDigits_big (by omega)]
        rcases Nat.lt_or_ge (u / 10 / 10 / 10) 10 with h4 | h4
        · rw [nDigits_small h4]; omega
        · rw [nDigits_big (by omega), nDigits_small (by omega)]; omega
theorem lt_of_le5 {u : Nat} (h : nDigits u ≤ 5) : u < 100000 := by
  have := lt_pow_nDigits u
  have h2 := Nat.pow_le_pow_right (n := 10) (by omega) h
  omega

/-- number. -/
def numP (l : List UInt8) : Option Nat := if l = [] ∨ 5 < l.length ∨ (l.head? = some 48 ∧ l ≠ [48]) ∨ l.all isDig = false then none else some (valD l)
theorem numP_iff (l : List UInt8) (k : Nat) : numP l = some k ↔ l = decDigits k ∧ k < 100000 := by
  unfold numP
  constructor
  · intro h
    split at h
    · cases h
    · rename_i hn
      simp only [not_or] at hn
      obtain ⟨h1, h2, h3, h4⟩ := hn
      obtain rfl := Option.some.inj h
      have hd := dec_of l (by simpa using h4) h1 (fun r hr => by
        subst hr
        simp only [List.head?_cons, true_and, ne_eq, Classical.not_not] at h3
        simpa using h3)
      refine ⟨hd, lt_of_le5 ?_⟩
      rw [← decDigits_length, ← hd]; omega
  · rintro ⟨rfl, hk⟩
    rw [if_neg, valD_dec]
    simp only [not_or]
    refine ⟨dec_ne k, ?_, ?_, ?_⟩
    · rw [decDigits_length]; have := nDigits_le5 hk; omega
    · rintro ⟨h1, h2⟩
      cases hq : decDigits k with
      | nil => exact dec_ne _ hq
      | cons a t =>
        rw [hq] at h1 h2
        simp only [List.head?_cons, Option.some.injEq] at h1
        subst h1
        obtain ⟨rfl, _⟩ := dec_head k t hq
        exact h2 rfl
    · simp only [Bool.not_eq_false, List.all_eq_true]
      exact decDigits_dig k

/-- Numbers with these between. -/
def joinT : List UInt8 → List Nat → List UInt8
  | [], [k] => decDigits k
  | c :: cs, k :: ks => decDigits k ++ c :: joinT cs ks
  | _, _ => []
/-- Parse's way. -/
def pL : List UInt8 → List UInt8 → Option (List Nat)
  | [], r => (numP r).map fun k => [k]
  | c :: cs, r => if indexByte r c < 0 then none else (numP (r.take (indexByte r c).toNat)).bind fun k => (pL cs (r.drop ((indexByte r c).toNat + 1))).map fun ks => k :: ks
theorem indexByte_split : ∀ (l : List UInt8) (c : UInt8), 0 ≤ indexByte l c → l = l.take (indexByte l c).toNat ++ c :: l.drop ((indexByte l c).toNat + 1)
  | [], c, h => by simp [indexByte] at h
  | b :: r, c, h => by
    unfold indexByte at h ⊢
    by_cases hb : b == c
    · simp only [hb, if_true]
      simp only [beq_iff_eq] at hb
      subst hb
      simp
    · simp only [hb] at h ⊢
      by_cases h1 : indexByte r c == -1
      · simp [h1] at h
      · simp only [h1] at h ⊢
        have hge := indexByte_ge r c
        simp only [beq_iff_eq] at h1
        have ih := indexByte_split r c (by omega)
        have e : (indexByte r c + 1).toNat = (indexByte r c).toNat + 1 := by omega
        simp only [e, Bool.false_eq_true, if_false, List.take_succ_cons, List.cons_append, List.drop_succ_cons]
        rw [← ih]
theorem indexByte_of : ∀ (a : List UInt8) (c : UInt8) (r : List UInt8), (∀ b ∈ a, b ≠ c) → indexByte (a ++ c :: r) c = a.length
  | [], c, r, _ => by simp [indexByte]
  | x :: a, c, r, h => by
    have hx : (x == c) = false := by simpa using h x (by simp)
    have ih := indexByte_of a c r (fun b hb => h b (by simp [hb]))
    simp only [List.cons_append, indexByte, hx, Bool.false_eq_true, if_false, ih]
    rw [if_neg (by simp)]
    simp
theorem pL_cons (c : UInt8) (cs a r : List UInt8) (h : ∀ b ∈ a, b ≠ c) : pL (c :: cs) (a ++ c :: r) = (numP a).bind fun k => (pL cs r).map fun ks => k :: ks := by
  have h1 := indexByte_of a c r h
  have e : (a ++ c :: r).drop (a.length + 1) = r := by
    rw [List.drop_append, List.drop_eq_nil_of_le (by omega), show a.length + 1 - a.length = 1 from by omega]; rfl
  simp only [pL, h1]
  rw [if_neg (by omega)]
  simp only [Int.toNat_natCast, List.take_left, e]
theorem pL_of : ∀ (cs : List UInt8) (l : List UInt8) (ks : List Nat), pL cs l = some ks → l = joinT cs ks ∧ ks.length = cs.length + 1 ∧ ∀ k ∈ ks, k < 100000
  | [], l, ks, h => by
    simp only [pL, Option.map_eq_some_iff] at h
    obtain ⟨k, hk, rfl⟩ := h
    obtain ⟨h1, h2⟩ := (numP_iff _ _).1 hk
    exact ⟨h1, rfl, by simpa using h2⟩
  | c :: cs, l, ks, h => by
    simp only [pL] at h
    split at h
    · cases h
    · rename_i hn
      simp only [Option.bind_eq_some_iff, Option.map_eq_some_iff] at h
      obtain ⟨k, hk, ks', hks, rfl⟩ := h
      obtain ⟨h1, h2⟩ := (numP_iff _ _).1 hk
      obtain ⟨h3, h4, h5⟩ := pL_of cs _ _ hks
      refine ⟨?_, by simp [h4], by simpa using ⟨h2, h5⟩⟩
      rw [joinT, ← h1, ← h3]
      exact indexByte_split l c (by omega)
theorem pL_join : ∀ (cs : List UInt8) (ks : List Nat), (∀ c ∈ cs, isDig c = false) → ks.length = cs.length + 1 → (∀ k ∈ ks, k < 100000) → pL cs (joinT cs ks) = some ks
  | [], ks, _, hl, hk => by
    match ks, hl with
    | [k], _ => simp only [joinT, pL, (numP_iff _ _).2 ⟨rfl, hk k (by simp)⟩]; rfl
  | c :: cs, ks, hc, hl, hk => by
    match ks, hl with
    | k :: ks, hl =>
      rw [joinT, pL_cons _ _ _ _ (fun b hb e => by
        have := decDigits_dig k b hb
        rw [e, hc c (by simp)] at this; cases this)]
      rw [(numP_iff _ _).2 ⟨rfl, hk k (by simp)⟩]
      simp [pL_join cs ks (fun x hx => hc x (by simp [hx])) (by simpa using hl) (fun x hx => hk x (by simp [hx]))]

/-- The reference's way. -/
def pushN (cur : List UInt8) (ns : List Nat) : Option (List Nat) := if cur = decDigits (valD cur) ∧ valD cur ≤ 70000 ∧ ns.length ≤ 6 then some (ns ++ [valD cur]) else none
def loopN : List UInt8 → List UInt8 → List Nat → Option (List Nat)
  | [], cur, ns => pushN cur ns
  | c :: r, cur, ns => if isDig c then loopN r (cur ++ [c]) ns else (pushN cur ns).bind fun m => loopN r [] m
theorem loopN_digs : ∀ (a r cur : List UInt8) (ns : List Nat), (∀ b ∈ a, isDig b = true) → loopN (a ++ r) cur ns = loopN r (cur ++ a) ns
  | [], r, cur, ns, _ => by simp
  | x :: a, r, cur, ns, h => by
    rw [List.cons_append, loopN, if_pos (h x (by simp)), loopN_digs a r _ ns (fun b hb => h b (by simp [hb]))]
    simp
theorem pushN_dec (k : Nat) (ns : List Nat) (hk : k ≤ 70000) (hn : ns.length ≤ 6) : pushN (decDigits k) ns = some (ns ++ [k]) := by
  unfold pushN; rw [valD_dec, if_pos ⟨rfl, hk, hn⟩]
theorem loopN_join : ∀ (cs : List UInt8) (ks ns : List Nat), (∀ c ∈ cs, isDig c = false) → ks.length = cs.length + 1 → (∀ k ∈ ks, k ≤ 70000) → ns.length + ks.length ≤ 7 → loopN (joinT cs ks) [] ns = some (ns ++ ks)
  | [], ks, ns, _, hl, hk, hn => by
    match ks, hl with
    | [k], _ =>
      simp only [joinT]
      have := loopN_digs (decDigits k) [] [] ns (decDigits_dig k)
      rw [List.append_nil] at this
      rw [this, List.nil_append, loopN, pushN_dec k ns (hk k (by simp)) (by simp at hn; omega)]
  | c :: cs, ks, ns, hc, hl, hk, hn => by
    match ks, hl with
    | k :: ks, hl =>
      simp only [joinT]
      rw [loopN_digs _ _ _ _ (decDigits_dig k), List.nil_append, loopN, if_neg (by rw [hc c (by simp)]; simp), pushN_dec k ns (hk k (by simp)) (by simp at hn; omega), Option.bind_some,
        loopN_join cs ks (ns ++ [k]) (fun x hx => hc x (by simp [hx])) (by simpa using hl) (fun x hx => hk x (by simp [hx])) (by simp at hn ⊢; omega)]
      simp

def sepsN : List UInt8 := [46, 46, 46, 47, 58, 45]
theorem sepsN_no : ∀ c ∈ sepsN, isDig c = false := by decide
def partsN (x : NetD) : List Nat := [x.ip.toNat / 16777216, x.ip.toNat / 65536 % 256, x.ip.toNat / 256 % 256, x.ip.toNat % 256, x.bits.toNat, x.lo.toNat, x.hi.toNat]
/-- A net's text. -/
def textN (x : NetD) : List UInt8 := joinT sepsN (partsN x)
def ofParts (a b c d e f g : Nat) : NetD := ⟨((((a * 256 + b) * 256 + c) * 256 + d : Nat) : Int), e, f, g⟩
theorem netF_zero {x : NetD} (h : netF x = 0) : 0 ≤ x.bits ∧ x.bits ≤ 32 ∧ 0 ≤ x.lo ∧ x.hi ≤ 65535 ∧ x.lo ≤ x.hi ∧ x.ip.toNat % 2 ^ (32 - x.bits.toNat) = 0 := by
  unfold netF at h
  split at h
  · omega
  · rename_i hb
    split at h
    · omega
    · rename_i hz
      simp only [NetD.bad, not_or] at hb
      simp only [ne_eq, Classical.not_not] at hz
      exact ⟨by omega, by omega, by omega, by omega, by omega, hz⟩
theorem parts_small {x : NetD} (hx : x.ok) (h : netF x = 0) : ∀ k ∈ partsN x, k ≤ 70000 := by
  obtain ⟨⟨i0, i1⟩, _⟩ := hx
  obtain ⟨h1, h2, h3, h4, h5, _⟩ := netF_zero h
  intro k hk
  simp only [partsN, List.mem_cons, List.not_mem_nil, or_false] at hk
  omega
theorem parts_of {x : NetD} (hx : x.ok) (h : netF x = 0) : ∃ a b c d e f g : Nat, partsN x = [a, b, c, d, e, f, g] ∧ a ≤ 255 ∧ b ≤ 255 ∧ c ≤ 255 ∧ d ≤ 255 ∧ x = ofParts a b c d e f g := by
  obtain ⟨⟨i0, i1⟩, _⟩ := hx
  obtain ⟨h1, h2, h3, h4, h5, _⟩ := netF_zero h
  obtain ⟨ip, bits, lo, hi⟩ := x
  simp only at *
  refine ⟨ip.toNat / 16777216, ip.toNat / 65536 % 256, ip.toNat / 256 % 256, ip.toNat % 256, bits.toNat, lo.toNat, hi.toNat, rfl, by omega, by omega, by omega, by omega, ?_⟩
  simp only [ofParts, NetD.mk.injEq]
  refine ⟨by omega, by omega, by omega, by omega⟩
theorem partsN_of (a b c d e f g : Nat) (_ : a ≤ 255) (hb : b ≤ 255) (hc : c ≤ 255) (hd : d ≤ 255) : partsN (ofParts a b c d e f g) = [a, b, c, d, e, f, g] := by
  simp only [partsN, ofParts, Int.toNat_natCast, List.cons.injEq, and_true]
  omega
/-- Read, by Parse's way: a right net's text, or none. -/
theorem pL_text {x : NetD} (hx : x.ok) (h : netF x = 0) : pL sepsN (textN x) = some (partsN x) :=
  pL_join _ _ sepsN_no rfl (fun k hk => by have := parts_small hx h k hk; omega)
theorem loopN_text {x : NetD} (hx : x.ok) (h : netF x = 0) : loopN (textN x) [] [] = some (partsN x) := by
  have := loopN_join sepsN (partsN x) [] sepsN_no rfl (parts_small hx h) (by simp [partsN])
  simpa [textN] using this
theorem textN_inj {x y : NetD} (hx : x.ok) (hy : y.ok) (h : netF x = 0) (k : netF y = 0) (e : textN x = textN y) : x = y := by
  have h1 := pL_text hx h
  rw [e, pL_text hy k] at h1
  obtain ⟨a, b, c, d, p, q, r, e1, _, _, _, _, rfl⟩ := parts_of hx h
  obtain ⟨a', b', c', d', p', q', r', e2, _, _, _, _, rfl⟩ := parts_of hy k
  rw [e1, e2] at h1
  simp only [Option.some.injEq, List.cons.injEq, and_true] at h1
  obtain ⟨rfl, rfl, rfl, rfl, rfl, rfl, rfl⟩ := h1
  rfl
/-- What the text l is read as. -/
def ReadN (l : List UInt8) : Option NetD → Prop
  | some x => x.ok ∧ netF x = 0 ∧ l = textN x
  | none => ∀ x : NetD, x.ok → netF x = 0 → l ≠ textN x
theorem ReadN.same {l : List UInt8} : ∀ {a b : Option NetD}, ReadN l a → ReadN l b → a = b
  | none, none, _, _ => rfl
  | some x, none, h, k => absurd h.2.2 (k x h.1 h.2.1)
  | none, some y, h, k => absurd k.2.2 (h y k.1 k.2.1)
  | some x, some y, h, k => by rw [textN_inj h.1 k.1 h.2.1 k.2.1 (h.2.2.symm.trans k.2.2)]

/-- An address as bytes. -/
def bytesA (ip port : Nat) : List UInt8 := [2, 0, UInt8.ofNat (port / 256), UInt8.ofNat (port % 256), UInt8.ofNat (ip / 16777216), UInt8.ofNat (ip / 65536 % 256), UInt8.ofNat (ip / 256 % 256), UInt8.ofNat (ip % 256), 0, 0, 0, 0, 0, 0, 0, 0]

end Go.Proofs.YtmgngapkgcofnabDoor
