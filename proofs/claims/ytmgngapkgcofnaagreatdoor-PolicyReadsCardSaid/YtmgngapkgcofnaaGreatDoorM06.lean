/- A net's text: the plain laws: what is read of it, by either way, is the net; addresses as bytes. -/
import Derived.Lib.ItoaNum
import Derived.Lib.Bytealg
import Derived.Test.YtmgngapkgcofnaaGreatDoorM02
import Derived.PlainAid
import Derived.Laws.IdiomStrings
namespace Go.Proofs.YtmgngapkgcofnaaGreatDoor
open Go.Lib

def isDig (b : UInt8) : Bool := decide (48 ≤ b.toNat) && decide (b.toNat ≤ 57)
def valD (l : List UInt8) : Nat := l.foldl (fun n b => 10 * n + (b.toNat - 48)) 0
theorem valD_snoc (l : List UInt8) (b : UInt8) : valD (l ++ [b]) = 10 * valD l + (b.toNat - 48) := by simp [valD, List.foldl_append]
theorem isDig_of {d : Nat} (h : d < 10) : isDig (UInt8.ofNat (48 + d)) = true := by
  have : (UInt8.ofNat (48 + d)).toNat = 48 + d := by simp; omega
  unfold isDig; rw [this]; simp; omega
theorem ofNat_val {d : Nat} (h : d < 10) : (UInt8.ofNat (48 + d)).toNat = 48 + d := by simp; omega
theorem decDigits_small {u : Nat} (h : u < 10) : decDigits u = [UInt8.ofNat (48 + u)] := by rw [decDigits, dif_pos h]
theorem decDigits_big {u : Nat} (h : ¬ u < 10) : decDigits u = decDigits (u / 10) ++ [UInt8.ofNat (48 + u % 10)] := by rw [decDigits, dif_neg h]
theorem decDigits_dig (u : Nat) : ∀ b ∈ decDigits u, isDig b = true := by
  induction u using Nat.strongRecOn with
  | _ u ih =>
    by_cases h : u < 10
    · rw [decDigits_small h]; intro b hb; simp only [List.mem_singleton] at hb; subst hb; exact isDig_of h
    · rw [decDigits_big h]
      intro b hb
      rw [List.mem_append] at hb
      rcases hb with hb | hb
      · exact ih _ (by omega) b hb
      · simp only [List.mem_singleton] at hb; subst hb; exact isDig_of (by omega)
theorem valD_dec (u : Nat) : valD (decDigits u) = u := by
  induction u using Nat.strongRecOn with
  | _ u ih =>
    by_cases h : u < 10
    · rw [decDigits_small h]; simp only [valD, List.foldl_cons, List.foldl_nil, ofNat_val h]; omega
    · rw [decDigits_big h, valD_snoc, ih _ (by omega), ofNat_val (by omega)]; omega
theorem dec_inj {a b : Nat} (h : decDigits a = decDigits b) : a = b := by rw [← valD_dec a, h, valD_dec]
theorem dec_ne (u : Nat) : decDigits u ≠ [] := by
  intro h
  have := decDigits_length u
  have h2 := nDigits_pos u
  rw [h] at this
  simp at this
  omega
/-- A numeral's first digit is no 0 but of 0. -/
theorem dec_head (u : Nat) (r : List UInt8) (h : decDigits u = 48 :: r) : r = [] ∧ u = 0 := by
  induction u using Nat.strongRecOn generalizing r with
  | _ u ih =>
    by_cases hu : u < 10
    · rw [decDigits_small hu] at h
      simp only [List.cons.injEq] at h
      have h2 := congrArg UInt8.toNat h.1
      rw [ofNat_val hu] at h2
      simp at h2
      exact ⟨h.2.symm, h2⟩
    · rw [decDigits_big hu] at h
      cases hq : decDigits (u / 10) with
      | nil => exact absurd hq (dec_ne _)
      | cons a t =>
        rw [hq] at h
        simp only [List.cons_append, List.cons.injEq] at h
        have := ih (u / 10) (by omega) t (by rw [hq, h.1])
        omega
theorem ofNat_sub {b : UInt8} (h : isDig b = true) : UInt8.ofNat (48 + (b.toNat - 48)) = b := by
  simp only [isDig, Bool.and_eq_true, decide_eq_true_eq] at h
  rw [show 48 + (b.toNat - 48) = b.toNat from by omega]
  simp
/-- Digits, the first no 0 unless it is alone: a numeral. -/
theorem dec_of (l : List UInt8) (hd : ∀ b ∈ l, isDig b = true) (hne : l ≠ []) (h0 : ∀ r, l = 48 :: r → r = []) : l = decDigits (valD l) := by
  obtain ⟨n, hn⟩ : ∃ n, l.length = n := ⟨_, rfl⟩
  induction n using Nat.strongRecOn generalizing l with
  | _ n ih =>
    rcases List.eq_nil_or_concat l with rfl | ⟨t, b, rfl⟩
    · exact absurd rfl hne
    · rw [List.concat_eq_append] at *
      have hb : isDig b = true := hd b (by simp)
      have hb2 := hb
      simp only [isDig, Bool.and_eq_true, decide_eq_true_eq] at hb2
      rw [valD_snoc]
      by_cases ht : t = []
      · subst ht
        rw [show valD [] = 0 from rfl, decDigits_small (by omega), Nat.mul_zero, Nat.zero_add, ofNat_sub hb]; rfl
      · have hlen : t.length < n := by rw [List.length_append] at hn; simp at hn; omega
        have iht := ih t.length hlen t (fun x hx => hd x (by simp [hx])) ht (fun r hr => by
          have := h0 (r ++ [b]) (by rw [hr]; rfl)
          simp at this) rfl
        have hv : valD t ≠ 0 := by
          intro hz
          rw [hz, decDigits_small (by omega)] at iht
          have := h0 [b] (by rw [iht]; rfl)
          simp at this
        rw [decDigits_big (by omega), show (10 * valD t + (b.toNat - 48)) / 10 = valD t from by omega, show (10 * valD t + (b.toNat - 48)) % 10 = b.toNat - 48 from by omega, ofNat_sub hb, ← iht]
theorem nDigits_le5 {u : Nat} (h : u < 100000) : nDigits u ≤ 5 := by
  rcases Nat.lt_or_ge u 10 with h1 | h1
  · rw [nDigits_small h1]; omega
  · rw [nDigits_big (by omega)]
    rcases Nat.lt_or_ge (u / 10) 10 with h2 | h2
    · rw [nDigits_small h2]; omega
    · rw [nDigits_big (by omega)]
      rcases Nat.lt_or_ge (u / 10 / 10) 10 with h3 | h3
      · rw [nDigits_small h3]; omega
      · rw [nDigits_big (by omega)]
        rcases Nat.lt_or_ge (u / 10 / 10 / 10) 10 with h4 | h4
        · rw [nDigits_small h4]; omega
        · rw [nDigits_big (by omega), nDigits_small (by omega)]; omega
theorem lt_of_le5 {u : Nat} (h : nDigits u ≤ 5) : u < 100000 := by
  have := lt_pow_nDigits u
  have h2 := Nat.pow_le_pow_right (n := 10) (by omega) h
  omega

/-- number. -/
def numP (l : List UInt8) : Option Nat := if l = [] ∨ 5 < l.length ∨ (l.head? = some 48 ∧ l ≠ [48]) ∨ l.all isDig = false then none else some (valD l)
theorem numP_iff (l : List UInt8) (k : Nat) : numP l = some k ↔ l = decDigits k ∧ k < 100000 := by
  unfold numP
  constructor
  · intro h
    split at h
    · cases h
    · rename_i hn
      simp only [not_or] at hn
      obtain ⟨h1, h2, h3, h4⟩ := hn
      obtain rfl := Option.some.inj h
      have hd := dec_of l (by simpa using h4) h1 (fun r hr => by
        subst hr
        simp only [List.head?_cons, true_and, ne_eq, Classical.not_not] at h3
        simpa using h3)
      refine ⟨hd, lt_of_le5 ?_⟩
      rw [← decDigits_length, ← hd]; omega
  · rintro ⟨rfl, hk⟩
    rw [if_neg, valD_dec]
    simp only [not_or]
    refine ⟨dec_ne k, ?_, ?_, ?_⟩
    · rw [decDigits_length]; have := nDigits_le5 hk; omega
    · rintro ⟨h1, h2⟩
      cases hq : decDigits k with
      | nil => exact dec_ne _ hq
      | cons a t =>
        rw [hq] at h1 h2
        simp only [List.head?_cons, Option.some.injEq] at h1
        subst h1
        obtain ⟨rfl, _⟩ := dec_head k t hq
        exact h2 rfl
    · simp only [Bool.not_eq_false, List.all_eq_true]
      exact decDigits_dig k

/-- Numbers with these between. -/
def joinT : List UInt8 → List Nat → List UInt8
  | [], [k] => decDigits k
  | c :: cs, k :: ks => decDigits k ++ c :: joinT cs ks
  | _, _ => []
/-- Parse's way. -/
def pL : List UInt8 → List UInt8 → Option (List Nat)
  | [], r => (numP r).map fun k => [k]
  | c :: cs, r => if indexByte r c < 0 then none else (numP (r.take (indexByte r c).toNat)).bind fun k => (pL cs (r.drop ((indexByte r c).toNat + 1))).map fun ks => k :: ks
theorem indexByte_split : ∀ (l : List UInt8) (c : UInt8), 0 ≤ indexByte l c → l = l.take (indexByte l c).toNat ++ c :: l.drop ((indexByte l c).toNat + 1)
  | [], c, h => by simp [indexByte] at h
  | b :: r, c, h => by
    unfold indexByte at h ⊢
    by_cases hb : b == c
    · simp only [hb, if_true]
      simp only [beq_iff_eq] at hb
      subst hb
      simp
    · simp only [hb] at h ⊢
      by_cases h1 : indexByte r c == -1
      · simp [h1] at h
      · simp only [h1] at h ⊢
        have hge := indexByte_ge r c
        simp only [beq_iff_eq] at h1
        have ih := indexByte_split r c (by omega)
        have e : (indexByte r c + 1).toNat = (indexByte r c).toNat + 1 := by omega
        simp only [e, Bool.false_eq_true, if_false, List.take_succ_cons, List.cons_append, List.drop_succ_cons]
        rw [← ih]
theorem indexByte_of : ∀ (a : List UInt8) (c : UInt8) (r : List UInt8), (∀ b ∈ a, b ≠ c) → indexByte (a ++ c :: r) c = a.length
  | [], c, r, _ => by simp [indexByte]
  | x :: a, c, r, h => by
    have hx : (x == c) = false := by simpa using h x (by simp)
    have ih := indexByte_of a c r (fun b hb => h b (by simp [hb]))
    simp only [List.cons_append, indexByte, hx, Bool.false_eq_true, if_false, ih]
    rw [if_neg (by simp)]
    simp
theorem pL_cons (c : UInt8) (cs a r : List UInt8) (h : ∀ b ∈ a, b ≠ c) : pL (c :: cs) (a ++ c :: r) = (numP a).bind fun k => (pL cs r).map fun ks => k :: ks := by
  have h1 := indexByte_of a c r h
  have e : (a ++ c :: r).drop (a.length + 1) = r := by
    rw [List.drop_append, List.drop_eq_nil_of_le (by omega), show a.length + 1 - a.length = 1 from by omega]; rfl
  simp only [pL, h1]
  rw [if_neg (by omega)]
  simp only [Int.toNat_natCast, List.take_left, e]
theorem pL_of : ∀ (cs : List UInt8) (l : List UInt8) (ks : List Nat), pL cs l = some ks → l = joinT cs ks ∧ ks.length = cs.length + 1 ∧ ∀ k ∈ ks, k < 100000
  | [], l, ks, h => by
    simp only [pL, Option.map_eq_some_iff] at h
    obtain ⟨k, hk, rfl⟩ := h
    obtain ⟨h1, h2⟩ := (numP_iff _ _).1 hk
    exact ⟨h1, rfl, by simpa using h2⟩
  | c :: cs, l, ks, h => by
    simp only [pL] at h
    split at h
    · cases h
    · rename_i hn
      simp only [Option.bind_eq_some_iff, Option.map_eq_some_iff] at h
      obtain ⟨k, hk, ks', hks, rfl⟩ := h
      obtain ⟨h1, h2⟩ := (numP_iff _ _).1 hk
      obtain ⟨h3, h4, h5⟩ := pL_of cs _ _ hks
      refine ⟨?_, by simp [h4], by simpa using ⟨h2, h5⟩⟩
      rw [joinT, ← h1, ← h3]
      exact indexByte_split l c (by omega)
theorem pL_join : ∀ (cs : List UInt8) (ks : List Nat), (∀ c ∈ cs, isDig c = false) → ks.length = cs.length + 1 → (∀ k ∈ ks, k < 100000) → pL cs (joinT cs ks) = some ks
  | [], ks, _, hl, hk => by
    match ks, hl with
    | [k], _ => simp only [joinT, pL, (numP_iff _ _).2 ⟨rfl, hk k (by simp)⟩]; rfl
  | c :: cs, ks, hc, hl, hk => by
    match ks, hl with
    | k :: ks, hl =>
      rw [joinT, pL_cons _ _ _ _ (fun b hb e => by
        have := decDigits_dig k b hb
        rw [e, hc c (by simp)] at this; cases this)]
      rw [(numP_iff _ _).2 ⟨rfl, hk k (by simp)⟩]
      simp [pL_join cs ks (fun x hx => hc x (by simp [hx])) (by simpa using hl) (fun x hx => hk x (by simp [hx]))]

/-- The reference's way. -/
def pushN (cur : List UInt8) (ns : List Nat) : Option (List Nat) := if cur = decDigits (valD cur) ∧ valD cur ≤ 70000 ∧ ns.length ≤ 6 then some (ns ++ [valD cur]) else none
def loopN : List UInt8 → List UInt8 → List Nat → Option (List Nat)
  | [], cur, ns => pushN cur ns
  | c :: r, cur, ns => if isDig c then loopN r (cur ++ [c]) ns else (pushN cur ns).bind fun m => loopN r [] m
theorem loopN_digs : ∀ (a r cur : List UInt8) (ns : List Nat), (∀ b ∈ a, isDig b = true) → loopN (a ++ r) cur ns = loopN r (cur ++ a) ns
  | [], r, cur, ns, _ => by simp
  | x :: a, r, cur, ns, h => by
    rw [List.cons_append, loopN, if_pos (h x (by simp)), loopN_digs a r _ ns (fun b hb => h b (by simp [hb]))]
    simp
theorem pushN_dec (k : Nat) (ns : List Nat) (hk : k ≤ 70000) (hn : ns.length ≤ 6) : pushN (decDigits k) ns = some (ns ++ [k]) := by
  unfold pushN; rw [valD_dec, if_pos ⟨rfl, hk, hn⟩]
theorem loopN_join : ∀ (cs : List UInt8) (ks ns : List Nat), (∀ c ∈ cs, isDig c = false) → ks.length = cs.length + 1 → (∀ k ∈ ks, k ≤ 70000) → ns.length + ks.length ≤ 7 → loopN (joinT cs ks) [] ns = some (ns ++ ks)
  | [], ks, ns, _, hl, hk, hn => by
    match ks, hl with
    | [k], _ =>
      simp only [joinT]
      have := loopN_digs (decDigits k) [] [] ns (decDigits_dig k)
      rw [List.append_nil] at this
      rw [this, List.nil_append, loopN, pushN_dec k ns (hk k (by simp)) (by simp at hn; omega)]
  | c :: cs, ks, ns, hc, hl, hk, hn => by
    match ks, hl with
    | k :: ks, hl =>
      simp only [joinT]
      rw [loopN_digs _ _ _ _ (decDigits_dig k), List.nil_append, loopN, if_neg (by rw [hc c (by simp)]; simp), pushN_dec k ns (hk k (by simp)) (by simp at hn; omega), Option.bind_some,
        loopN_join cs ks (ns ++ [k]) (fun x hx => hc x (by simp [hx])) (by simpa using hl) (fun x hx => hk x (by simp [hx])) (by simp at hn ⊢; omega)]
      simp

def sepsN : List UInt8 := [46, 46, 46, 47, 58, 45]
theorem sepsN_no : ∀ c ∈ sepsN, isDig c = false := by decide
def partsN (x : NetD) : List Nat := [x.ip.toNat / 16777216, x.ip.toNat / 65536 % 256, x.ip.toNat / 256 % 256, x.ip.toNat % 256, x.bits.toNat, x.lo.toNat, x.hi.toNat]
/-- A net's text. -/
def textN (x : NetD) : List UInt8 := joinT sepsN (partsN x)
def ofParts (a b c d e f g : Nat) : NetD := ⟨((((a * 256 + b) * 256 + c) * 256 + d : Nat) : Int), e, f, g⟩
theorem netF_zero {x : NetD} (h : netF x = 0) : 0 ≤ x.bits ∧ x.bits ≤ 32 ∧ 0 ≤ x.lo ∧ x.hi ≤ 65535 ∧ x.lo ≤ x.hi ∧ x.ip.toNat % 2 ^ (32 - x.bits.toNat) = 0 := by
  unfold netF at h
  split at h
  · omega
  · rename_i hb
    split at h
    · omega
    · rename_i hz
      simp only [NetD.bad, not_or] at hb
      simp only [ne_eq, Classical.not_not] at hz
      exact ⟨by omega, by omega, by omega, by omega, by omega, hz⟩
theorem parts_small {x : NetD} (hx : x.ok) (h : netF x = 0) : ∀ k ∈ partsN x, k ≤ 70000 := by
  obtain ⟨⟨i0, i1⟩, _⟩ := hx
  obtain ⟨h1, h2, h3, h4, h5, _⟩ := netF_zero h
  intro k hk
  simp only [partsN, List.mem_cons, List.not_mem_nil, or_false] at hk
  omega
theorem parts_of {x : NetD} (hx : x.ok) (h : netF x = 0) : ∃ a b c d e f g : Nat, partsN x = [a, b, c, d, e, f, g] ∧ a ≤ 255 ∧ b ≤ 255 ∧ c ≤ 255 ∧ d ≤ 255 ∧ x = ofParts a b c d e f g := by
  obtain ⟨⟨i0, i1⟩, _⟩ := hx
  obtain ⟨h1, h2, h3, h4, h5, _⟩ := netF_zero h
  obtain ⟨ip, bits, lo, hi⟩ := x
  simp only at *
  refine ⟨ip.toNat / 16777216, ip.toNat / 65536 % 256, ip.toNat / 256 % 256, ip.toNat % 256, bits.toNat, lo.toNat, hi.toNat, rfl, by omega, by omega, by omega, by omega, ?_⟩
  simp only [ofParts, NetD.mk.injEq]
  refine ⟨by omega, by omega, by omega, by omega⟩
theorem partsN_of (a b c d e f g : Nat) (_ : a ≤ 255) (hb : b ≤ 255) (hc : c ≤ 255) (hd : d ≤ 255) : partsN (ofParts a b c d e f g) = [a, b, c, d, e, f, g] := by
  simp only [partsN, ofParts, Int.toNat_natCast, List.cons.injEq, and_true]
  omega
/-- Read, by Parse's way: a right net's text, or none. -/
theorem pL_text {x : NetD} (hx : x.ok) (h : netF x = 0) : pL sepsN (textN x) = some (partsN x) :=
  pL_join _ _ sepsN_no rfl (fun k hk => by have := parts_small hx h k hk; omega)
theorem loopN_text {x : NetD} (hx : x.ok) (h : netF x = 0) : loopN (textN x) [] [] = some (partsN x) := by
  have := loopN_join sepsN (partsN x) [] sepsN_no rfl (parts_small hx h) (by simp [partsN])
  simpa [textN] using this
theorem textN_inj {x y : NetD} (hx : x.ok) (hy : y.ok) (h : netF x = 0) (k : netF y = 0) (e : textN x = textN y) : x = y := by
  have h1 := pL_text hx h
  rw [e, pL_text hy k] at h1
  obtain ⟨a, b, c, d, p, q, r, e1, _, _, _, _, rfl⟩ := parts_of hx h
  obtain ⟨a', b', c', d', p', q', r', e2, _, _, _, _, rfl⟩ := parts_of hy k
  rw [e1, e2] at h1
  simp only [Option.some.injEq, List.cons.injEq, and_true] at h1
  obtain ⟨rfl, rfl, rfl, rfl, rfl, rfl, rfl⟩ := h1
  rfl
/-- What the text l is read as. -/
def ReadN (l : List UInt8) : Option NetD → Prop
  | some x => x.ok ∧ netF x = 0 ∧ l = textN x
  | none => ∀ x : NetD, x.ok → netF x = 0 → l ≠ textN x
theorem ReadN.same {l : List UInt8} : ∀ {a b : Option NetD}, ReadN l a → ReadN l b → a = b
  | none, none, _, _ => rfl
  | some x, none, h, k => absurd h.2.2 (k x h.1 h.2.1)
  | none, some y, h, k => absurd k.2.2 (h y k.1 k.2.1)
  | some x, some y, h, k => by rw [textN_inj h.1 k.1 h.2.1 k.2.1 (h.2.2.symm.trans k.2.2)]

/-- An address as bytes. -/
def bytesA (ip port : Nat) : List UInt8 := [2, 0, UInt8.ofNat (port / 256), UInt8.ofNat (port % 256), UInt8.ofNat (ip / 16777216), UInt8.ofNat (ip / 65536 % 256), UInt8.ofNat (ip / 256 % 256), UInt8.ofNat (ip % 256), 0, 0, 0, 0, 0, 0, 0, 0]

end Go.Proofs.YtmgngapkgcofnaaGreatDoor
/- Policies as plain data; actions: checkAction and the reference's actionFault. -/
namespace Go.Proofs.YtmgngapkgcofnaaGreatDoor
open Go.RowKit

structure CondD where
  arg : Int
  op : Int
  v : Int
  m : Int
  glob : ByteArray
  net : NetD
def CondD.row (c : CondD) : List Value := [.int .i64 c.arg, .int .i64 c.op, .int .u64 c.v, .int .u64 c.m, .string c.glob, .int .u32 c.net.ip, .int .i64 c.net.bits, .int .i64 c.net.lo, .int .i64 c.net.hi]
def CondD.val (c : CondD) : Value := .agg #[.int .i64 c.arg, .int .i64 c.op, .int .u64 c.v, .int .u64 c.m, .string c.glob, .int .u32 c.net.ip, .int .i64 c.net.bits, .int .i64 c.net.lo, .int .i64 c.net.hi]
def CondD.ok (c : CondD) : Prop := (Lit.int .i64 c.arg).wf = true ∧ (Lit.int .i64 c.op).wf = true ∧ (0 ≤ c.v ∧ c.v < 18446744073709551616) ∧ (0 ≤ c.m ∧ c.m < 18446744073709551616) ∧ c.glob.size ≤ maxLen ∧ c.net.ok
structure RuleD where
  nr : Int
  conds : List CondD
  kind : Int
  errno : Int
structure PolD where
  rules : List RuleD
  kind : Int
  errno : Int
def actV (kind errno : Int) : Value := .agg #[.int .i64 kind, .int .i64 errno]
def actF (kind errno : Int) : Int := if kind = 1 ∨ kind = 3 then (if errno = 0 then 0 else 3) else if kind = 2 then (if errno < 1 ∨ 255 < errno then 1 else 0) else 3
theorem actF_ge (k e : Int) : 0 ≤ actF k e := by
  unfold actF
  split
  · split <;> omega
  · split
    · split <;> omega
    · omega
set_option linter.unusedSimpArgs false in
set_option maxHeartbeats 2000000 in
theorem checkAction_any (k e : Int) (w : World) :
    Calls Tryz.prog 37 #[actV k e] w fun e' w' => e' = .returned (errV (actF k e)) ∧ Below w.heap.size w w' := by
  unfold actV
  by_cases h1 : k = 1 ∨ k = 3
  · by_cases h2 : e = 0
    · have HF : Hid (errV (actF k e) = .nilIface) := by show _ = _; unfold actF; rw [if_pos h1, if_pos h2]; rfl
      subst h2
      rcases h1 with rfl | rfl
      all_goals
        go_enter Tryz.func37, Tryz.ntmps37
        go_wp2_with fail
        go_ret
        exact ⟨by rw [HF.out]; rfl, by go_grown⟩
    · have HF : Hid (errV (actF k e) = .iface 63 (.int .i64 3)) := by show _ = _; unfold actF; rw [if_pos h1, if_neg h2]; rfl
      rcases h1 with rfl | rfl
      all_goals
        go_enter Tryz.func37, Tryz.ntmps37
        go_wp2_with fail
        go_ret
        exact ⟨by rw [HF.out]; rfl, by go_grown⟩
  · have k1 : ¬ k = 1 := fun h => h1 (Or.inl h)
    have k3 : ¬ k = 3 := fun h => h1 (Or.inr h)
    by_cases h2 : k = 2
    · by_cases h3 : e < 1
      · have HF : Hid (errV (actF k e) = .iface 63 (.int .i64 1)) := by show _ = _; unfold actF; rw [if_neg h1, if_pos h2, if_pos (Or.inl h3)]; rfl
        subst h2
        clear h1 k1 k3
        go_enter Tryz.func37, Tryz.ntmps37
        go_wp2_with fail
        go_ret
        exact ⟨by rw [HF.out]; rfl, by go_grown⟩
      · by_cases h4 : 255 < e
        · have HF : Hid (errV (actF k e) = .iface 63 (.int .i64 1)) := by show _ = _; unfold actF; rw [if_neg h1, if_pos h2, if_pos (Or.inr h4)]; rfl
          subst h2
          clear h1 k1 k3
          go_enter Tryz.func37, Tryz.ntmps37
          go_wp2_with fail
          go_ret
          exact ⟨by rw [HF.out]; rfl, by go_grown⟩
        · have HF : Hid (errV (actF k e) = .nilIface) := by show _ = _; unfold actF; rw [if_neg h1, if_pos h2, if_neg (fun h => h.elim h3 h4)]; rfl
          subst h2
          clear h1 k1 k3
          go_enter Tryz.func37, Tryz.ntmps37
          go_wp2_with fail
          go_ret
          exact ⟨by rw [HF.out]; rfl, by go_grown⟩
    · have HF : Hid (errV (actF k e) = .iface 63 (.int .i64 3)) := by show _ = _; unfold actF; rw [if_neg h1, if_neg h2]; rfl
      clear h1
      go_enter Tryz.func37, Tryz.ntmps37
      go_wp2_with fail
      go_ret
      exact ⟨by rw [HF.out]; rfl, by go_grown⟩

set_option linter.unusedSimpArgs false in
set_option maxHeartbeats 2000000 in
theorem actionFault_any (k e : Int) (w : World) :
    Calls Tryz.prog 28 #[actV k e] w fun e' w' => e' = .returned (.int .i64 (actF k e)) ∧ Below w.heap.size w w' := by
  unfold actV
  by_cases h1 : k = 1 ∨ k = 3
  · by_cases h2 : e = 0
    · have HF : Hid (actF k e = 0) := by show _ = _; unfold actF; rw [if_pos h1, if_pos h2]
      subst h2
      rcases h1 with rfl | rfl
      all_goals
        go_enter Tryz.func28, Tryz.ntmps28
        go_wp2_with fail
        go_ret
        exact ⟨by rw [HF.out]; rfl, by go_grown⟩
    · have HF : Hid (actF k e = 3) := by show _ = _; unfold actF; rw [if_pos h1, if_neg h2]
      rcases h1 with rfl | rfl
      all_goals
        go_enter Tryz.func28, Tryz.ntmps28
        go_wp2_with fail
        go_ret
        exact ⟨by rw [HF.out]; rfl, by go_grown⟩
  · have k1 : ¬ k = 1 := fun h => h1 (Or.inl h)
    have k3 : ¬ k = 3 := fun h => h1 (Or.inr h)
    by_cases h2 : k = 2
    · by_cases h3 : e < 1
      · have HF : Hid (actF k e = 1) := by show _ = _; unfold actF; rw [if_neg h1, if_pos h2, if_pos (Or.inl h3)]
        subst h2
        clear h1 k1 k3
        go_enter Tryz.func28, Tryz.ntmps28
        go_wp2_with fail
        go_ret
        exact ⟨by rw [HF.out]; rfl, by go_grown⟩
      · by_cases h4 : 255 < e
        · have HF : Hid (actF k e = 1) := by show _ = _; unfold actF; rw [if_neg h1, if_pos h2, if_pos (Or.inr h4)]
          subst h2
          clear h1 k1 k3
          go_enter Tryz.func28, Tryz.ntmps28
          go_wp2_with fail
          go_ret
          exact ⟨by rw [HF.out]; rfl, by go_grown⟩
        · have HF : Hid (actF k e = 0) := by show _ = _; unfold actF; rw [if_neg h1, if_pos h2, if_neg (fun h => h.elim h3 h4)]
          subst h2
          clear h1 k1 k3
          go_enter Tryz.func28, Tryz.ntmps28
          go_wp2_with fail
          go_ret
          exact ⟨by rw [HF.out]; rfl, by go_grown⟩
    · have HF : Hid (actF k e = 3) := by show _ = _; unfold actF; rw [if_neg h1, if_neg h2]
      clear h1
      go_enter Tryz.func28, Tryz.ntmps28
      go_wp2_with fail
      go_ret
      exact ⟨by rw [HF.out]; rfl, by go_grown⟩

end Go.Proofs.YtmgngapkgcofnaaGreatDoor
/- addr.number: the walk. -/
namespace Go.Proofs.YtmgngapkgcofnaaGreatDoor
open Go.RowKit Go.PlainAid

theorem bt_list (s : ByteArray) (k : Nat) (h : k < s.data.toList.length) : bt s k = (s.data.toList[k].toNat : Int) := by
  have : k < s.size := by simpa using h
  unfold bt
  rw [dif_pos this]
  rfl
theorem take_snoc (s : ByteArray) (k : Nat) (h : k < s.data.toList.length) : s.data.toList.take (k + 1) = s.data.toList.take k ++ [s.data.toList[k]] := by rw [List.take_add_one, List.getElem?_eq_getElem h]; rfl
theorem isDig_bt (s : ByteArray) (k : Nat) (h : k < s.data.toList.length) : isDig s.data.toList[k] = true ↔ 48 ≤ bt s k ∧ bt s k ≤ 57 := by
  rw [bt_list s k h]; unfold isDig; simp; omega
theorem valD_bt (s : ByteArray) (k : Nat) (h : k < s.data.toList.length) (hd : 48 ≤ bt s k) : (valD (s.data.toList.take (k + 1)) : Int) = 10 * (valD (s.data.toList.take k) : Int) + (bt s k - 48) := by
  have hb := bt_list s k h
  rw [take_snoc s k h, valD_snoc, hb]
  rw [hb] at hd
  push_cast
  omega
theorem valD_lt (l : List UInt8) (hd : ∀ b ∈ l, isDig b = true) : valD l < 10 ^ l.length := by
  obtain ⟨n, hn⟩ : ∃ n, l.length = n := ⟨_, rfl⟩
  induction n generalizing l with
  | zero => obtain rfl := List.eq_nil_of_length_eq_zero hn; simp [valD]
  | succ n ih =>
    rcases List.eq_nil_or_concat l with rfl | ⟨t, b, rfl⟩
    · simp at hn
    · rw [List.concat_eq_append] at *
      have ht : t.length = n := by rw [List.length_append] at hn; simp at hn; omega
      have := ih t (fun x hx => hd x (by simp [hx])) ht
      have hb := hd b (by simp)
      simp only [isDig, Bool.and_eq_true, decide_eq_true_eq] at hb
      rw [valD_snoc, hn, Nat.pow_succ]
      rw [ht] at this
      omega
theorem nEmpty_of (t : ByteArray) : t.toList.isEmpty = decide (t.size = 0) := by
  rw [ByteArray.toList_eq, Bool.eq_iff_iff]
  simp [← ByteArray.size_data]
/-- What number answers. -/
def NumR (l : List UInt8) (e : Ending) : Prop := match numP l with
  | some k => e = .returned (.tuple #[.int .i64 k, .bool true])
  | none => e = .returned (.tuple #[.int .i64 0, .bool false])

set_option linter.unusedSimpArgs false in
set_option maxHeartbeats 2000000 in
theorem number_any (s : ByteArray) (w : World) :
    Calls Tryz.prog 93 #[.string s] w fun e w' => NumR s.data.toList e ∧ w = w' := by
  have hsz : s.data.toList.length = s.size := by simp
  have hb := get_bt s
  by_cases h5 : 5 < s.size
  · have HF : Hid (numP s.data.toList = none) := by show _ = _; unfold numP; rw [if_pos (Or.inr (Or.inl (by omega)))]
    have x1 : (5 : Int) < (s.size : Int) := by omega
    have y1 : s.toList.isEmpty = false := by rw [nEmpty_of]; exact decide_eq_false (by omega)
    clear h5 hsz hb
    go_enter Tryz.func93, Tryz.ntmps93
    go_wp2_with fail
    go_returns
    exact ⟨by unfold NumR; rw [HF.out]; rfl, rfl⟩
  · have x1 : ¬ (5 : Int) < (s.size : Int) := by omega
    by_cases h0 : s.size = 0
    · have HF : Hid (numP s.data.toList = none) := by show _ = _; unfold numP; rw [if_pos (Or.inl (List.eq_nil_of_length_eq_zero (by omega)))]
      have y1 : s.toList.isEmpty = true := by rw [nEmpty_of]; exact decide_eq_true h0
      clear h5 hsz hb h0
      go_enter Tryz.func93, Tryz.ntmps93
      go_wp2_with fail
      go_returns
      exact ⟨by unfold NumR; rw [HF.out]; rfl, rfl⟩
    · have y1 : s.toList.isEmpty = false := by rw [nEmpty_of]; exact decide_eq_false h0
      have hp : 0 < s.size := by omega
      have hl0 : 0 < s.data.toList.length := by omega
      have hb0 := bt_list s 0 hl0
      have hcons : ∃ r, s.data.toList = s.data.toList[0] :: r := ⟨s.data.toList.tail, by
        rw [List.getElem_zero]; exact (List.cons_head_tail _).symm⟩
      have htl : s.toList = s.data.toList := ByteArray.toList_eq s
      by_cases hz : bt s 0 = 48 ∧ s.data.toList ≠ [48]
      · have HF : Hid (numP s.data.toList = none) := by
          have hh : s.data.toList.head? = some 48 := by
            obtain ⟨r, hr⟩ := hcons
            rw [hr, List.head?_cons]
            have h1 := hz.1
            rw [hb0] at h1
            congr 1
            exact UInt8.toNat_inj.1 (by show _ = 48; omega)
          show _ = _; unfold numP; exact if_pos (Or.inr (Or.inr (Or.inl ⟨hh, hz.2⟩)))
        have z1 := hz.1
        have z2 : (s.toList == [48]) = false := by rw [htl]; simpa using hz.2
        clear h5 hsz h0 hl0 hb0 hcons htl hz
        go_enter Tryz.func93, Tryz.ntmps93
        go_wp2_with fail
        go_returns
        exact ⟨by unfold NumR; rw [HF.out]; rfl, rfl⟩
      · have HN : Hid (∀ b, numP s.data.toList = b ↔ (if s.data.toList.all isDig = false then none else some (valD s.data.toList)) = b) := fun b => by
          unfold numP
          have e : (s.data.toList = [] ∨ 5 < s.data.toList.length ∨ (s.data.toList.head? = some 48 ∧ s.data.toList ≠ [48]) ∨ s.data.toList.all isDig = false) ↔ s.data.toList.all isDig = false := by
            refine ⟨fun h => ?_, fun h => Or.inr (Or.inr (Or.inr h))⟩
            rcases h with h | h | h | h
            · rw [h] at hl0; simp at hl0
            · omega
            · exfalso
              refine hz ⟨?_, h.2⟩
              obtain ⟨r, hr⟩ := hcons
              have h1 := h.1
              rw [hr, List.head?_cons] at h1
              rw [hb0, Option.some.inj h1]; rfl
            · exact h
          simp only [e]
        have HZ : Hid (bt s 0 = 48 → (s.toList == [48]) = false → False) := fun h1 h2 => hz ⟨h1, by rw [htl] at h2; simpa using h2⟩
        have H5 : Hid (s.size ≤ 5) := by show s.size ≤ 5; omega
        clear hz hcons htl hb0 hl0 h5 h0
        go_enter Tryz.func93, Tryz.ntmps93
        go_wp2_with fail
        all_goals first
          | (exfalso; rename_i q1 q2; exact HZ.out q1 (by simpa using q2))
          | skip
        all_goals
          go_loop [4, 24] (fun nv iv => ∃ k : Nat, k ≤ s.size ∧ iv = .int .i64 k ∧ nv = .int .i64 (valD (s.data.toList.take k)) ∧ Hid (∀ b ∈ s.data.toList.take k, isDig b = true)) (fun _ iv => s.size - (intOf iv).toNat)
          case atStart => exact ⟨0, Nat.zero_le _, rfl, rfl, fun b hb => by simp at hb⟩
          case round =>
            obtain ⟨k, hk, rfl, rfl, hD⟩ := hrel
            by_cases hlt : k < s.size
            · have hkl : k < s.data.toList.length := by omega
              have i1 : (k : Int) < (s.size : Int) := by omega
              have i2 : (0 : Int) ≤ (k : Int) := by omega
              have hdig := isDig_bt s k hkl
              by_cases hd : 48 ≤ bt s k ∧ bt s k ≤ 57
              · have hv := valD_bt s k hkl hd.1
                have hv2 := valD_lt _ hD.out
                have hv3 : 10 ^ (s.data.toList.take k).length ≤ 10 ^ 4 := Nat.pow_le_pow_right (by omega) (by rw [List.length_take]; have := H5.out; omega)
                have HD2 : Hid (∀ b ∈ s.data.toList.take (k + 1), isDig b = true) := by
                  intro b hb'
                  rw [take_snoc s k hkl, List.mem_append] at hb'
                  rcases hb' with h | h
                  · exact hD.out b h
                  · simp only [List.mem_singleton] at h; subst h; exact hdig.2 hd
                have d1 : ¬ bt s k < 48 := by omega
                have d2 : ¬ 57 < bt s k := by omega
                generalize valD (s.data.toList.take k) = V at *
                have hV : (V : Int) < 10000 := by omega
                have HV := Lib.hid hv
                clear hv hv2 hv3 hdig hkl
                go_wp2_with fail
                go_round
                case rel => exact ⟨k + 1, by omega, by go_num, by rw [HV.out]; try go_num, HD2⟩
                case measure => simp [intOf]; omega
              · have HF : Hid (numP s.data.toList = none) := (HN.out _).2 (by
                  rw [if_pos]
                  rw [Bool.eq_false_iff]
                  intro h
                  rw [List.all_eq_true] at h
                  exact hd (hdig.1 (h _ (List.getElem_mem hkl))))
                clear hdig hkl
                have hd2 : bt s k < 48 ∨ 57 < bt s k := by omega
                clear hd
                rcases hd2 with hd | hd
                · go_wp2_with fail
                  go_returns
                  exact ⟨by unfold NumR; rw [HF.out]; rfl, rfl⟩
                · go_wp2_with fail
                  go_returns
                  exact ⟨by unfold NumR; rw [HF.out]; rfl, rfl⟩
            · obtain rfl : k = s.size := by omega
              have htk : s.data.toList.take s.size = s.data.toList := by rw [← hsz]; exact List.take_length
              rw [htk] at hD
              have HF : Hid (numP s.data.toList = some (valD s.data.toList)) := (HN.out _).2 (if_neg (by rw [Bool.not_eq_false, List.all_eq_true]; exact hD.out))
              rw [htk]
              go_wp2_with fail
              go_returns
              exact ⟨by unfold NumR; rw [HF.out]; rfl, rfl⟩
end Go.Proofs.YtmgngapkgcofnaaGreatDoor
/- The reference's Digits and Figures: the walks. -/
namespace Go.Proofs.YtmgngapkgcofnaaGreatDoor
open Go.RowKit Go.PlainAid

theorem nDigits_le : ∀ (k n : Nat), n < 10 ^ (k + 1) → Lib.nDigits n ≤ k + 1
  | 0, n, h => by rw [Lib.nDigits_small (by simpa using h)]; omega
  | k + 1, n, h => by
    by_cases hn : n < 10
    · rw [Lib.nDigits_small hn]; omega
    · rw [Lib.nDigits_big hn]
      have := nDigits_le k (n / 10) (by rw [Nat.pow_succ] at h; omega)
      omega
set_option linter.unusedSimpArgs false in
set_option maxRecDepth 100000 in
set_option maxHeartbeats 2000000 in
theorem digits_any (n : Nat) (w : World) (hn : n < 18446744073709551616) :
    Calls Tryz.prog 64 #[.int .u64 n] w fun e w' => e = .returned (.string ⟨(Lib.decDigits n).toArray⟩) ∧ Below w.heap.size w w' := by
  have HNN := Lib.hid hn
  go_enter Tryz.func64, Tryz.ntmps64
  go_wp2_with fail
  go_loopw [0, 3] (fun nv sv wr => ∃ (m : Nat) (l : List UInt8), nv = .int .u64 m ∧ sv = .string ⟨l.toArray⟩ ∧ m ≤ n ∧ Hid (Lib.decDigits n = Lib.decDigits m ++ l) ∧ Hid (Below w.heap.size w wr)) (fun nv _ _ => (intOf nv).toNat)
  case atStart => exact ⟨n, [], rfl, rfl, Nat.le_refl _, by show _ = _; simp, Below.refl _ _⟩
  case round =>
    obtain ⟨m, l, rfl, rfl, hm, HD, HB⟩ := hrel
    have HN : Hid (m < 18446744073709551616) := by show _ < _; omega
    have HMN : Hid (m / 10 ≤ n) := by show _ ≤ _; omega
    clear hn hm
    have hcv : (convert 88 9 (.slice (some ⟨wr.heap.size, 0, none⟩) 1 1)).run Tryz.prog (wr.alloc (.cells #[.int .u8 (48 + (m : Int) % 10)] 5)) = .ok (.string ⟨#[UInt8.ofNat (48 + m % 10)]⟩) (wr.alloc (.cells #[.int .u8 (48 + (m : Int) % 10)] 5)) := by
      refine run_convert_bytes_back (wr.alloc (.cells #[.int .u8 (48 + (m : Int) % 10)] 5)) 88 9 5 ⟨wr.heap.size, 0, none⟩ 1 [UInt8.ofNat (48 + m % 10)] Tryz.underlying88 Tryz.underlying5 Tryz.underlying9 ?_
      intro j hj
      obtain rfl : j = 0 := by simp at hj; exact hj
      rw [show (⟨wr.heap.size, 0, none⟩ : Addr).add 0 = ⟨wr.heap.size, 0, none⟩ from rfl, cell_of_row _ _ _ _ _ _ (heap_alloc_new _ _)]
      have := ofNat_val (d := m % 10) (by omega)
      simp only [List.getElem_cons_zero, this]
      simp
    have HC2 : Hid (⟨#[UInt8.ofNat (48 + m % 10)]⟩ ++ ⟨l.toArray⟩ = (⟨(UInt8.ofNat (48 + m % 10) :: l).toArray⟩ : ByteArray)) := by
      show _ = _
      apply ByteArray.ext
      simp
    have HB2 : Hid (Below w.heap.size w (wr.alloc (.cells #[.int .u8 (48 + (m : Int) % 10)] 5))) := HB.out.alloc HB.out.size _
    have hll : (1 + l.length) ≤ 30 := by
      have h1 := congrArg List.length HD.out
      rw [List.length_append, Lib.decDigits_length] at h1
      have h2 := nDigits_le 19 n (by have := HNN.out; omega)
      omega
    have hll2 : ¬ 9223372036854775807 < 1 + l.length := by omega
    by_cases hm : m < 10
    · have hz : (m : Int) / 10 = 0 := by omega
      have HF : Hid (Lib.decDigits n = UInt8.ofNat (48 + m % 10) :: l) := by
        show _ = _
        rw [HD.out, decDigits_small hm, Nat.mod_eq_of_lt hm]; rfl
      clear hm hll
      generalize UInt8.ofNat (48 + m % 10) = c at *
      go_wp2_with fail
      go_returns
      exact ⟨by rw [HF.out, HC2.out]; rfl, HB2.out⟩
    · have hz : ¬ (m : Int) / 10 = 0 := by omega
      have hwr : IntKind.u64.wrap ((m : Int) / 10) = (m : Int) / 10 := IntWalk.u64_in _ (by have := HN.out; omega)
      have HF : Hid (Lib.decDigits n = Lib.decDigits (m / 10) ++ (UInt8.ofNat (48 + m % 10) :: l)) := by
        show _ = _
        rw [HD.out, decDigits_big hm]; simp
      have hme : Hid (m / 10 < m) := by show _ < _; omega
      clear hm hll
      generalize UInt8.ofNat (48 + m % 10) = c at *
      go_wp2_with fail
      go_roundw
      case rel => exact ⟨m / 10, _, by go_num, by rw [HC2.out], HMN.out, HF, HB2⟩
      case measure => have := hme.out; simp [intOf]; omega

/-- What Figures answers. -/
def FigR (l : List UInt8) (x : Nat) (ok : Bool) : Prop := (ok = true → l = Lib.decDigits x) ∧ ∀ k, k < 18446744073709551616 → l = Lib.decDigits k → x = k ∧ ok = true
def FigE (l : List UInt8) (e : Ending) : Prop := ∃ (x : Nat) (ok : Bool), e = .returned (.tuple #[.int .u64 (x : Nat), .bool ok]) ∧ x < 18446744073709551616 ∧ FigR l x ok
theorem figR_no {l : List UInt8} (h : ∀ k, k < 18446744073709551616 → l ≠ Lib.decDigits k) : FigR l 0 false := ⟨fun h => (by cases h), fun k hk e => absurd e (h k hk)⟩
theorem step64 (V : Nat) (d : Int) (h0 : 48 ≤ d) (h1 : d ≤ 57) (N N' : Nat) (hN : N = V % 18446744073709551616) (hN' : N' = (10 * V + (d.toNat - 48)) % 18446744073709551616) : IntKind.u64.wrap (IntKind.u64.wrap ((N : Int) * 10) + (d - 48)) = (N' : Int) := by
  simp only [IntKind.wrap_u64]
  omega
set_option linter.unusedSimpArgs false in
set_option maxRecDepth 100000 in
set_option maxHeartbeats 2000000 in
theorem figures_any (s : ByteArray) (w : World) :
    Calls Tryz.prog 48 #[.string s] w fun e w' => FigE s.data.toList e ∧ Below w.heap.size w w' := by
  have hsz : s.data.toList.length = s.size := by simp
  have hb := get_bt s
  by_cases h20 : 20 < s.size
  · have HF : Hid (FigR s.data.toList 0 false) := figR_no (fun k hk e => by
      have h1 := congrArg List.length e
      rw [Lib.decDigits_length] at h1
      have h2 := nDigits_le 19 k (by omega)
      omega)
    have x1 : (20 : Int) < (s.size : Int) := by omega
    clear h20 hsz hb
    go_enter Tryz.func48, Tryz.ntmps48
    go_wp2_with fail
    go_returns
    exact ⟨⟨0, false, rfl, by omega, HF.out⟩, Below.refl _ _⟩
  · have x1 : ¬ (20 : Int) < (s.size : Int) := by omega
    have H20 := Lib.hid h20
    clear h20
    go_enter Tryz.func48, Tryz.ntmps48
    go_wp2_with fail
    go_loop [4, 5] (fun nv iv => ∃ k N : Nat, k ≤ s.size ∧ iv = .int .i64 k ∧ nv = .int .u64 N ∧ Hid (N = valD (s.data.toList.take k) % 18446744073709551616) ∧ Hid (∀ b ∈ s.data.toList.take k, isDig b = true)) (fun _ iv => s.size - (intOf iv).toNat)
    case atStart => exact ⟨0, 0, Nat.zero_le _, rfl, rfl, rfl, fun b hb => by simp at hb⟩
    case round =>
      obtain ⟨k, N, hk, rfl, rfl, HN, hD⟩ := hrel
      by_cases hlt : k < s.size
      · have hkl : k < s.data.toList.length := by omega
        have i1 : (k : Int) < (s.size : Int) := by omega
        have i2 : (0 : Int) ≤ (k : Int) := by omega
        have hdig := isDig_bt s k hkl
        by_cases hd : 48 ≤ bt s k ∧ bt s k ≤ 57
        · have HD2 : Hid (∀ b ∈ s.data.toList.take (k + 1), isDig b = true) := by
            intro b hb'
            rw [take_snoc s k hkl, List.mem_append] at hb'
            rcases hb' with h | h
            · exact hD.out b h
            · simp only [List.mem_singleton] at h; subst h; exact hdig.2 hd
          have hv : valD (s.data.toList.take (k + 1)) = 10 * valD (s.data.toList.take k) + ((bt s k).toNat - 48) := by
            rw [take_snoc s k hkl, valD_snoc, bt_list s k hkl, Int.toNat_natCast]
          obtain ⟨N', HN'⟩ : ∃ N', Hid (N' = valD (s.data.toList.take (k + 1)) % 18446744073709551616) := ⟨_, rfl⟩
          have hst := step64 _ (bt s k) hd.1 hd.2 N N' HN.out (by rw [HN'.out, hv])
          have d1 : ¬ bt s k < 48 := by omega
          have d2 : ¬ 57 < bt s k := by omega
          have d3 : (bt s k - 48) % 256 = bt s k - 48 := by omega
          clear hv hdig hkl hd
          go_wp2_with fail
          go_round
          case rel => exact ⟨k + 1, N', by omega, by go_num, by first | rfl | rw [hst], HN', HD2⟩
          case measure => simp [intOf]; omega
        · have HF : Hid (FigR s.data.toList 0 false) := figR_no (fun j _ e => by
            have h1 : isDig s.data.toList[k] = true := decDigits_dig j _ (by rw [← e]; exact List.getElem_mem hkl)
            exact hd (hdig.1 h1))
          clear hdig hkl
          have hd2 : bt s k < 48 ∨ 57 < bt s k := by omega
          clear hd
          rcases hd2 with hd | hd
          · go_wp2_with fail
            go_returns
            exact ⟨⟨0, false, rfl, by omega, HF.out⟩, Below.refl _ _⟩
          · go_wp2_with fail
            go_returns
            exact ⟨⟨0, false, rfl, by omega, HF.out⟩, Below.refl _ _⟩
      · obtain rfl : k = s.size := by omega
        have htk : s.data.toList.take s.size = s.data.toList := by rw [← hsz]; exact List.take_length
        rw [htk] at HN
        have HNL : Hid (N < 18446744073709551616) := by show _ < _; have := HN.out; omega
        have HDG : Hid (∀ w, Calls Tryz.prog 64 #[.int .u64 N] w fun e w' => e = .returned (.string ⟨(Lib.decDigits N).toArray⟩) ∧ Below w.heap.size w w') := fun w => digits_any N w HNL.out
        have htl : s.toList = s.data.toList := ByteArray.toList_eq s
        clear htk hsz
        go_wp2_with (go_at_call 64; refine cargs (by simp [Act.eval]) ((HDG.out _).mono ?_); rintro e w1 ⟨rfl, hb1⟩)
        go_returns
        refine ⟨⟨N, Lib.decDigits N == s.data.toList, rfl, HNL.out, fun h => ?_, fun j hj e => ?_⟩, hb1⟩
        · simp only [beq_iff_eq] at h
          exact h.symm
        · have hNj : N = j := by
            have h1 := HN.out
            rw [e, valD_dec] at h1
            omega
          subst hNj
          exact ⟨rfl, by rw [e]; simp⟩
end Go.Proofs.YtmgngapkgcofnaaGreatDoor
