/- Policies as plain data; actions: checkAction and the reference's actionFault. -/
import Derived.Test.YtmgngapkgcofnabGreatDoorP08
import Derived.Lib.ItoaNum
import Derived.Lib.Bytealg
import Derived.PlainAid
import Derived.Laws.IdiomStrings
import Derived.Test.YtmgngapkgcofnabGreatDoorP09
import Derived.Shelf.Strings.Builder1
import Derived.Shelf.Strings.Builder2
import Derived.Shelf.Strings.BuilderF
import Derived.Shelf.Strings.BuilderK
import Derived.Shelf.Strings.Builder2Cap
import Derived.Shelf.Strings.BuilderCap
import Derived.Lib.AppendIntMem
namespace Go.Proofs.YtmgngapkgcofnabGreatDoor
open Go.RowKit
structure CondD where
 arg : Int
 op : Int
 v : Int
 m : Int
 glob : ByteArray
 net : NetD
def CondD.row (c : CondD) : List Value := [.int .i64 c.arg, .int .i64 c.op, .int .u64 c.v, .int .u64 c.m, .string c.glob, .int .u32 c.net.ip, .int .i64 c.net.bits, .int .i64 c.net.lo, .int .i64 c.net.hi]
def CondD.val (c : CondD) : Value := .agg #[.int .i64 c.arg, .int .i64 c.op, .int .u64 c.v, .int .u64 c.m, .string c.glob, .int .u32 c.net.ip, .int .i64 c.net.bits, .int .i64 c.net.lo, .int .i64 c.net.hi]
def CondD.ok (c : CondD) : Prop := (Lit.int .i64 c.arg).wf = true ∧ (Lit.int .i64 c.op).wf = true ∧ (0 ≤ c.v ∧ c.v < 18446744073709551616) ∧ (0 ≤ c.m ∧ c.m < 18446744073709551616) ∧ c.glob.size ≤ maxLen ∧ c.net.ok
structure RuleD where
 nr : Int
 conds : List CondD
 kind : Int
 errno : Int
structure PolD where
 rules : List RuleD
 kind : Int
 errno : Int
def actV (kind errno : Int) : Value := .agg #[.int .i64 kind, .int .i64 errno]
def actF (kind errno : Int) : Int := if kind = 1 ∨ kind = 3 then (if errno = 0 then 0 else 3) else if kind = 2 then (if errno < 1 ∨ 255 < errno then 1 else 0) else 3
set_option linter.unusedSimpArgs false in
set_option maxHeartbeats 2000000 in
theorem checkAction_any (k e : Int) (w : World) :
  Calls Tryz.prog 126 #[actV k e] w fun e' w' => e' = .returned (errV (actF k e)) ∧ Below w.heap.size w w' := by
 unfold actV
 by_cases h1 : k = 1 ∨ k = 3
 ·by_cases h2 : e = 0
  ·have HF : Hid (errV (actF k e) = .nilIface) := by show _ = _; unfold actF; rw [if_pos h1, if_pos h2]; rfl
   subst h2; rcases h1 with rfl | rfl
   all_goals
    go_enter Tryz.func126, Tryz.ntmps126
    go_wp2_with fail; go_ret; exact ⟨by rw [HF.out]; rfl, by go_grown⟩
  ·have HF : Hid (errV (actF k e) = .iface 105 (.int .i64 3)) := by show _ = _; unfold actF; rw [if_pos h1, if_neg h2]; rfl
   rcases h1 with rfl | rfl
   all_goals
    go_enter Tryz.func126, Tryz.ntmps126
    go_wp2_with fail; go_ret; exact ⟨by rw [HF.out]; rfl, by go_grown⟩
 ·have k1 : ¬ k = 1 := fun h => h1 (Or.inl h); have k3 : ¬ k = 3 := fun h => h1 (Or.inr h)
  by_cases h2 : k = 2
  ·by_cases h3 : e < 1
   ·have HF : Hid (errV (actF k e) = .iface 105 (.int .i64 1)) := by show _ = _; unfold actF; rw [if_neg h1, if_pos h2, if_pos (Or.inl h3)]; rfl
    subst h2; clear h1 k1 k3; go_enter Tryz.func126, Tryz.ntmps126
    go_wp2_with fail; go_ret; exact ⟨by rw [HF.out]; rfl, by go_grown⟩
   ·by_cases h4 : 255 < e
    ·have HF : Hid (errV (actF k e) = .iface 105 (.int .i64 1)) := by show _ = _; unfold actF; rw [if_neg h1, if_pos h2, if_pos (Or.inr h4)]; rfl
     subst h2; clear h1 k1 k3; go_enter Tryz.func126, Tryz.ntmps126
     go_wp2_with fail; go_ret; exact ⟨by rw [HF.out]; rfl, by go_grown⟩
    ·have HF : Hid (errV (actF k e) = .nilIface) := by show _ = _; unfold actF; rw [if_neg h1, if_pos h2, if_neg (fun h => h.elim h3 h4)]; rfl
     subst h2; clear h1 k1 k3; go_enter Tryz.func126, Tryz.ntmps126
     go_wp2_with fail; go_ret; exact ⟨by rw [HF.out]; rfl, by go_grown⟩
  ·have HF : Hid (errV (actF k e) = .iface 105 (.int .i64 3)) := by show _ = _; unfold actF; rw [if_neg h1, if_neg h2]; rfl
   clear h1; go_enter Tryz.func126, Tryz.ntmps126
   go_wp2_with fail; go_ret; exact ⟨by rw [HF.out]; rfl, by go_grown⟩
end Go.Proofs.YtmgngapkgcofnabGreatDoor
namespace Go.Proofs.YtmgngapkgcofnabGreatDoor
open Go.Lib
def isDig (b : UInt8) : Bool := decide (48 ≤ b.toNat) && decide (b.toNat ≤ 57)
def valD (l : List UInt8) : Nat := l.foldl (fun n b => 10 * n + (b.toNat - 48)) 0
theorem valD_snoc (l : List UInt8) (b : UInt8) : valD (l ++ [b]) = 10 * valD l + (b.toNat - 48) := by simp [valD, List.foldl_append]
theorem isDig_of {d : Nat} (h : d < 10) : isDig (UInt8.ofNat (48 + d)) = true := by
 have : (UInt8.ofNat (48 + d)).toNat = 48 + d := by simp; omega
 unfold isDig; rw [this]; simp; omega
theorem ofNat_val {d : Nat} (h : d < 10) : (UInt8.ofNat (48 + d)).toNat = 48 + d := by simp; omega
theorem decDigits_small {u : Nat} (h : u < 10) : decDigits u = [UInt8.ofNat (48 + u)] := by rw [decDigits, dif_pos h]
theorem decDigits_big {u : Nat} (h : ¬ u < 10) : decDigits u = decDigits (u / 10) ++ [UInt8.ofNat (48 + u % 10)] := by rw [decDigits, dif_neg h]
theorem decDigits_dig (u : Nat) : ∀ b ∈ decDigits u, isDig b = true := by
 induction u using Nat.strongRecOn with
 | _ u ih =>
  by_cases h : u < 10
  ·rw [decDigits_small h]; intro b hb; simp only [List.mem_singleton] at hb; subst hb; exact isDig_of h
  ·rw [decDigits_big h]; intro b hb; rw [List.mem_append] at hb; rcases hb with hb | hb
   ·exact ih _ (by omega) b hb
   ·simp only [List.mem_singleton] at hb; subst hb; exact isDig_of (by omega)
theorem valD_dec (u : Nat) : valD (decDigits u) = u := by
 induction u using Nat.strongRecOn with
 | _ u ih =>
  by_cases h : u < 10
  ·rw [decDigits_small h]; simp only [valD, List.foldl_cons, List.foldl_nil, ofNat_val h]; omega
  ·rw [decDigits_big h, valD_snoc, ih _ (by omega), ofNat_val (by omega)]; omega
theorem dec_inj {a b : Nat} (h : decDigits a = decDigits b) : a = b := by rw [← valD_dec a, h, valD_dec]
theorem dec_ne (u : Nat) : decDigits u ≠ [] := by
 intro h; have := decDigits_length u; have h2 := nDigits_pos u; rw [h] at this; simp at this; omega
theorem dec_head (u : Nat) (r : List UInt8) (h : decDigits u = 48 :: r) : r = [] ∧ u = 0 := by
 induction u using Nat.strongRecOn generalizing r with
 | _ u ih =>
  by_cases hu : u < 10
  ·rw [decDigits_small hu] at h; simp only [List.cons.injEq] at h; have h2 := congrArg UInt8.toNat h.1; rw [ofNat_val hu] at h2; simp at h2; exact ⟨h.2.symm, h2⟩
  ·rw [decDigits_big hu] at h
   cases hq : decDigits (u / 10) with
   | nil => exact absurd hq (dec_ne _)
   | cons a t =>
    rw [hq] at h; simp only [List.cons_append, List.cons.injEq] at h; have := ih (u / 10) (by omega) t (by rw [hq, h.1]); omega
theorem ofNat_sub {b : UInt8} (h : isDig b = true) : UInt8.ofNat (48 + (b.toNat - 48)) = b := by
 simp only [isDig, Bool.and_eq_true, decide_eq_true_eq] at h; rw [show 48 + (b.toNat - 48) = b.toNat from by omega]; simp
theorem dec_of (l : List UInt8) (hd : ∀ b ∈ l, isDig b = true) (hne : l ≠ []) (h0 : ∀ r, l = 48 :: r → r = []) : l = decDigits (valD l) := by
 obtain ⟨n, hn⟩ : ∃ n, l.length = n := ⟨_, rfl⟩
 induction n using Nat.strongRecOn generalizing l with
 | _ n ih =>
  rcases List.eq_nil_or_concat l with rfl | ⟨t, b, rfl⟩
  ·exact absurd rfl hne
  ·rw [List.concat_eq_append] at *
   have hb : isDig b = true := hd b (by simp); have hb2 := hb; simp only [isDig, Bool.and_eq_true, decide_eq_true_eq] at hb2; rw [valD_snoc]
   by_cases ht : t = []
   ·subst ht; rw [show valD [] = 0 from rfl, decDigits_small (by omega), Nat.mul_zero, Nat.zero_add, ofNat_sub hb]; rfl
   ·have hlen : t.length < n := by rw [List.length_append] at hn; simp at hn; omega
    have iht := ih t.length hlen t (fun x hx => hd x (by simp [hx])) ht (fun r hr => by
     have := h0 (r ++ [b]) (by rw [hr]; rfl); simp at this) rfl
    have hv : valD t ≠ 0 := by
     intro hz; rw [hz, decDigits_small (by omega)] at iht; have := h0 [b] (by rw [iht]; rfl); simp at this
    rw [decDigits_big (by omega), show (10 * valD t + (b.toNat - 48)) / 10 = valD t from by omega, show (10 * valD t + (b.toNat - 48)) % 10 = b.toNat - 48 from by omega, ofNat_sub hb, ← iht]
theorem nDigits_le5 {u : Nat} (h : u < 100000) : nDigits u ≤ 5 := by
 rcases Nat.lt_or_ge u 10 with h1 | h1
 ·rw [nDigits_small h1]; omega
 ·rw [nDigits_big (by omega)]; rcases Nat.lt_or_ge (u / 10) 10 with h2 | h2
  ·rw [nDigits_small h2]; omega
  ·rw [nDigits_big (by omega)]; rcases Nat.lt_or_ge (u / 10 / 10) 10 with h3 | h3
   ·rw [nDigits_small h3]; omega
   ·rw [nDigits_big (by omega)]; rcases Nat.lt_or_ge (u / 10 / 10 / 10) 10 with h4 | h4
    ·rw [nDigits_small h4]; omega
    ·rw [nDigits_big (by omega), nDigits_small (by omega)]; omega
theorem lt_of_le5 {u : Nat} (h : nDigits u ≤ 5) : u < 100000 := by
 have := lt_pow_nDigits u; have h2 := Nat.pow_le_pow_right (n := 10) (by omega) h; omega
def numP (l : List UInt8) : Option Nat := if l = [] ∨ 5 < l.length ∨ (l.head? = some 48 ∧ l ≠ [48]) ∨ l.all isDig = false then none else some (valD l)
theorem numP_iff (l : List UInt8) (k : Nat) : numP l = some k ↔ l = decDigits k ∧ k < 100000 := by
 unfold numP; constructor
 ·intro h; split at h
  ·cases h
  ·rename_i hn; simp only [not_or] at hn; obtain ⟨h1, h2, h3, h4⟩ := hn; obtain rfl := Option.some.inj h
   have hd := dec_of l (by simpa using h4) h1 (fun r hr => by
    subst hr; simp only [List.head?_cons, true_and, ne_eq, Classical.not_not] at h3
    simpa using h3)
   refine ⟨hd, lt_of_le5 ?_⟩; rw [← decDigits_length, ← hd]; omega
 ·rintro ⟨rfl, hk⟩; rw [if_neg, valD_dec]; simp only [not_or]; refine ⟨dec_ne k, ?_, ?_, ?_⟩
  ·rw [decDigits_length]; have := nDigits_le5 hk; omega
  ·rintro ⟨h1, h2⟩
   cases hq : decDigits k with
   | nil => exact dec_ne _ hq
   | cons a t =>
    rw [hq] at h1 h2; simp only [List.head?_cons, Option.some.injEq] at h1; subst h1; obtain ⟨rfl, _⟩ := dec_head k t hq; exact h2 rfl
  ·simp only [Bool.not_eq_false, List.all_eq_true]; exact decDigits_dig k
def joinT : List UInt8 → List Nat → List UInt8
 | [], [k] => decDigits k
 | c :: cs, k :: ks => decDigits k ++ c :: joinT cs ks
 | _, _ => []
def pL : List UInt8 → List UInt8 → Option (List Nat)
 | [], r => (numP r).map fun k => [k]
 | c :: cs, r => if indexByte r c < 0 then none else (numP (r.take (indexByte r c).toNat)).bind fun k => (pL cs (r.drop ((indexByte r c).toNat + 1))).map fun ks => k :: ks
theorem indexByte_split : ∀ (l : List UInt8) (c : UInt8), 0 ≤ indexByte l c → l = l.take (indexByte l c).toNat ++ c :: l.drop ((indexByte l c).toNat + 1)
 | [], c, h => by simp [indexByte] at h
 | b :: r, c, h => by
  unfold indexByte at h ⊢
  by_cases hb : b == c
  ·simp only [hb, if_true]; simp only [beq_iff_eq] at hb; subst hb; simp
  ·simp only [hb] at h ⊢
   by_cases h1 : indexByte r c == -1
   ·simp [h1] at h
   ·simp only [h1] at h ⊢; have hge := indexByte_ge r c; simp only [beq_iff_eq] at h1; have ih := indexByte_split r c (by omega); have e : (indexByte r c + 1).toNat = (indexByte r c).toNat + 1 := by omega
    simp only [e, Bool.false_eq_true, if_false, List.take_succ_cons, List.cons_append, List.drop_succ_cons]; rw [← ih]
theorem indexByte_of : ∀ (a : List UInt8) (c : UInt8) (r : List UInt8), (∀ b ∈ a, b ≠ c) → indexByte (a ++ c :: r) c = a.length
 | [], c, r, _ => by simp [indexByte]
 | x :: a, c, r, h => by
  have hx : (x == c) = false := by simpa using h x (by simp)
  have ih := indexByte_of a c r (fun b hb => h b (by simp [hb])); simp only [List.cons_append, indexByte, hx, Bool.false_eq_true, if_false, ih]; rw [if_neg (by simp)]; simp
theorem pL_cons (c : UInt8) (cs a r : List UInt8) (h : ∀ b ∈ a, b ≠ c) : pL (c :: cs) (a ++ c :: r) = (numP a).bind fun k => (pL cs r).map fun ks => k :: ks := by
 have h1 := indexByte_of a c r h
 have e : (a ++ c :: r).drop (a.length + 1) = r := by
  rw [List.drop_append, List.drop_eq_nil_of_le (by omega), show a.length + 1 - a.length = 1 from by omega]; rfl
 simp only [pL, h1]; rw [if_neg (by omega)]; simp only [Int.toNat_natCast, List.take_left, e]
theorem pL_of : ∀ (cs : List UInt8) (l : List UInt8) (ks : List Nat), pL cs l = some ks → l = joinT cs ks ∧ ks.length = cs.length + 1 ∧ ∀ k ∈ ks, k < 100000
 | [], l, ks, h => by
  simp only [pL, Option.map_eq_some_iff] at h; obtain ⟨k, hk, rfl⟩ := h; obtain ⟨h1, h2⟩ := (numP_iff _ _).1 hk; exact ⟨h1, rfl, by simpa using h2⟩
 | c :: cs, l, ks, h => by
  simp only [pL] at h; split at h
  ·cases h
  ·rename_i hn; simp only [Option.bind_eq_some_iff, Option.map_eq_some_iff] at h; obtain ⟨k, hk, ks', hks, rfl⟩ := h; obtain ⟨h1, h2⟩ := (numP_iff _ _).1 hk; obtain ⟨h3, h4, h5⟩ := pL_of cs _ _ hks; refine ⟨?_, by simp [h4], by simpa using ⟨h2, h5⟩⟩; rw [joinT, ← h1, ← h3]; exact indexByte_split l c (by omega)
theorem pL_join : ∀ (cs : List UInt8) (ks : List Nat), (∀ c ∈ cs, isDig c = false) → ks.length = cs.length + 1 → (∀ k ∈ ks, k < 100000) → pL cs (joinT cs ks) = some ks
 | [], ks, _, hl, hk => by
  match ks, hl with
  | [k], _ => simp only [joinT, pL, (numP_iff _ _).2 ⟨rfl, hk k (by simp)⟩]; rfl
 | c :: cs, ks, hc, hl, hk => by
  match ks, hl with
  | k :: ks, hl =>
   rw [joinT, pL_cons _ _ _ _ (fun b hb e => by
    have := decDigits_dig k b hb; rw [e, hc c (by simp)] at this; cases this)]
   rw [(numP_iff _ _).2 ⟨rfl, hk k (by simp)⟩]; simp [pL_join cs ks (fun x hx => hc x (by simp [hx])) (by simpa using hl) (fun x hx => hk x (by simp [hx]))]
def sepsN : List UInt8 := [46, 46, 46, 47, 58, 45]
theorem sepsN_no : ∀ c ∈ sepsN, isDig c = false := by decide
def partsN (x : NetD) : List Nat := [x.ip.toNat / 16777216, x.ip.toNat / 65536 % 256, x.ip.toNat / 256 % 256, x.ip.toNat % 256, x.bits.toNat, x.lo.toNat, x.hi.toNat]
def textN (x : NetD) : List UInt8 := joinT sepsN (partsN x)
def ofParts (a b c d e f g : Nat) : NetD := ⟨((((a * 256 + b) * 256 + c) * 256 + d : Nat) : Int), e, f, g⟩
theorem netF_zero {x : NetD} (h : netF x = 0) : 0 ≤ x.bits ∧ x.bits ≤ 32 ∧ 0 ≤ x.lo ∧ x.hi ≤ 65535 ∧ x.lo ≤ x.hi ∧ x.ip.toNat % 2 ^ (32 - x.bits.toNat) = 0 := by
 unfold netF at h; split at h
 ·omega
 ·rename_i hb; split at h
  ·omega
  ·rename_i hz; simp only [NetD.bad, not_or] at hb; simp only [ne_eq, Classical.not_not] at hz; exact ⟨by omega, by omega, by omega, by omega, by omega, hz⟩
theorem parts_small {x : NetD} (hx : x.ok) (h : netF x = 0) : ∀ k ∈ partsN x, k ≤ 70000 := by
 obtain ⟨⟨i0, i1⟩, _⟩ := hx; obtain ⟨h1, h2, h3, h4, h5, _⟩ := netF_zero h; intro k hk; simp only [partsN, List.mem_cons, List.not_mem_nil, or_false] at hk; omega
theorem parts_of {x : NetD} (hx : x.ok) (h : netF x = 0) : ∃ a b c d e f g : Nat, partsN x = [a, b, c, d, e, f, g] ∧ a ≤ 255 ∧ b ≤ 255 ∧ c ≤ 255 ∧ d ≤ 255 ∧ x = ofParts a b c d e f g := by
 obtain ⟨⟨i0, i1⟩, _⟩ := hx; obtain ⟨h1, h2, h3, h4, h5, _⟩ := netF_zero h; obtain ⟨ip, bits, lo, hi⟩ := x; simp only at *
 refine ⟨ip.toNat / 16777216, ip.toNat / 65536 % 256, ip.toNat / 256 % 256, ip.toNat % 256, bits.toNat, lo.toNat, hi.toNat, rfl, by omega, by omega, by omega, by omega, ?_⟩; simp only [ofParts, NetD.mk.injEq]; refine ⟨by omega, by omega, by omega, by omega⟩
theorem partsN_of (a b c d e f g : Nat) (_ : a ≤ 255) (hb : b ≤ 255) (hc : c ≤ 255) (hd : d ≤ 255) : partsN (ofParts a b c d e f g) = [a, b, c, d, e, f, g] := by
 simp only [partsN, ofParts, Int.toNat_natCast, List.cons.injEq, and_true]; omega
theorem pL_text {x : NetD} (hx : x.ok) (h : netF x = 0) : pL sepsN (textN x) = some (partsN x) :=
 pL_join _ _ sepsN_no rfl (fun k hk => by have := parts_small hx h k hk; omega)
theorem textN_inj {x y : NetD} (hx : x.ok) (hy : y.ok) (h : netF x = 0) (k : netF y = 0) (e : textN x = textN y) : x = y := by
 have h1 := pL_text hx h; rw [e, pL_text hy k] at h1; obtain ⟨a, b, c, d, p, q, r, e1, _, _, _, _, rfl⟩ := parts_of hx h; obtain ⟨a', b', c', d', p', q', r', e2, _, _, _, _, rfl⟩ := parts_of hy k; rw [e1, e2] at h1; simp only [Option.some.injEq, List.cons.injEq, and_true] at h1; obtain ⟨rfl, rfl, rfl, rfl, rfl, rfl, rfl⟩ := h1; rfl
def ReadN (l : List UInt8) : Option NetD → Prop
 | some x => x.ok ∧ netF x = 0 ∧ l = textN x
 | none => ∀ x : NetD, x.ok → netF x = 0 → l ≠ textN x
theorem ReadN.same {l : List UInt8} : ∀ {a b : Option NetD}, ReadN l a → ReadN l b → a = b
 | none, none, _, _ => rfl
 | some x, none, h, k => absurd h.2.2 (k x h.1 h.2.1)
 | none, some y, h, k => absurd k.2.2 (h y k.1 k.2.1)
 | some x, some y, h, k => by rw [textN_inj h.1 k.1 h.2.1 k.2.1 (h.2.2.symm.trans k.2.2)]
def bytesA (ip port : Nat) : List UInt8 := [2, 0, UInt8.ofNat (port / 256), UInt8.ofNat (port % 256), UInt8.ofNat (ip / 16777216), UInt8.ofNat (ip / 65536 % 256), UInt8.ofNat (ip / 256 % 256), UInt8.ofNat (ip % 256), 0, 0, 0, 0, 0, 0, 0, 0]
end Go.Proofs.YtmgngapkgcofnabGreatDoor
namespace Go.Proofs.YtmgngapkgcofnabGreatDoor
open Go.RowKit Go.PlainAid
theorem bt_list (s : ByteArray) (k : Nat) (h : k < s.data.toList.length) : bt s k = (s.data.toList[k].toNat : Int) := by
 have : k < s.size := by simpa using h
 unfold bt; rw [dif_pos this]; rfl
theorem take_snoc (s : ByteArray) (k : Nat) (h : k < s.data.toList.length) : s.data.toList.take (k + 1) = s.data.toList.take k ++ [s.data.toList[k]] := by rw [List.take_add_one, List.getElem?_eq_getElem h]; rfl
theorem isDig_bt (s : ByteArray) (k : Nat) (h : k < s.data.toList.length) : isDig s.data.toList[k] = true ↔ 48 ≤ bt s k ∧ bt s k ≤ 57 := by
 rw [bt_list s k h]; unfold isDig; simp; omega
theorem valD_bt (s : ByteArray) (k : Nat) (h : k < s.data.toList.length) (hd : 48 ≤ bt s k) : (valD (s.data.toList.take (k + 1)) : Int) = 10 * (valD (s.data.toList.take k) : Int) + (bt s k - 48) := by
 have hb := bt_list s k h; rw [take_snoc s k h, valD_snoc, hb]; rw [hb] at hd
 push_cast
 omega
theorem valD_lt (l : List UInt8) (hd : ∀ b ∈ l, isDig b = true) : valD l < 10 ^ l.length := by
 obtain ⟨n, hn⟩ : ∃ n, l.length = n := ⟨_, rfl⟩
 induction n generalizing l with
 | zero => obtain rfl := List.eq_nil_of_length_eq_zero hn; simp [valD]
 | succ n ih =>
  rcases List.eq_nil_or_concat l with rfl | ⟨t, b, rfl⟩
  ·simp at hn
  ·rw [List.concat_eq_append] at *
   have ht : t.length = n := by rw [List.length_append] at hn; simp at hn; omega
   have := ih t (fun x hx => hd x (by simp [hx])) ht; have hb := hd b (by simp); simp only [isDig, Bool.and_eq_true, decide_eq_true_eq] at hb; rw [valD_snoc, hn, Nat.pow_succ]; rw [ht] at this; omega
theorem nEmpty_of (t : ByteArray) : t.toList.isEmpty = decide (t.size = 0) := by
 rw [ByteArray.toList_eq, Bool.eq_iff_iff]; simp [← ByteArray.size_data]
def NumR (l : List UInt8) (e : Ending) : Prop := match numP l with
 | some k => e = .returned (.tuple #[.int .i64 k, .bool true])
 | none => e = .returned (.tuple #[.int .i64 0, .bool false])
set_option linter.unusedSimpArgs false in
set_option maxHeartbeats 2000000 in
theorem number_any (s : ByteArray) (w : World) :
  Calls Tryz.prog 208 #[.string s] w fun e w' => NumR s.data.toList e ∧ w = w' := by
 have hsz : s.data.toList.length = s.size := by simp
 have hb := get_bt s
 by_cases h5 : 5 < s.size
 ·have HF : Hid (numP s.data.toList = none) := by show _ = _; unfold numP; rw [if_pos (Or.inr (Or.inl (by omega)))]
  have x1 : (5 : Int) < (s.size : Int) := by omega
  have y1 : s.toList.isEmpty = false := by rw [nEmpty_of]; exact decide_eq_false (by omega)
  clear h5 hsz hb; go_enter Tryz.func208, Tryz.ntmps208
  go_wp2_with fail
  go_returns
  exact ⟨by unfold NumR; rw [HF.out]; rfl, rfl⟩
 ·have x1 : ¬ (5 : Int) < (s.size : Int) := by omega
  by_cases h0 : s.size = 0
  ·have HF : Hid (numP s.data.toList = none) := by show _ = _; unfold numP; rw [if_pos (Or.inl (List.eq_nil_of_length_eq_zero (by omega)))]
   have y1 : s.toList.isEmpty = true := by rw [nEmpty_of]; exact decide_eq_true h0
   clear h5 hsz hb h0; go_enter Tryz.func208, Tryz.ntmps208
   go_wp2_with fail
   go_returns
   exact ⟨by unfold NumR; rw [HF.out]; rfl, rfl⟩
  ·have y1 : s.toList.isEmpty = false := by rw [nEmpty_of]; exact decide_eq_false h0
   have hp : 0 < s.size := by omega
   have hl0 : 0 < s.data.toList.length := by omega
   have hb0 := bt_list s 0 hl0
   have hcons : ∃ r, s.data.toList = s.data.toList[0] :: r := ⟨s.data.toList.tail, by
    rw [List.getElem_zero]; exact (List.cons_head_tail _).symm⟩
   have htl : s.toList = s.data.toList := ByteArray.toList_eq s
   by_cases hz : bt s 0 = 48 ∧ s.data.toList ≠ [48]
   ·have HF : Hid (numP s.data.toList = none) := by
     have hh : s.data.toList.head? = some 48 := by
      obtain ⟨r, hr⟩ := hcons; rw [hr, List.head?_cons]; have h1 := hz.1; rw [hb0] at h1
      congr 1
      exact UInt8.toNat_inj.1 (by show _ = 48; omega)
     show _ = _; unfold numP; exact if_pos (Or.inr (Or.inr (Or.inl ⟨hh, hz.2⟩)))
    have z1 := hz.1; have z2 : (s.toList == [48]) = false := by rw [htl]; simpa using hz.2
    clear h5 hsz h0 hl0 hb0 hcons htl hz; go_enter Tryz.func208, Tryz.ntmps208
    go_wp2_with fail
    go_returns
    exact ⟨by unfold NumR; rw [HF.out]; rfl, rfl⟩
   ·have HN : Hid (∀ b, numP s.data.toList = b ↔ (if s.data.toList.all isDig = false then none else some (valD s.data.toList)) = b) := fun b => by
     unfold numP
     have e : (s.data.toList = [] ∨ 5 < s.data.toList.length ∨ (s.data.toList.head? = some 48 ∧ s.data.toList ≠ [48]) ∨ s.data.toList.all isDig = false) ↔ s.data.toList.all isDig = false := by
      refine ⟨fun h => ?_, fun h => Or.inr (Or.inr (Or.inr h))⟩; rcases h with h | h | h | h
      ·rw [h] at hl0; simp at hl0
      ·omega
      ·exfalso; refine hz ⟨?_, h.2⟩; obtain ⟨r, hr⟩ := hcons; have h1 := h.1; rw [hr, List.head?_cons] at h1; rw [hb0, Option.some.inj h1]; rfl
      ·exact h
     simp only [e]
    have HZ : Hid (bt s 0 = 48 → (s.toList == [48]) = false → False) := fun h1 h2 => hz ⟨h1, by rw [htl] at h2; simpa using h2⟩; have H5 : Hid (s.size ≤ 5) := by show s.size ≤ 5; omega
    clear hz hcons htl hb0 hl0 h5 h0; go_enter Tryz.func208, Tryz.ntmps208
    go_wp2_with fail
    all_goals first
     | (exfalso; rename_i q1 q2; exact HZ.out q1 (by simpa using q2))
     | skip
    all_goals
     go_loop [4, 24] (fun nv iv => ∃ k : Nat, k ≤ s.size ∧ iv = .int .i64 k ∧ nv = .int .i64 (valD (s.data.toList.take k)) ∧ Hid (∀ b ∈ s.data.toList.take k, isDig b = true)) (fun _ iv => s.size - (intOf iv).toNat)
     case atStart => exact ⟨0, Nat.zero_le _, rfl, rfl, fun b hb => by simp at hb⟩
     case round =>
      obtain ⟨k, hk, rfl, rfl, hD⟩ := hrel
      by_cases hlt : k < s.size
      ·have hkl : k < s.data.toList.length := by omega
       have i1 : (k : Int) < (s.size : Int) := by omega
       have i2 : (0 : Int) ≤ (k : Int) := by omega
       have hdig := isDig_bt s k hkl
       by_cases hd : 48 ≤ bt s k ∧ bt s k ≤ 57
       ·have hv := valD_bt s k hkl hd.1; have hv2 := valD_lt _ hD.out; have hv3 : 10 ^ (s.data.toList.take k).length ≤ 10 ^ 4 := Nat.pow_le_pow_right (by omega) (by rw [List.length_take]; have := H5.out; omega)
        have HD2 : Hid (∀ b ∈ s.data.toList.take (k + 1), isDig b = true) := by
         intro b hb'; rw [take_snoc s k hkl, List.mem_append] at hb'; rcases hb' with h | h
         ·exact hD.out b h
         ·simp only [List.mem_singleton] at h; subst h; exact hdig.2 hd
        have d1 : ¬ bt s k < 48 := by omega
        have d2 : ¬ 57 < bt s k := by omega
        generalize valD (s.data.toList.take k) = V at *
        have hV : (V : Int) < 10000 := by omega
        have HV := Lib.hid hv; clear hv hv2 hv3 hdig hkl
        go_wp2_with fail; go_round
        case rel => exact ⟨k + 1, by omega, by go_num, by rw [HV.out]; try go_num, HD2⟩
        case measure => simp [intOf]; omega
       ·have HF : Hid (numP s.data.toList = none) := (HN.out _).2 (by
         rw [if_pos]; rw [Bool.eq_false_iff]; intro h; rw [List.all_eq_true] at h; exact hd (hdig.1 (h _ (List.getElem_mem hkl))))
        clear hdig hkl; have hd2 : bt s k < 48 ∨ 57 < bt s k := by omega
        clear hd; rcases hd2 with hd | hd
        ·go_wp2_with fail
         go_returns
         exact ⟨by unfold NumR; rw [HF.out]; rfl, rfl⟩
        ·go_wp2_with fail
         go_returns
         exact ⟨by unfold NumR; rw [HF.out]; rfl, rfl⟩
      ·obtain rfl : k = s.size := by omega
       have htk : s.data.toList.take s.size = s.data.toList := by rw [← hsz]; exact List.take_length
       rw [htk] at hD; have HF : Hid (numP s.data.toList = some (valD s.data.toList)) := (HN.out _).2 (if_neg (by rw [Bool.not_eq_false, List.all_eq_true]; exact hD.out)); rw [htk]
       go_wp2_with fail
       go_returns
       exact ⟨by unfold NumR; rw [HF.out]; rfl, rfl⟩
end Go.Proofs.YtmgngapkgcofnabGreatDoor
namespace Go.Proofs.YtmgngapkgcofnabGreatDoor
open Go.RowKit Go.PlainAid
end Go.Proofs.YtmgngapkgcofnabGreatDoor
namespace Go.Proofs
open Go.RowKit Go.Lib Go.Sort
def Tryz.laysB_ren : Go.Shelf.Ren := ⟨fun | 166 => 80 | 169 => 84 | 167 => 176 | 240 => 134 | 276 => 175 | n => n, fun | 0 => 0 | 3 => 3 | 4 => 4 | 5 => 5 | 9 => 9 | 20 => 20 | 37 => 96 | 70 => 173 | 72 => 175 | 75 => 34 | 80 => 184 | 164 => 277 | 127 => 235 | n => n, fun n => n⟩
set_option maxRecDepth 100000 in
theorem Tryz.laysB : Lays.n166 Tryz.prog Tryz.laysB_ren := {
 mixed := by kernel_rfl
 f166 := Tryz.func80.trans (congrArg some (by kernel_rfl))
 f240 := Tryz.func134.trans (congrArg some (by kernel_rfl))
 f276 := Tryz.func175.trans (congrArg some (by kernel_rfl))
 t0 := Tryz.underlying0
 a0 := Tryz.isAgg0
 z0 := Tryz.sizeOf0
 v0 := Tryz.zeroValue0
 t3 := Tryz.underlying3
 a3 := Tryz.isAgg3
 z3 := Tryz.sizeOf3
 v3 := Tryz.zeroValue3
 t4 := Tryz.underlying4
 a4 := Tryz.isAgg4
 z4 := Tryz.sizeOf4
 v4 := Tryz.zeroValue4
 t9 := Tryz.underlying9
 a9 := Tryz.isAgg9
 z9 := Tryz.sizeOf9
 v9 := Tryz.zeroValue9
 t20 := Tryz.underlying20
 a20 := Tryz.isAgg20
 z20 := Tryz.sizeOf20
 v20 := Tryz.zeroValue20
 t37 := Tryz.underlying96
 a37 := Tryz.isAgg96
 z37 := Tryz.sizeOf96
 v37 := Tryz.zeroValue96
 t70 := Tryz.underlying173
 a70 := Tryz.isAgg173
 z70 := Tryz.sizeOf173
 v70 := Tryz.zeroValue173
 t72 := Tryz.underlying175
 a72 := Tryz.isAgg175
 z72 := Tryz.sizeOf175
 v72 := Tryz.zeroValue175
 t75 := Tryz.underlying34
 a75 := Tryz.isAgg34
 z75 := Tryz.sizeOf34
 v75 := Tryz.zeroValue34
 t164 := Tryz.underlying277
 a164 := Tryz.isAgg277
 z164 := Tryz.sizeOf277
 v164 := Tryz.zeroValue277 }
set_option maxRecDepth 100000 in
theorem Tryz.laysC : Lays.n167 Tryz.prog Tryz.laysB_ren := {
 mixed := by kernel_rfl
 f167 := Tryz.func176.trans (congrArg some (by kernel_rfl))
 f240 := Tryz.func134.trans (congrArg some (by kernel_rfl))
 f276 := Tryz.func175.trans (congrArg some (by kernel_rfl))
 t0 := Tryz.underlying0
 a0 := Tryz.isAgg0
 z0 := Tryz.sizeOf0
 v0 := Tryz.zeroValue0
 t4 := Tryz.underlying4
 a4 := Tryz.isAgg4
 z4 := Tryz.sizeOf4
 v4 := Tryz.zeroValue4
 t5 := Tryz.underlying5
 a5 := Tryz.isAgg5
 z5 := Tryz.sizeOf5
 v5 := Tryz.zeroValue5
 t9 := Tryz.underlying9
 a9 := Tryz.isAgg9
 z9 := Tryz.sizeOf9
 v9 := Tryz.zeroValue9
 t20 := Tryz.underlying20
 a20 := Tryz.isAgg20
 z20 := Tryz.sizeOf20
 v20 := Tryz.zeroValue20
 t37 := Tryz.underlying96
 a37 := Tryz.isAgg96
 z37 := Tryz.sizeOf96
 v37 := Tryz.zeroValue96
 t70 := Tryz.underlying173
 a70 := Tryz.isAgg173
 z70 := Tryz.sizeOf173
 v70 := Tryz.zeroValue173
 t72 := Tryz.underlying175
 a72 := Tryz.isAgg175
 z72 := Tryz.sizeOf175
 v72 := Tryz.zeroValue175
 t75 := Tryz.underlying34
 a75 := Tryz.isAgg34
 z75 := Tryz.sizeOf34
 v75 := Tryz.zeroValue34
 t164 := Tryz.underlying277
 a164 := Tryz.isAgg277
 z164 := Tryz.sizeOf277
 v164 := Tryz.zeroValue277 }
set_option maxRecDepth 100000 in
theorem Tryz.extraC : Builder.Extra Tryz.prog Tryz.laysB_ren := {
 sizeBuilder := by kernel_rfl
 liesBuilder := by kernel_rfl
 t5 := Tryz.underlying5
 a5 := Tryz.isAgg5
 z5 := Tryz.sizeOf5
 v5 := Tryz.zeroValue5
 infoByte := by kernel_rfl
 cellsByte := by kernel_rfl
 sizeByte := by kernel_rfl
 neB5 := by decide }
theorem Tryz.ws_k (B b : Nat) (bs : List Value) (s : ByteArray) (w : World) (h : Lib.IsBuilderF 175 5 B b bs w) (hlen : bs.length + s.size ≤ 140737488355328) (hBw : B ≤ w.heap.size) :
  Calls Tryz.prog 80 #[.pointer (some ⟨b, 0, none⟩), .string s] w fun e w' => e = .returned (.tuple #[.int .i64 s.size, .nilIface]) ∧ (Lib.BuilderAtF 175 5 B b (.pointer (some ⟨b, 0, none⟩)) (bs ++ Lib.strCells s) w' ∧ Below B w w' ∧ Lib.OthersKept 5 (some b) w w') :=
 Any.Builder_WriteString_k Tryz.laysB Tryz.extraC B b bs s w h hlen hBw
theorem Tryz.wb_k (B b : Nat) (bs : List Value) (c : Int) (w : World) (h : Lib.IsBuilderF 175 5 B b bs w) (hlen : bs.length + 1 ≤ 140737488355328) (hBw : B ≤ w.heap.size) :
  Calls Tryz.prog 176 #[.pointer (some ⟨b, 0, none⟩), .int .u8 c] w fun e w' => e = .returned .nilIface ∧ (Lib.BuilderAtF 175 5 B b (.pointer (some ⟨b, 0, none⟩)) (bs ++ [.int .u8 c]) w' ∧ Below B w w' ∧ Lib.OthersKept 5 (some b) w w') :=
 Any.Builder_WriteByte_k Tryz.laysC Tryz.extraC B b bs c w h hlen hBw
theorem Tryz.str_k (B b : Nat) (l : List UInt8) (w : World) (h : Lib.IsBuilderF 175 5 B b (Lib.byteCells l) w) (hBw : B ≤ w.heap.size) :
  Calls Tryz.prog 84 #[.pointer (some ⟨b, 0, none⟩)] w fun e w' => e = .returned (.string ⟨l.toArray⟩) ∧ (Lib.IsBuilderF 175 5 B b (Lib.byteCells l) w' ∧ Below B w w' ∧ Lib.OthersKept 5 (some b) w w') :=
 Tryz.Builder_String_any_k B b l w h hBw
theorem Tryz.itoa_any (n : Nat) (hn : n ≤ 9223372036854775807) (w : World) (htab : Lib.TabIs Tryz.prog w "internal/strconv.uint64pow10" .u64 Lib.pow10Tab) :
  Calls Tryz.prog 120 #[.int .i64 (n : Int)] w fun e w' => e = .returned (.string ⟨(Lib.decDigits n).toArray⟩) ∧ Below w.heap.size w w' :=
 (Tryz.strconv_Itoa n (by omega) (by omega) w htab).mono fun e w' ⟨h, k, os, hw⟩ => by
  refine ⟨?_, by subst hw; exact ⟨rfl, rfl, rfl, by simp [grow, World.drewN], fun j hj => by simp [grow, World.drewN, Array.getElem?_append, hj]⟩⟩; rw [h]; unfold Lib.itoa; rw [if_neg (by omega)]; rfl
theorem Tryz.index_any (s : ByteArray) (c : UInt8) (w : World) :
  Calls Tryz.prog 194 #[.string s, .int .u8 (c.toNat : Int)] w fun e w' => e = .returned (.int .i64 (Lib.indexByte s.data.toList c)) ∧ w = w' :=
 (Tryz.strings_IndexByte s (c.toNat : Int) w).mono fun _ _ h => by
  refine ⟨?_, h.2.symm⟩; rw [h.1, Int.toNat_natCast]; simp
end Go.Proofs
namespace Go.Proofs
open Go.RowKit Go.Lib Go.Sort
theorem Tryz.repeat_any (s : ByteArray) (c : Nat) (w : World) (hc : c ≤ 9223372036854775807) (hlen : s.size * c ≤ 140737488355328) :
  Calls Tryz.prog 149 #[.string s, .int .i64 c] w fun e w' => e = .returned (.string ⟨(Lib.repeatL s.data.toList c).toArray⟩) ∧ Below w.heap.size w w' :=
 Tryz.strings_Repeat s c w hc hlen
end Go.Proofs
namespace Go.Proofs.YtmgngapkgcofnabGreatDoor
open Go.RowKit Go.Lib Go.Sort
theorem below_of_grow (w w' : World) (k : Nat) (os : Array Obj) (h : w' = grow (w.drewN k) os) : Below w.heap.size w w' := by
 subst h; exact ⟨rfl, rfl, rfl, by simp [grow, World.drewN], fun j hj => by simp [grow, World.drewN, Array.getElem?_append, hj]⟩
theorem fin0 (w : World) (o : Obj) (dk : Array UInt8) (k : Nat) : ∃ os, (putRow (fun (b : UInt8) => Value.int .u8 (b.toNat : Int)) (w.alloc o) w.heap.size 0 dk).drewN k = grow (w.drewN k) os := by
 rw [alloc_eq_grow]; obtain ⟨os', _, e⟩ := putRow_grow_new (fun (b : UInt8) => Value.int .u8 (b.toNat : Int)) w #[o] w.heap.size 0 dk (Nat.le_refl _); exact ⟨os', by rw [e]; rfl⟩
set_option maxRecDepth 100000 in
theorem fmtUint_in (u : Nat) (hu64 : u < 18446744073709551616) (w : World) (htab : Lib.TabIs Tryz.prog w "internal/strconv.uint64pow10" .u64 Lib.pow10Tab) :
  Calls Tryz.prog 197 #[.int .u64 u, .int .i64 10] w fun e w' => e = .returned (.string ⟨(Lib.decDigits u).toArray⟩) ∧ Below w.heap.size w w' := by
 by_cases hs : u < 100
 ·go_enter Tryz.func197, Tryz.ntmps197
  go_wp2_with (go_at_call 223; refine cargs (by simp) ((Tryz.internal_strconv_small u hs _).mono ?_); rintro e w' ⟨rfl, rfl⟩)
  go_ret; exact ⟨rfl, Below.refl _ _⟩
 ·have hu1 : 1 ≤ u := by omega
  have hnd20 : Lib.nDigits u ≤ 20 := by have := Lib.numDigits_eq u hu1 hu64; split at this <;> omega
  have hal : Tryz.prog.arrayLen 331 = 24 := by simp [Program.arrayLen, Tryz.underlying331]
  have hsl1 : ∀ W, (Instr.sliceAt 331 (.pointer (some ⟨w.heap.size, 0, none⟩)) none (some (.int .i64 (Lib.nDigits u : Int))) none).run Tryz.prog W = .ok (.slice (some ⟨w.heap.size, 0, none⟩) (Lib.nDigits u) 24) W := fun W => by
   rw [run_sliceAt_array_h W 331 ⟨w.heap.size, 0, none⟩ (by simp [Program.arrayLen, Program.elem, Tryz.underlying331]) .i64 (Lib.nDigits u : Int) (by omega) (by rw [hal]; omega)]
   go_simp
  have hH0 := Lib.holds_zero0 w 331 (Lib.nDigits u) (by omega); have hfmt := Tryz.internal_strconv_formatBase10 w.heap.size 0 24 u (Array.replicate (Lib.nDigits u) 0) (w.alloc (.cells Lib.zeros24 331)) hH0 (by rw [Array.size_replicate]; exact Lib.lt_pow_nDigits u) hu64 (by rw [Array.size_replicate]; omega); rw [Array.size_replicate] at hfmt; have HH0 := Lib.hid hH0; clear hH0 hal
  go_enter Tryz.func197, Tryz.ntmps197
  go_wp2_with (first
   | (go_at_call 224; refine cargs (by simp) ((Tryz.internal_strconv_numDigits u hu1 hu64 _ (Lib.tabIs_alloc htab _)).mono ?_); rintro e w' ⟨rfl, rfl⟩))
  go_at_call 225
  refine cargs (by simp) (hfmt.mono ?_); rintro e w' ⟨rfl, k, v', dk, rfl, hF⟩
  have hcv : (convert 96 9 (.slice (some ⟨w.heap.size, 0, none⟩) (Lib.nDigits u) 24)).run Tryz.prog ((putRow (fun (b : UInt8) => Value.int .u8 (b.toNat : Int)) (w.alloc (.cells Lib.zeros24 331)) w.heap.size 0 dk).drewN k) = .ok (.string ⟨(Lib.decDigits u).toArray⟩) ((putRow (fun (b : UInt8) => Value.int .u8 (b.toNat : Int)) (w.alloc (.cells Lib.zeros24 331)) w.heap.size 0 dk).drewN k) := by
   have h := run_convert_bytes_back (P := Tryz.prog) ((putRow (fun (b : UInt8) => Value.int .u8 (b.toNat : Int)) (w.alloc (.cells Lib.zeros24 331)) w.heap.size 0 dk).drewN k) 96 9 5 ⟨w.heap.size, 0, none⟩ 24 (Lib.decDigits u) Tryz.underlying96 Tryz.underlying5 Tryz.underlying9 (fun j hj => by
    rw [Lib.row_is_numeral hF j hj, Lib.add_plain, World.cell?_drewN]; exact cell?_putRow (fun (b : UInt8) => Value.int .u8 (b.toNat : Int)) _ w.heap.size 0 _ dk HH0.out (by rw [hF.size, Array.size_replicate]) j (by rw [hF.size]; rw [Lib.decDigits_length] at hj; exact hj))
   rw [Lib.decDigits_length] at h; exact h
  go_wp2
  go_ret; obtain ⟨os, eo⟩ := fin0 w (.cells Lib.zeros24 331) dk k; exact ⟨rfl, below_of_grow _ _ k os eo⟩
theorem fmtUint_any (u : Nat) (hu64 : u < 18446744073709551616) (w : World) (htab : Lib.TabIs Tryz.prog w "internal/strconv.uint64pow10" .u64 Lib.pow10Tab) :
  Calls Tryz.prog 162 #[.int .u64 u, .int .i64 10] w fun e w' => e = .returned (.string ⟨(Lib.decDigits u).toArray⟩) ∧ Below w.heap.size w w' := by
 go_enter Tryz.func162, Tryz.ntmps162
 go_wp2_with (go_at_call 197; refine cargs (by simp) ((fmtUint_in u hu64 _ htab).mono ?_); rintro e w1 ⟨rfl, hb1⟩)
 go_ret; exact ⟨rfl, hb1⟩
theorem polDigits_any (u : Nat) (hu64 : u < 18446744073709551616) (w : World) (htab : Lib.TabIs Tryz.prog w "internal/strconv.uint64pow10" .u64 Lib.pow10Tab) :
  Calls Tryz.prog 135 #[.int .u64 u] w fun e w' => e = .returned (.string ⟨(Lib.decDigits u).toArray⟩) ∧ Below w.heap.size w w' := by
 go_enter Tryz.func135, Tryz.ntmps135
 go_wp2_with (go_at_call 162; refine cargs (by simp) ((fmtUint_any u hu64 _ htab).mono ?_); rintro e w1 ⟨rfl, hb1⟩)
 go_ret; exact ⟨rfl, hb1⟩
end Go.Proofs.YtmgngapkgcofnabGreatDoor
