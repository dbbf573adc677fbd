/- Own: a policy in its own memory; the first append of a rule's conditions. -/
import Derived.Test.YtmgngapkgcofnabGreatDoorP16
import Derived.Deep.RegionLaw
import Derived.Deep.AppendLies
import Derived.Test.YtmgngapkgcofnabGreatDoorP11
import Derived.Deep.QuietTactic
import Derived.BigQuiet
import Derived.PlainAid
import Derived.Test.YtmgngapkgcofnabGreatDoorP30
import Derived.Test.YtmgngapkgcofnabGreatDoorP02
namespace Go.Proofs.YtmgngapkgcofnabGreatDoor
open Go.RowKit Go.PlainAid
def flatC (l : List CondD) : List Value := l.flatMap CondD.row
theorem flatC_cons (x : CondD) (r : List CondD) : flatC (x :: r) = x.row ++ flatC r := rfl
theorem crow9 (x : CondD) : x.row.length = 9 := rfl
theorem flatC_at : ∀ (l : List CondD) (i : Nat) (x : CondD) (j : Nat) (u : Value), l[i]? = some x → x.row[j]? = some u → (flatC l)[i * 9 + j]? = some u
 | [], i, x, j, u, h, _ => by simp at h
 | y :: r, 0, x, j, u, h, hu => by
  obtain rfl : y = x := by simpa using h
  have hj : j < 9 := by
   rcases Nat.lt_or_ge j 9 with h1 | h1
   ·exact h1
   ·rw [List.getElem?_eq_none (by rw [crow9]; exact h1)] at hu; cases hu
  rw [flatC_cons, Nat.zero_mul, Nat.zero_add, List.getElem?_append_left (by rw [crow9]; exact hj)]; exact hu
 | y :: r, i + 1, x, j, u, h, hu => by
  rw [flatC_cons, List.getElem?_append_right (by rw [crow9]; omega), crow9, show (i + 1) * 9 + j - 9 = i * 9 + j from by omega]; exact flatC_at r i x j u (by simpa using h) hu
theorem condInfo : ∃ z, (Tryz.prog.info? 47).map (fun i => (i.zero, i.size, i.bytes)) = some (some z, 9, 80) ∧ z.cells.size = 9 := ⟨.agg #[.int .i64 0, .int .i64 0, .int .u64 0, .int .u64 0, .string ⟨#[]⟩, .int .u32 0, .int .i64 0, .int .i64 0, .int .i64 0], by kernel_rfl, rfl⟩
theorem ruleInfo : ∃ z, (Tryz.prog.info? 41).map (fun i => (i.zero, i.size, i.bytes)) = some (some z, 4, 48) ∧ z.cells.size = 4 := ⟨.agg #[.int .i64 0, .slice none 0 0, .int .i64 0, .int .i64 0], by kernel_rfl, rfl⟩
def CondsOwn (w : World) (v : Value) (l : List CondD) : Prop := (∀ x ∈ l, x.ok) ∧ ∃ A c, v = .slice A l.length c ∧ (l = [] ∨ ∃ (g : Nat) (cs : Array Value) (fr : Nat × Nat), A = some ⟨g, 0, none⟩ ∧ w.heap[g]? = some (.cells cs 47 fr) ∧ ∀ (k : Nat) (u : Value), (flatC l)[k]? = some u → cs[k]? = some u)
def KeptC (w w' : World) : Prop := ∀ (k : Nat) (cs : Array Value) (fr : Nat × Nat), w.heap[k]? = some (Obj.cells cs 47 fr) → w'.heap[k]? = some (Obj.cells cs 47 fr)
theorem CondsOwn.kept {w w' : World} {v : Value} {l : List CondD} (h : CondsOwn w v l) (hk : KeptC w w') : CondsOwn w' v l := by
 obtain ⟨h0, A, c, h1, h2⟩ := h; refine ⟨h0, A, c, h1, h2.imp id ?_⟩; rintro ⟨g, cs, fr, ha, hg, hx⟩; exact ⟨g, cs, fr, ha, hk g cs fr hg, hx⟩
theorem CondsOwn.sl {w : World} {v : Value} {l : List CondD} (h : CondsOwn w v l) : CondsSl w w.heap.size v l := by
 obtain ⟨h0, A, c, h1, h2⟩ := h; refine ⟨h0, A, c, h1, h2.imp id ?_⟩; rintro ⟨g, cs, fr, ha, hg, hx⟩; refine ⟨g, 0, ha, (Array.getElem?_eq_some_iff.1 hg).1, fun i x hi j u hu => ?_⟩; rw [cell_of_row w _ _ _ _ _ hg, Nat.zero_add]; exact hx _ u (flatC_at l i x j u hi hu)
def ruleV (r : RuleD) (A : Option Addr) (c : Nat) : List Value := [.int .i64 r.nr, .slice A r.conds.length c, .int .i64 r.kind, .int .i64 r.errno]
def RulesOwn (w : World) (rs : List RuleD) (xs : List Value) : Prop := ∀ k r, rs[k]? = some r → ∃ A c, CondsOwn w (.slice A r.conds.length c) r.conds ∧ ∀ j u, (ruleV r A c)[j]? = some u → xs[k * 4 + j]? = some u
theorem RulesOwn.kept {w w' : World} {rs : List RuleD} {xs : List Value} (h : RulesOwn w rs xs) (hk : KeptC w w') : RulesOwn w' rs xs := fun k r hr => by
 obtain ⟨A, c, h1, h2⟩ := h k r hr; exact ⟨A, c, h1.kept hk, h2⟩
theorem RulesOwn.snoc {w : World} {rs : List RuleD} {xs : List Value} {r : RuleD} {A : Option Addr} {c : Nat} (h : RulesOwn w rs xs) (hl : xs.length = rs.length * 4) (hc : CondsOwn w (.slice A r.conds.length c) r.conds) : RulesOwn w (rs ++ [r]) (xs ++ ruleV r A c) := by
 intro k x hx; rcases Nat.lt_or_ge k rs.length with hk | hk
 ·rw [List.getElem?_append_left hk] at hx; obtain ⟨A', c', h1, h2⟩ := h k x hx; refine ⟨A', c', h1, fun j u hu => ?_⟩; have hj := h2 j u hu
  have : k * 4 + j < xs.length := by
   rcases Nat.lt_or_ge (k * 4 + j) xs.length with h3 | h3
   ·exact h3
   ·rw [List.getElem?_eq_none h3] at hj; cases hj
  rw [List.getElem?_append_left this]; exact hj
 ·rw [List.getElem?_append_right hk] at hx
  have hk2 : k = rs.length := by
   rcases Nat.lt_or_ge rs.length k with h3 | h3
   ·rw [List.getElem?_eq_none (by simp; omega)] at hx; cases hx
   ·omega
  subst hk2; obtain rfl : r = x := by simpa using hx
  refine ⟨A, c, hc, fun j u hu => ?_⟩; rw [List.getElem?_append_right (by omega), hl, show rs.length * 4 + j - rs.length * 4 = j from by omega]; exact hu
theorem rulesSl_own {w : World} {base : Nat} {v : Value} {rs : List RuleD} {xs : List Value} (ho : w.ownsRow base 41 4 v rs.length xs) (h : RulesOwn w rs xs) : RulesSl w w.heap.size v rs := by
 rcases ho.2 with ⟨rfl, h0⟩ | ⟨g, cap, cur, rfl, hb, hg, _, _, _, ht⟩
 ·exact ⟨none, 0, by rw [h0], Or.inl (List.eq_nil_of_length_eq_zero h0)⟩
 ·refine ⟨_, _, rfl, Or.inr ⟨g, 0, rfl, (Array.getElem?_eq_some_iff.1 hg).1, fun i x hx => ?_⟩⟩; obtain ⟨A, c, h1, h2⟩ := h i x hx; refine ⟨A, c, h1.sl, fun j u hu => ?_⟩; have h3 := h2 j u hu; rw [cell_of_row w _ _ _ _ _ hg, Nat.zero_add]; rw [← ht, List.getElem?_take] at h3; split at h3
  ·simpa using h3
  ·cases h3
theorem keptC_of_lt {w w' : World} (h : ∀ k, k < w.heap.size → w'.heap[k]? = w.heap[k]?) : KeptC w w' := fun k _ _ hk => (h k (Array.getElem?_eq_some_iff.1 hk).1).trans hk
theorem KeptC.trans {a b c : World} (h : KeptC a b) (k : KeptC b c) : KeptC a c := fun i cs fr hi => k i cs fr (h i cs fr hi)
theorem keptC_grown {w w' : World} {base n : Nat} {v : Value} {xs : List Value} {o : Obj} (h : w.ownsRow base 41 4 v n xs) (hg : (w.alloc o).grownBy w' v.ownBlock) : KeptC w w' := fun k cs fr hk => by
 have hks := (Array.getElem?_eq_some_iff.1 hk).1; refine (hg.block k (by simp; omega) (fun e => ?_)).trans ((heap_alloc_old w o hks).trans hk); rcases h.2 with ⟨rfl, _⟩ | ⟨g, cap, cur, rfl, _, hgg, _⟩
 ·simp [Value.ownBlock] at e
 ·simp only [Value.ownBlock, Option.some.injEq] at e; subst e; rw [hgg] at hk; simp only [Option.some.injEq, Obj.cells.injEq] at hk; exact absurd hk.2.1 (by decide)
theorem keptC_set {w : World} {b i : Nat} {u : Value} {cs : Array Value} {e : TypeId} {fr : Nat × Nat} (hb : w.heap[b]? = some (.cells cs e fr)) (he : e ≠ 47) : KeptC w (w.setCell ⟨b, i, none⟩ u) := fun k cs' fr' hk => by
 rw [heap_setCell_other w ⟨b, i, none⟩ k u (fun h => ?_)]
 ·exact hk
 ·simp only at h; subst h; rw [hb] at hk; simp only [Option.some.injEq, Obj.cells.injEq] at hk; exact he hk.2.1
end Go.Proofs.YtmgngapkgcofnabGreatDoor
namespace Go.Proofs.YtmgngapkgcofnabGreatDoor
open Go.RowKit
def rokP (r : RuleD) : Prop := r.conds.length ≤ 6 ∧ ∀ c ∈ r.conds, c.glob.size ≤ 60
theorem lightP_iff (p : PolD) : lightP p = true ↔ p.rules.length ≤ 14 ∧ ∀ r ∈ p.rules, rokP r := by
 unfold lightP rokP; simp only [Bool.and_eq_true, decide_eq_true_eq, List.all_eq_true]
theorem lightP_not {p : PolD} (h : ¬ (p.rules.length ≤ 14 ∧ ∀ r ∈ p.rules, rokP r)) : lightP p = false := by
 cases hl : lightP p with
 | false => rfl
 | true => exact absurd ((lightP_iff p).1 hl) h
set_option linter.unusedSimpArgs false in
set_option maxRecDepth 100000 in
set_option maxHeartbeats 4000000 in
theorem lightPolicy_any (v : Value) (p : PolD) (w : World) (h : PolAt w w.heap.size v p) :
  Calls Tryz.prog 9 #[v] w fun e w' => e = .returned (.bool (lightP p)) ∧ Below w.heap.size w w' := by
 obtain ⟨A, cp, rfl, hr⟩ := h; obtain ⟨A1, cp1, hA, hr⟩ := hr; obtain ⟨rfl, rfl⟩ : A = A1 ∧ cp = cp1 := by simpa using hA
 clear hA; obtain ⟨rules, pk, pe⟩ := p; simp only at hr ⊢; have HR := Lib.hid hr; clear hr; have HAB : Hid (Below w.heap.size w (w.alloc (.cells #[.slice A rules.length cp, .int .i64 pk, .int .i64 pe] 26))) := (Below.refl _ _).alloc (Nat.le_refl _) _
 by_cases h14 : 14 < rules.length
 ·have HF : Hid (lightP ⟨rules, pk, pe⟩ = false) := lightP_not (fun h => by have := h.1; simp only at this; omega); have x1 : (14 : Int) < (rules.length : Int) := by omega
  clear h14; go_enter Tryz.func9, Tryz.ntmps9
  go_wp2_with fail; go_ret; exact ⟨by rw [HF.out]; rfl, HAB.out⟩
 ·have x1 : ¬ (14 : Int) < (rules.length : Int) := by omega
  have hc3 := (cell3 w (.slice A rules.length cp) (.int .i64 pk) (.int .i64 pe) 26 _ (Below.refl _ _)).1; go_enter Tryz.func9, Tryz.ntmps9
  go_wp2_with fail; generalize w.alloc (.cells #[.slice A rules.length cp, .int .i64 pk, .int .i64 pe] 26) = W0 at *
  go_loop [3] (fun iv => ∃ i : Nat, i ≤ rules.length ∧ iv = .int .i64 i ∧ Hid (∀ (j : Nat) y, j < i → rules[j]? = some y → rokP y)) (fun iv => rules.length - (intOf iv).toNat)
  case atStart => exact ⟨0, Nat.zero_le _, rfl, fun j y hj _ => absurd hj (Nat.not_lt_zero j)⟩
  case round =>
   obtain ⟨i, hi, rfl, hZ⟩ := hrel
   by_cases hlt : i < rules.length
   ·have x2 : (i : Int) < (rules.length : Int) := by omega
    have x3 : (0 : Int) ≤ (i : Int) := by omega
    have hli : rules[i]? = some rules[i] := by simp
    obtain ⟨b, o, rfl, hb, hrow⟩ := HR.out.resolve_left (by intro e; rw [e] at hlt; simp at hlt); obtain ⟨A', c', hcs, hrg⟩ := hrow i _ hli; have hrg2 := rangeAt_below hrg HAB.out hb; have hcs2 := hcs.below HAB.out (Nat.le_refl _); have HNO : Hid (¬ rokP rules[i] → lightP ⟨rules, pk, pe⟩ = false) := fun h => lightP_not (fun h2 => h (h2.2 _ (by simp)))
    have HZ2 : Hid (rokP rules[i] → ∀ (j : Nat) y, j < i + 1 → rules[j]? = some y → rokP y) := fun h0 j y hj hy => by
     by_cases e : j = i
     ·subst e; rw [hli] at hy; obtain rfl := Option.some.inj hy; exact h0
     ·exact hZ.out j y (by omega) hy
    clear hrg hcs hrow hli hZ; generalize rules[i] = R at *
    obtain ⟨nr, conds, rk, re⟩ := R; simp only at hrg2 hcs2; have f1 := hrg2 1 _ rfl; clear hrg2; obtain ⟨_, A2, c2, hA2, hrw⟩ := hcs2; obtain ⟨rfl, rfl⟩ : A' = A2 ∧ c' = c2 := by simpa using hA2
    have HRW := Lib.hid hrw; clear hA2 hrw
    by_cases h6 : 6 < conds.length
    ·have y1 : (6 : Int) < (conds.length : Int) := by omega
     have HF : Hid (lightP ⟨rules, pk, pe⟩ = false) := HNO.out (fun h => by have := h.1; simp only at this; omega); clear h6
     go_wp2_with fail; go_ret; exact ⟨by rw [HF.out]; rfl, HAB.out⟩
    ·have y1 : ¬ (6 : Int) < (conds.length : Int) := by omega
     go_wp2_with fail
     go_loop [4] (fun kv => ∃ k : Nat, k ≤ conds.length ∧ kv = .int .i64 k ∧ Hid (∀ (j : Nat) y, j < k → conds[j]? = some y → y.glob.size ≤ 60)) (fun kv => conds.length - (intOf kv).toNat)
     case atStart => exact ⟨0, Nat.zero_le _, rfl, fun j y hj _ => absurd hj (Nat.not_lt_zero j)⟩
     case round =>
      obtain ⟨k, hk, rfl, hZk⟩ := hrel
      by_cases hkl : k < conds.length
      ·have y2 : (k : Int) < (conds.length : Int) := by omega
       have y3 : (0 : Int) ≤ (k : Int) := by omega
       have hlk : conds[k]? = some conds[k] := by simp
       obtain ⟨b2, o2, rfl, hb2, hrow2⟩ := HRW.out.resolve_left (by intro e; rw [e] at hkl; simp at hkl); have e4 : W0.cell? ⟨b2, o2 + k * 9 + 4, none⟩ = some (.string conds[k].glob) := hrow2 k _ hlk 4 _ rfl
       by_cases h60 : 60 < conds[k].glob.size
       ·have z1 : (60 : Int) < (conds[k].glob.size : Int) := by omega
        have HF : Hid (lightP ⟨rules, pk, pe⟩ = false) := HNO.out (fun h => by have := h.2 conds[k] (by simp); omega); clear h60 hrow2 hlk hZk; generalize conds[k].glob = gl at *
        go_wp2_with fail; go_ret; exact ⟨by rw [HF.out]; rfl, HAB.out⟩
       ·have z1 : ¬ (60 : Int) < (conds[k].glob.size : Int) := by omega
        have HZ3 : Hid (∀ (j : Nat) y, j < k + 1 → conds[j]? = some y → y.glob.size ≤ 60) := fun j y hj hy => by
         by_cases e : j = k
         ·subst e; rw [hlk] at hy; obtain rfl := Option.some.inj hy; omega
         ·exact hZk.out j y (by omega) hy
        clear h60 hrow2 hlk hZk; generalize conds[k].glob = gl at *
        go_wp2_with fail; go_round
        case rel => exact ⟨k + 1, by omega, by go_num, HZ3⟩
        case measure => simp [intOf]; omega
      ·obtain rfl : k = conds.length := by omega
       have HZ4 := Lib.hid (HZ2.out ⟨by simp only; omega, fun c hc => by
        obtain ⟨j, hj, rfl⟩ := List.getElem_of_mem hc; exact hZk.out j _ hj (by simp)⟩)
       clear hZk
       go_wp2_with fail; go_round
       case rel => exact ⟨i + 1, by omega, by go_num, HZ4⟩
       case measure => simp [intOf]; omega
   ·obtain rfl : i = rules.length := by omega
    have HF : Hid (lightP ⟨rules, pk, pe⟩ = true) := (lightP_iff _).2 ⟨by simp only; omega, fun r hr => by
     obtain ⟨j, hj, rfl⟩ := List.getElem_of_mem hr; exact hZ.out j _ hj (by simp)⟩
    go_wp2_with fail; go_ret; exact ⟨by rw [HF.out]; rfl, HAB.out⟩
end Go.Proofs.YtmgngapkgcofnabGreatDoor
namespace Go.Proofs.YtmgngapkgcofnabGreatDoor
open Go.RowKit Go.PlainAid
end Go.Proofs.YtmgngapkgcofnabGreatDoor
namespace Go.Proofs.YtmgngapkgcofnabGreatDoor
open Go.RowKit Go.PlainAid
structure ActD where
 kind : ByteArray
 n : Int
 a : Int
 s : ByteArray
 wr : Bool
 call : CallD
def ActD.row (x : ActD) : List Value := [.string x.kind, .int .i64 x.n, .int .u64 x.a, .string x.s, .bool x.wr, .int .u32 x.call.arch, .int .u32 x.call.nr, .int .u64 x.call.a0, .int .u64 x.call.a1, .int .u64 x.call.a2, .int .u64 x.call.a3]
def ActD.ok (x : ActD) : Prop := (Lit.int .i64 x.n).wf = true ∧ (0 ≤ x.a ∧ x.a < 18446744073709551616) ∧ x.call.ok ∧ x.s.size ≤ maxLen ∧ x.kind.size ≤ maxLen
def ActRow (w : World) (b o : Nat) (l : List ActD) : Prop := ∀ i x, l[i]? = some x → w.rangeAt b (o + i * 11) x.row
def ActsSl (w : World) (B : Nat) (v : Value) (l : List ActD) : Prop :=
 (∀ x ∈ l, x.ok) ∧ ∃ A c, v = .slice A l.length c ∧ (l = [] ∨ ∃ b o, A = some ⟨b, o, none⟩ ∧ b < B ∧ ActRow w b o l)
theorem ActRow.below {w w' : World} {b o B : Nat} {l : List ActD} (h : ActRow w b o l) (hb : Below B w w') (hB : b < B) : ActRow w' b o l :=
 fun i x hx j v hv => (hb.cell (p := ⟨b, _, none⟩) hB).trans (h i x hx j v hv)
theorem ActsSl.below {w w' : World} {B : Nat} {v : Value} {l : List ActD} (h : ActsSl w B v l) (hb : Below B w w') : ActsSl w' B v l := by
 obtain ⟨h0, A, c, h1, h2⟩ := h; refine ⟨h0, A, c, h1, h2.imp id ?_⟩; rintro ⟨b, o, ha, hB, hr⟩; exact ⟨b, o, ha, hB, hr.below hb hB⟩
theorem ActsSl.mono {w : World} {B B' : Nat} {v : Value} {l : List ActD} (h : ActsSl w B v l) (hb : B ≤ B') : ActsSl w B' v l := by
 obtain ⟨h0, A, c, h1, h2⟩ := h; refine ⟨h0, A, c, h1, h2.imp id ?_⟩; rintro ⟨b, o, ha, hB, hr⟩; exact ⟨b, o, ha, by omega, hr⟩
def lightF (l : List ActD) (most : Int) : Bool := decide ((l.length : Int) ≤ most) && l.all fun x => decide (x.s.size ≤ 200)
theorem lightF_len {l : List ActD} {most : Int} (h : lightF l most = true) : (l.length : Int) ≤ most ∧ ∀ x ∈ l, x.s.size ≤ 200 := by
 unfold lightF at h; simp only [Bool.and_eq_true, decide_eq_true_eq, List.all_eq_true] at h; exact h
set_option linter.unusedSimpArgs false in
set_option maxHeartbeats 2000000 in
theorem light_any (v : Value) (l : List ActD) (most : Int) (w : World) (h : ActsSl w w.heap.size v l) (hm : most ≤ 4096) :
  Calls Tryz.prog 10 #[v, .int .i64 most] w fun e w' => e = .returned (.bool (lightF l most)) ∧ w = w' := by
 obtain ⟨hok, A, c, rfl, hr⟩ := h
 by_cases h1 : most < (l.length : Int)
 ·have HF : Hid (lightF l most = false) := by show _ = _; unfold lightF; rw [decide_eq_false (by omega)]; rfl
  clear hr hok; go_enter Tryz.func10, Tryz.ntmps10
  go_wp2_with fail; go_ret; exact ⟨by rw [HF.out]; rfl, rfl⟩
 ·have HF : Hid (lightF l most = l.all fun x => decide (x.s.size ≤ 200)) := by show _ = _; unfold lightF; rw [decide_eq_true (by omega)]; rfl
  have HR := Lib.hid hr; have hlen : l.length ≤ 4096 := by omega
  clear hr hok; go_enter Tryz.func10, Tryz.ntmps10
  go_wp2_with fail
  go_loop [5] (fun iv => ∃ k : Nat, k ≤ l.length ∧ iv = .int .i64 k ∧ Hid (∀ i x, i < k → l[i]? = some x → x.s.size ≤ 200)) (fun iv => l.length - (intOf iv).toNat)
  case atStart => exact ⟨0, Nat.zero_le _, rfl, fun i x h _ => absurd h (Nat.not_lt_zero i)⟩
  case round =>
   obtain ⟨k, hk, rfl, hP⟩ := hrel
   by_cases hlt : k < l.length
   ·have x1 : (k : Int) < (l.length : Int) := by omega
    have x2 : (0 : Int) ≤ (k : Int) := by omega
    have hl : l[k]? = some l[k] := by simp
    obtain ⟨b, o, rfl, hb, hrow⟩ := HR.out.resolve_left (by intro e; rw [e] at hlt; simp at hlt); have hc := hrow k l[k] hl 3 (.string l[k].s) rfl
    by_cases h200 : 200 < l[k].s.size
    ·have HF2 : Hid (lightF l most = false) := by
      show _ = _; rw [HF.out, List.all_eq_false]; exact ⟨l[k], by simp, by simp; omega⟩
     have x3 : (200 : Int) < (l[k].s.size : Int) := by omega
     clear hrow h200; generalize l[k].s = s at *
     clear hl
     go_wp2_with fail; go_ret; exact ⟨by rw [HF2.out]; rfl, rfl⟩
    ·have x3 : ¬ (200 : Int) < (l[k].s.size : Int) := by omega
     have hP2 : Hid (∀ i x, i < k + 1 → l[i]? = some x → x.s.size ≤ 200) := by
      intro i x hi hx
      by_cases e : i = k
      ·subst e; rw [hl] at hx; obtain rfl := Option.some.inj hx; omega
      ·exact hP.out i x (by omega) hx
     clear hrow h200 hP; generalize l[k].s = s at *
     clear hl
     go_wp2_with fail; go_round
     case rel => exact ⟨k + 1, by omega, by go_num, hP2⟩
     case measure => simp [intOf]; omega
   ·obtain rfl : k = l.length := by omega
    have HF2 : Hid (lightF l most = true) := by
     show _ = _; rw [HF.out, List.all_eq_true]; intro x hx; obtain ⟨i, hi, rfl⟩ := List.getElem_of_mem hx; exact decide_eq_true (hP.out i _ hi (by simp))
    go_wp2_with fail; go_ret; exact ⟨by rw [HF2.out]; rfl, rfl⟩
end Go.Proofs.YtmgngapkgcofnabGreatDoor
namespace Go.Proofs.YtmgngapkgcofnabGreatDoor
open Go.RowKit Go.WideShapes Go.ChangeShapes Go.Deep
section
variable {H : Type} {enc : TypeId × Value → H} {w : World} {base : Nat} {spare : Nat → Bool} {held : Bool} {fuel : Nat}
theorem list11 {α : Type} {l : List α} (h : l.length = 11) : ∃ a b c d e f g i j k m, l = [a, b, c, d, e, f, g, i, j, k, m] := by
 match l, h with
 | [a, b, c, d, e, f, g, i, j, k, m], _ => exact ⟨a, b, c, d, e, f, g, i, j, k, m, rfl⟩
theorem cells67 : Tryz.prog.cellsOf 54 = 11 := by kernel_rfl
theorem cells9 : Tryz.prog.cellsOf 9 = 1 := by kernel_rfl
theorem cells4b : Tryz.prog.cellsOf 4 = 1 := by kernel_rfl
theorem str_cell {cs : List Value} {x : DataW H × List MemPlace} (h : DataW.trod enc Tryz.prog w base spare held fuel 9 cs = some x) : ∃ s : ByteArray, cs = [.string s] ∧ s.size ≤ maxLen := by
 obtain ⟨s, h1, _, h2⟩ := DataW.trod_string Tryz.underlying9 h; exact ⟨s, h1, h2⟩
theorem bool_cell {cs : List Value} {x : DataW H × List MemPlace} (h : DataW.trod enc Tryz.prog w base spare held fuel 4 cs = some x) : ∃ b, cs = [.bool b] := by
 obtain ⟨b, h1, _⟩ := DataW.trod_bool Tryz.underlying4 h; exact ⟨b, h1⟩
theorem list6b {α : Type} {l : List α} (h : l.length = 6) : ∃ a b c d e f, l = [a, b, c, d, e, f] := list6 h
set_option maxRecDepth 100000 in
theorem act_cells {cs : List Value} {x : DataW H × List MemPlace} (h : DataW.trod enc Tryz.prog w base spare held fuel 54 cs = some x) : ∃ a : ActD, cs = a.row ∧ a.ok := by
 obtain ⟨xs, m, _, _, hl, hxl, hf⟩ := DataW.trod_struct Tryz.underlying54 h; rw [cells67] at hl; obtain ⟨c0, c1, c2, c3, c4, c5, c6, c7, c8, c9, c10, rfl⟩ := list11 hl; obtain ⟨x0, x1, x2, x3, x4, x5, rfl⟩ := list6b hxl; have f0 := hf 0 _ rfl; have f1 := hf 1 _ rfl; have f2 := hf 2 _ rfl; have f3 := hf 3 _ rfl; have f4 := hf 4 _ rfl; have f5 := hf 5 _ rfl
 simp [cells9, cells3, cells37, cells4b, cells40] at f0 f1 f2 f3 f4 f5; obtain ⟨kind, e0, k0⟩ := str_cell f0; obtain ⟨n, e1, k1⟩ := int_cell f1; obtain ⟨a, e2, k2⟩ := u64_cell f2; obtain ⟨s, e3, k3⟩ := str_cell f3; obtain ⟨b, e4⟩ := bool_cell f4; obtain ⟨c, e5, k5⟩ := call_cells f5; simp at e0 e1 e2 e3 e4 e5; obtain ⟨rfl, rfl, rfl, rfl, rfl, rfl⟩ := e5; subst e0 e1 e2 e3 e4
 have h9 : a ≤ 18446744073709551615 := k2.2; have h8 : a < 18446744073709551616 := Int.lt_of_le_of_lt h9 (by decide); exact ⟨⟨kind, n, a, s, b, c⟩, rfl, k1, ⟨k2.1, h8⟩, k5, k3, k0⟩
theorem row_len (x : ActD) : x.row.length = 11 := rfl
set_option maxRecDepth 100000 in
theorem open_acts {r : Reach} {b0 : Nat} {v : Value} {d : DataW H} {p : List MemPlace} (hv : Value.okWide Tryz.prog w r b0 27 v) (h : DataW.Trod enc Tryz.prog w base spare held 27 v d p) :
  ∃ l : List ActD, ActsSl w w.heap.size v l := by
 obtain ⟨a0, len0, cap0, rfl⟩ := okWide_slice Tryz.underlying27 hv; obtain ⟨fuel, hf⟩ := h; rcases open_slice Tryz.underlying27 (by simpa [Value.cells] using hf) with ⟨hcs, _⟩ | ⟨a, len, cap, m, n, D, Pl, hcs, _, hl, hm, hmm, _, hi⟩
 ·simp only [List.cons.injEq, and_true] at hcs; exact ⟨[], by simp, none, 0, hcs, Or.inl rfl⟩
 ·simp only [List.cons.injEq, and_true] at hcs; have hlm : len ≤ m := by rw [hmm]; split <;> omega
  have hex : ∀ i, i < len → ∃ x : ActD, (∀ j u, x.row[j]? = some u → w.cell? ((a.add (i * 11)).add j) = some u) ∧ x.ok := by
   intro i hil; obtain ⟨cs', hc, ht⟩ := hi i (by omega); rw [cells67] at hc; obtain ⟨x, rfl, hx⟩ := act_cells ht; obtain ⟨_, _, hat⟩ := World.cells?_some hc; refine ⟨x, fun j u hu => ?_, hx⟩
   have hj : j < 11 := by
    rcases Nat.lt_or_ge j 11 with h | h
    ·exact h
    ·rw [List.getElem?_eq_none (by rw [row_len]; exact h)] at hu; cases hu
   rw [hat j hj, hu]
  obtain ⟨f, hf2⟩ : ∃ f : Nat → ActD, ∀ i, i < len → (∀ j u, (f i).row[j]? = some u → w.cell? ((a.add (i * 11)).add j) = some u) ∧ (f i).ok :=
   ⟨fun i => if h : i < len then Classical.choose (hex i h) else ⟨⟨#[]⟩, 0, 0, ⟨#[]⟩, false, ⟨0, 0, 0, 0, 0, 0⟩⟩, fun i h => by simp only [dif_pos h]; exact Classical.choose_spec (hex i h)⟩
  have hlen : ((List.range len).map f).length = len := by simp
  refine ⟨(List.range len).map f, ?_, some a, cap, by rw [hlen]; exact hcs, ?_⟩
  ·intro x hx; simp only [List.mem_map, List.mem_range] at hx; obtain ⟨i, hi, rfl⟩ := hx; exact (hf2 i hi).2
  ·rcases Nat.eq_zero_or_pos len with h0 | h0
   ·left; subst h0; rfl
   ·right; have hc0 := (hf2 0 h0).1 0 _ rfl; obtain ⟨b, o, spot⟩ := a; have hspot : spot = none := by simpa [Addr.add] using World.cell?_spot hc0
    subst hspot; refine ⟨b, o, rfl, by simpa [Addr.add] using block_lt hc0, fun i x hx => ?_⟩
    have hil : i < len := by
     rcases Nat.lt_or_ge i len with h | h
     ·exact h
     ·rw [List.getElem?_eq_none (by simpa using h)] at hx; cases hx
    obtain rfl : f i = x := by simpa [hil] using hx
    intro j u hu; have hc := (hf2 i hil).1 j u hu; rw [add_plain, add_plain] at hc; exact hc
end
end Go.Proofs.YtmgngapkgcofnabGreatDoor
