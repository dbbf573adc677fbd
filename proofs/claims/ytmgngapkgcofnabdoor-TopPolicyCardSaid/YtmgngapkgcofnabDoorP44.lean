/- LightPolicy: the walk. -/
import Derived.Test.YtmgngapkgcofnabDoorP21
namespace Go.Proofs.YtmgngapkgcofnabDoor
open Go.RowKit

def rokP (r : RuleD) : Prop := r.conds.length ≤ 6 ∧ ∀ c ∈ r.conds, c.glob.size ≤ 60
theorem lightP_iff (p : PolD) : lightP p = true ↔ p.rules.length ≤ 14 ∧ ∀ r ∈ p.rules, rokP r := by
  unfold lightP rokP
  simp only [Bool.and_eq_true, decide_eq_true_eq, List.all_eq_true]
theorem lightP_not {p : PolD} (h : ¬ (p.rules.length ≤ 14 ∧ ∀ r ∈ p.rules, rokP r)) : lightP p = false := by
  cases hl : lightP p with
  | false => rfl
  | true => exact absurd ((lightP_iff p).1 hl) h
set_option linter.unusedSimpArgs false in
set_option maxRecDepth 100000 in
set_option maxHeartbeats 4000000 in
theorem lightPolicy_any (v : Value) (p : PolD) (w : World) (h : PolAt w w.heap.size v p) :
    Calls Tryd.prog 11 #[v] w fun e w' => e = .returned (.bool (lightP p)) ∧ Below w.heap.size w w' := by
  obtain ⟨A, cp, rfl, hr⟩ := h
  obtain ⟨A1, cp1, hA, hr⟩ := hr
  obtain ⟨rfl, rfl⟩ : A = A1 ∧ cp = cp1 := by simpa using hA
  clear hA
  obtain ⟨rules, pk, pe⟩ := p
  simp only at hr ⊢
  have HR := Lib.hid hr
  clear hr
  have HAB : Hid (Below w.heap.size w (w.alloc (.cells #[.slice A rules.length cp, .int .i64 pk, .int .i64 pe] 40))) := (Below.refl _ _).alloc (Nat.le_refl _) _
  by_cases h14 : 14 < rules.length
  · have HF : Hid (lightP ⟨rules, pk, pe⟩ = false) := lightP_not (fun h => by have := h.1; simp only at this; omega)
    have x1 : (14 : Int) < (rules.length : Int) := by omega
    clear h14
    go_enter Tryd.func11, Tryd.ntmps11
    go_wp2_with fail
    go_ret
    exact ⟨by rw [HF.out]; rfl, HAB.out⟩
  · have x1 : ¬ (14 : Int) < (rules.length : Int) := by omega
    have hc3 := (cell3 w (.slice A rules.length cp) (.int .i64 pk) (.int .i64 pe) 40 _ (Below.refl _ _)).1
    go_enter Tryd.func11, Tryd.ntmps11
    go_wp2_with fail
    generalize w.alloc (.cells #[.slice A rules.length cp, .int .i64 pk, .int .i64 pe] 40) = W0 at *
    go_loop [3] (fun iv => ∃ i : Nat, i ≤ rules.length ∧ iv = .int .i64 i ∧ Hid (∀ (j : Nat) y, j < i → rules[j]? = some y → rokP y)) (fun iv => rules.length - (intOf iv).toNat)
    case atStart => exact ⟨0, Nat.zero_le _, rfl, fun j y hj _ => absurd hj (Nat.not_lt_zero j)⟩
    case round =>
      obtain ⟨i, hi, rfl, hZ⟩ := hrel
      by_cases hlt : i < rules.length
      · have x2 : (i : Int) < (rules.length : Int) := by omega
        have x3 : (0 : Int) ≤ (i : Int) := by omega
        have hli : rules[i]? = some rules[i] := by simp
        obtain ⟨b, o, rfl, hb, hrow⟩ := HR.out.resolve_left (by intro e; rw [e] at hlt; simp at hlt)
        obtain ⟨A', c', hcs, hrg⟩ := hrow i _ hli
        have hrg2 := rangeAt_below hrg HAB.out hb
        have hcs2 := hcs.below HAB.out (Nat.le_refl _)
        have HNO : Hid (¬ rokP rules[i] → lightP ⟨rules, pk, pe⟩ = false) := fun h => lightP_not (fun h2 => h (h2.2 _ (by simp)))
        have HZ2 : Hid (rokP rules[i] → ∀ (j : Nat) y, j < i + 1 → rules[j]? = some y → rokP y) := fun h0 j y hj hy => by
          by_cases e : j = i
          · subst e; rw [hli] at hy; obtain rfl := Option.some.inj hy; exact h0
          · exact hZ.out j y (by omega) hy
        clear hrg hcs hrow hli hZ
        generalize rules[i] = R at *
        obtain ⟨nr, conds, rk, re⟩ := R
        simp only at hrg2 hcs2
        have f1 := hrg2 1 _ rfl
        clear hrg2
        obtain ⟨_, A2, c2, hA2, hrw⟩ := hcs2
        obtain ⟨rfl, rfl⟩ : A' = A2 ∧ c' = c2 := by simpa using hA2
        have HRW := Lib.hid hrw
        clear hA2 hrw
        by_cases h6 : 6 < conds.length
        · have y1 : (6 : Int) < (conds.length : Int) := by omega
          have HF : Hid (lightP ⟨rules, pk, pe⟩ = false) := HNO.out (fun h => by have := h.1; simp only at this; omega)
          clear h6
          go_wp2_with fail
          go_ret
          exact ⟨by rw [HF.out]; rfl, HAB.out⟩
        · have y1 : ¬ (6 : Int) < (conds.length : Int) := by omega
          go_wp2_with fail
          go_loop [4] (fun kv => ∃ k : Nat, k ≤ conds.length ∧ kv = .int .i64 k ∧ Hid (∀ (j : Nat) y, j < k → conds[j]? = some y → y.glob.size ≤ 60)) (fun kv => conds.length - (intOf kv).toNat)
          case atStart => exact ⟨0, Nat.zero_le _, rfl, fun j y hj _ => absurd hj (Nat.not_lt_zero j)⟩
          case round =>
            obtain ⟨k, hk, rfl, hZk⟩ := hrel
            by_cases hkl : k < conds.length
            · have y2 : (k : Int) < (conds.length : Int) := by omega
              have y3 : (0 : Int) ≤ (k : Int) := by omega
              have hlk : conds[k]? = some conds[k] := by simp
              obtain ⟨b2, o2, rfl, hb2, hrow2⟩ := HRW.out.resolve_left (by intro e; rw [e] at hkl; simp at hkl)
              have e4 : W0.cell? ⟨b2, o2 + k * 9 + 4, none⟩ = some (.string conds[k].glob) := hrow2 k _ hlk 4 _ rfl
              by_cases h60 : 60 < conds[k].glob.size
              · have z1 : (60 : Int) < (conds[k].glob.size : Int) := by omega
                have HF : Hid (lightP ⟨rules, pk, pe⟩ = false) := HNO.out (fun h => by have := h.2 conds[k] (by simp); omega)
                clear h60 hrow2 hlk hZk
                generalize conds[k].glob = gl at *
                go_wp2_with fail
                go_ret
                exact ⟨by rw [HF.out]; rfl, HAB.out⟩
              · have z1 : ¬ (60 : Int) < (conds[k].glob.size : Int) := by omega
                have HZ3 : Hid (∀ (j : Nat) y, j < k + 1 → conds[j]? = some y → y.glob.size ≤ 60) := fun j y hj hy => by
                  by_cases e : j = k
                  · subst e; rw [hlk] at hy; obtain rfl := Option.some.inj hy; omega
                  · exact hZk.out j y (by omega) hy
                clear h60 hrow2 hlk hZk
                generalize conds[k].glob = gl at *
                go_wp2_with fail
                go_round
                case rel => exact ⟨k + 1, by omega, by go_num, HZ3⟩
                case measure => simp [intOf]; omega
            · obtain rfl : k = conds.length := by omega
              have HZ4 := Lib.hid (HZ2.out ⟨by simp only; omega, fun c hc => by
                obtain ⟨j, hj, rfl⟩ := List.getElem_of_mem hc
                exact hZk.out j _ hj (by simp)⟩)
              clear hZk
              go_wp2_with fail
              go_round
              case rel => exact ⟨i + 1, by omega, by go_num, HZ4⟩
              case measure => simp [intOf]; omega
      · obtain rfl : i = rules.length := by omega
        have HF : Hid (lightP ⟨rules, pk, pe⟩ = true) := (lightP_iff _).2 ⟨by simp only; omega, fun r hr => by
          obtain ⟨j, hj, rfl⟩ := List.getElem_of_mem hr
          exact hZ.out j _ hj (by simp)⟩
        go_wp2_with fail
        go_ret
        exact ⟨by rw [HF.out]; rfl, HAB.out⟩

end Go.Proofs.YtmgngapkgcofnabDoor
