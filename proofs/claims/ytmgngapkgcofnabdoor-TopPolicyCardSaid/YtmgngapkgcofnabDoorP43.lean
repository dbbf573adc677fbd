/- Own: a policy in its own memory; the first append of a rule's conditions. -/
import Derived.Test.YtmgngapkgcofnabDoorP21
import Derived.Deep.RegionLaw
import Derived.Deep.AppendLies
namespace Go.Proofs.YtmgngapkgcofnabDoor
open Go.RowKit Go.PlainAid

def flatC (l : List CondD) : List Value := l.flatMap CondD.row
theorem flatC_cons (x : CondD) (r : List CondD) : flatC (x :: r) = x.row ++ flatC r := rfl
theorem crow9 (x : CondD) : x.row.length = 9 := rfl
theorem flatC_len : ∀ l : List CondD, (flatC l).length = l.length * 9
  | [] => rfl
  | x :: r => by rw [flatC_cons, List.length_append, flatC_len r, crow9, List.length_cons]; omega
theorem flatC_of : ∀ (l : List CondD) (k : Nat) (u : Value), (flatC l)[k]? = some u → ∃ i x j, k = i * 9 + j ∧ l[i]? = some x ∧ x.row[j]? = some u
  | [], k, u, h => by simp [flatC] at h
  | x :: r, k, u, h => by
    rw [flatC_cons, List.getElem?_append] at h
    split at h
    · exact ⟨0, x, k, by omega, rfl, h⟩
    · rename_i hk
      rw [crow9] at h hk
      obtain ⟨i, y, j, e, hy, hu⟩ := flatC_of r _ u h
      exact ⟨i + 1, y, j, by omega, by simpa using hy, hu⟩
theorem flatC_at : ∀ (l : List CondD) (i : Nat) (x : CondD) (j : Nat) (u : Value), l[i]? = some x → x.row[j]? = some u → (flatC l)[i * 9 + j]? = some u
  | [], i, x, j, u, h, _ => by simp at h
  | y :: r, 0, x, j, u, h, hu => by
    obtain rfl : y = x := by simpa using h
    have hj : j < 9 := by
      rcases Nat.lt_or_ge j 9 with h1 | h1
      · exact h1
      · rw [List.getElem?_eq_none (by rw [crow9]; exact h1)] at hu; cases hu
    rw [flatC_cons, Nat.zero_mul, Nat.zero_add, List.getElem?_append_left (by rw [crow9]; exact hj)]
    exact hu
  | y :: r, i + 1, x, j, u, h, hu => by
    rw [flatC_cons, List.getElem?_append_right (by rw [crow9]; omega), crow9, show (i + 1) * 9 + j - 9 = i * 9 + j from by omega]
    exact flatC_at r i x j u (by simpa using h) hu
theorem flatC_cells {w : World} {b o : Nat} {l : List CondD} (h : CondRow w b o l) : ∀ k u, (flatC l)[k]? = some u → w.cell? ((⟨b, o, none⟩ : Addr).add k) = some u := fun k u hu => by
  obtain ⟨i, x, j, rfl, hx, hj⟩ := flatC_of l k u hu
  have := h i x hx j u hj
  rw [add_plain, ← Nat.add_assoc]
  exact this
theorem flatC_one (l : List CondD) : ∀ u ∈ flatC l, u.oneCell' = true := by
  intro u hu
  simp only [flatC, List.mem_flatMap] at hu
  obtain ⟨x, _, hx⟩ := hu
  simp only [CondD.row, List.mem_cons, List.not_mem_nil, or_false] at hx
  rcases hx with rfl | rfl | rfl | rfl | rfl | rfl | rfl | rfl | rfl <;> rfl
theorem condInfo : ∃ z, (Tryd.prog.info? 86).map (fun i => (i.zero, i.size, i.bytes)) = some (some z, 9, 80) ∧ z.cells.size = 9 := ⟨.agg #[.int .i64 0, .int .i64 0, .int .u64 0, .int .u64 0, .string ⟨#[]⟩, .int .u32 0, .int .i64 0, .int .i64 0, .int .i64 0], by kernel_rfl, rfl⟩
theorem ruleInfo : ∃ z, (Tryd.prog.info? 84).map (fun i => (i.zero, i.size, i.bytes)) = some (some z, 4, 48) ∧ z.cells.size = 4 := ⟨.agg #[.int .i64 0, .slice none 0 0, .int .i64 0, .int .i64 0], by kernel_rfl, rfl⟩

theorem run_append_conds (w : World) (ty : TypeId) (base B : Nat) (A : Option Addr) (c : Nat) (l : List CondD) (h : CondsSl w B (.slice A l.length c) l) (hl : l.length ≤ 100) (hbase : base ≤ w.heap.size) :
    ∃ A1 c1 w', (Builtin.append_ #[82, 82] ty #[.slice none 0 0, .slice A l.length c]).run Tryd.prog w = .ok (.slice A1 l.length c1) w' ∧ w'.ownsRow base 86 9 (.slice A1 l.length c1) l.length (flatC l) ∧ w.grownBy w' none := by
  obtain ⟨z, hinf, hz2⟩ := condInfo
  obtain ⟨i0, hi, hz0, hz1, hz3⟩ := info_parts hinf
  obtain ⟨hok, A1, c1, hA, h2⟩ := h
  obtain ⟨rfl, rfl⟩ : A = A1 ∧ c = c1 := by simpa using hA
  rcases h2 with rfl | ⟨b, o, rfl, hb, hrow⟩
  · refine ⟨none, 0, w, ?_, World.ownsRow_nil w base _ 9, ⟨rfl, rfl, rfl, Nat.le_refl _, fun _ _ _ => rfl⟩⟩
    cases A <;> simp [Builtin.append_, run_underlying Tryd.underlying82, sizeOf, typeInfo, hi, Builtin.lenOf, Builtin.firstCells, loadCells, loadCellsFrom]
  · obtain ⟨v', w', hr, ho, hg, _, _⟩ := run_append_own_at (P := Tryd.prog) w base 82 ty 86 i0 z 9 80 Tryd.underlying82 hi hz0 hz1 hz3 hz2 (by omega) (.slice none 0 0) 0 [] (World.ownsRow_nil w base _ 9) ⟨b, o, none⟩ l.length c (flatC l) (flatC_len l) (flatC_cells hrow) (flatC_one l) (by unfold maxLen; omega) (by omega) hbase
    rw [Nat.zero_add, List.nil_append] at ho
    obtain ⟨A1, c1, rfl⟩ := own_form2 ho
    exact ⟨A1, c1, w', hr, ho, hg⟩
/-- The first append, at a step of the region that draws. -/
theorem step_append_conds {w : World} {ops : Array Oper} {o : Oper} {a : Act} {K : Act → World → Prop} {Q : Exit → Act → World → Prop} {E : Prop} (hgd : o.guard = none) (s x : Operand)
    (ho : o.op = .call { callee := .builtin .append, args := #[s, x], argTypes := #[82, 82] })
    (base B : Nat) (A : Option Addr) (c : Nat) (l : List CondD) (hs : a.eval s = .slice none 0 0) (hx : a.eval x = .slice A l.length c) (hc : CondsSl w B (.slice A l.length c) l) (hl : l.length ≤ 100) (hbase : base ≤ w.heap.size)
    (h : ∀ A1 c1 w', w'.ownsRow base 86 9 (.slice A1 l.length c1) l.length (flatC l) → w.grownBy w' none → K (a.put o.dst (.slice A1 l.length c1)) w') :
    if Region.wanted o (yielded ops a.tmps) = true then Oper.wp Tryd.prog o a w K Q else E := by
  have hw : Region.wanted o (yielded ops a.tmps) = true := by simp [Region.wanted, hgd]
  rw [if_pos hw]
  obtain ⟨A1, c1, w', hr, h2, h3⟩ := run_append_conds w o.type base B A c l hc hl hbase
  unfold Oper.wp execOp
  simp only [ho, resolve, invoke, builtin, Sem.run_bind, Sem.run_pure, Result.andThen_ok, List.map_toArray, List.map_cons, List.map_nil, hs, hx, hr]
  exact h A1 c1 w' h2 h3

/-- A rule's conditions in a row of their own. -/
def CondsOwn (w : World) (v : Value) (l : List CondD) : Prop := (∀ x ∈ l, x.ok) ∧ ∃ A c, v = .slice A l.length c ∧ (l = [] ∨ ∃ (g : Nat) (cs : Array Value) (fr : Nat × Nat), A = some ⟨g, 0, none⟩ ∧ w.heap[g]? = some (.cells cs 86 fr) ∧ ∀ (k : Nat) (u : Value), (flatC l)[k]? = some u → cs[k]? = some u)
/-- What is a row of conditions stands. -/
def KeptC (w w' : World) : Prop := ∀ (k : Nat) (cs : Array Value) (fr : Nat × Nat), w.heap[k]? = some (Obj.cells cs 86 fr) → w'.heap[k]? = some (Obj.cells cs 86 fr)
theorem CondsOwn.kept {w w' : World} {v : Value} {l : List CondD} (h : CondsOwn w v l) (hk : KeptC w w') : CondsOwn w' v l := by
  obtain ⟨h0, A, c, h1, h2⟩ := h
  refine ⟨h0, A, c, h1, h2.imp id ?_⟩
  rintro ⟨g, cs, fr, ha, hg, hx⟩
  exact ⟨g, cs, fr, ha, hk g cs fr hg, hx⟩
theorem CondsOwn.sl {w : World} {v : Value} {l : List CondD} (h : CondsOwn w v l) : CondsSl w w.heap.size v l := by
  obtain ⟨h0, A, c, h1, h2⟩ := h
  refine ⟨h0, A, c, h1, h2.imp id ?_⟩
  rintro ⟨g, cs, fr, ha, hg, hx⟩
  refine ⟨g, 0, ha, (Array.getElem?_eq_some_iff.1 hg).1, fun i x hi j u hu => ?_⟩
  rw [cell_of_row w _ _ _ _ _ hg, Nat.zero_add]
  exact hx _ u (flatC_at l i x j u hi hu)
theorem condsOwn_of {w : World} {base g cap : Nat} {l : List CondD} {m : List Value} (hok : ∀ x ∈ l, x.ok) (h : w.ownsRow base 86 9 (.slice (some ⟨g, 0, none⟩) (l.length + 1) cap) (l.length + 1) (flatC l ++ m)) : CondsOwn w (.slice (some ⟨g, 0, none⟩) l.length cap) l := by
  refine ⟨hok, _, _, rfl, Or.inr ?_⟩
  rcases h.2 with ⟨_, h0⟩ | ⟨g', cap', cur, hv, _, hg, _, _, _, ht⟩
  · omega
  · simp only [Value.slice.injEq, Option.some.injEq, Addr.mk.injEq, and_true, true_and] at hv
    obtain ⟨rfl, rfl⟩ := hv
    refine ⟨g, cur, _, rfl, hg, fun k u hu => ?_⟩
    have h3 : (flatC l ++ m)[k]? = some u := by
      have hk : k < (flatC l).length := by
        rcases Nat.lt_or_ge k (flatC l).length with h1 | h1
        · exact h1
        · rw [List.getElem?_eq_none h1] at hu; cases hu
      rw [List.getElem?_append_left hk]; exact hu
    rw [← ht, List.getElem?_take] at h3
    split at h3
    · simpa using h3
    · cases h3

def ruleV (r : RuleD) (A : Option Addr) (c : Nat) : List Value := [.int .i64 r.nr, .slice A r.conds.length c, .int .i64 r.kind, .int .i64 r.errno]
/-- Rules in a row of their own, each with its conditions. -/
def RulesOwn (w : World) (rs : List RuleD) (xs : List Value) : Prop := ∀ k r, rs[k]? = some r → ∃ A c, CondsOwn w (.slice A r.conds.length c) r.conds ∧ ∀ j u, (ruleV r A c)[j]? = some u → xs[k * 4 + j]? = some u
theorem RulesOwn.kept {w w' : World} {rs : List RuleD} {xs : List Value} (h : RulesOwn w rs xs) (hk : KeptC w w') : RulesOwn w' rs xs := fun k r hr => by
  obtain ⟨A, c, h1, h2⟩ := h k r hr
  exact ⟨A, c, h1.kept hk, h2⟩
theorem RulesOwn.snoc {w : World} {rs : List RuleD} {xs : List Value} {r : RuleD} {A : Option Addr} {c : Nat} (h : RulesOwn w rs xs) (hl : xs.length = rs.length * 4) (hc : CondsOwn w (.slice A r.conds.length c) r.conds) : RulesOwn w (rs ++ [r]) (xs ++ ruleV r A c) := by
  intro k x hx
  rcases Nat.lt_or_ge k rs.length with hk | hk
  · rw [List.getElem?_append_left hk] at hx
    obtain ⟨A', c', h1, h2⟩ := h k x hx
    refine ⟨A', c', h1, fun j u hu => ?_⟩
    have hj := h2 j u hu
    have : k * 4 + j < xs.length := by
      rcases Nat.lt_or_ge (k * 4 + j) xs.length with h3 | h3
      · exact h3
      · rw [List.getElem?_eq_none h3] at hj; cases hj
    rw [List.getElem?_append_left this]; exact hj
  · rw [List.getElem?_append_right hk] at hx
    have hk2 : k = rs.length := by
      rcases Nat.lt_or_ge rs.length k with h3 | h3
      · rw [List.getElem?_eq_none (by simp; omega)] at hx; cases hx
      · omega
    subst hk2
    obtain rfl : r = x := by simpa using hx
    refine ⟨A, c, hc, fun j u hu => ?_⟩
    rw [List.getElem?_append_right (by omega), hl, show rs.length * 4 + j - rs.length * 4 = j from by omega]
    exact hu
theorem rulesSl_own {w : World} {base : Nat} {v : Value} {rs : List RuleD} {xs : List Value} (ho : w.ownsRow base 84 4 v rs.length xs) (h : RulesOwn w rs xs) : RulesSl w w.heap.size v rs := by
  rcases ho.2 with ⟨rfl, h0⟩ | ⟨g, cap, cur, rfl, hb, hg, _, _, _, ht⟩
  · exact ⟨none, 0, by rw [h0], Or.inl (List.eq_nil_of_length_eq_zero h0)⟩
  · refine ⟨_, _, rfl, Or.inr ⟨g, 0, rfl, (Array.getElem?_eq_some_iff.1 hg).1, fun i x hx => ?_⟩⟩
    obtain ⟨A, c, h1, h2⟩ := h i x hx
    refine ⟨A, c, h1.sl, fun j u hu => ?_⟩
    have h3 := h2 j u hu
    rw [cell_of_row w _ _ _ _ _ hg, Nat.zero_add]
    rw [← ht, List.getElem?_take] at h3
    split at h3
    · simpa using h3
    · cases h3
theorem rule_cell4 (W : World) (b : Nat) (p q r t : Value) (e : TypeId) (hc : W.heap[b]? = some (.cells #[p, q, r, t] e (0, 0))) :
    ∀ (j : Nat) (u : Value), [p, q, r, t][j]? = some u → W.cell? ((⟨b, 0, none⟩ : Addr).add j) = some u := by
  intro j u hu
  match j, hu with
  | 0, hu | 1, hu | 2, hu | 3, hu => simp at hu; subst hu; simp [Addr.add, World.cell?, hc]
theorem keptC_of_lt {w w' : World} (h : ∀ k, k < w.heap.size → w'.heap[k]? = w.heap[k]?) : KeptC w w' := fun k _ _ hk => (h k (Array.getElem?_eq_some_iff.1 hk).1).trans hk
theorem KeptC.trans {a b c : World} (h : KeptC a b) (k : KeptC b c) : KeptC a c := fun i cs fr hi => k i cs fr (h i cs fr hi)
theorem keptC_grown {w w' : World} {base n : Nat} {v : Value} {xs : List Value} {o : Obj} (h : w.ownsRow base 84 4 v n xs) (hg : (w.alloc o).grownBy w' v.ownBlock) : KeptC w w' := fun k cs fr hk => by
  have hks := (Array.getElem?_eq_some_iff.1 hk).1
  refine (hg.block k (by simp; omega) (fun e => ?_)).trans ((heap_alloc_old w o hks).trans hk)
  rcases h.2 with ⟨rfl, _⟩ | ⟨g, cap, cur, rfl, _, hgg, _⟩
  · simp [Value.ownBlock] at e
  · simp only [Value.ownBlock, Option.some.injEq] at e
    subst e
    rw [hgg] at hk
    simp only [Option.some.injEq, Obj.cells.injEq] at hk
    exact absurd hk.2.1 (by decide)
theorem keptC_set {w : World} {b i : Nat} {u : Value} {cs : Array Value} {e : TypeId} {fr : Nat × Nat} (hb : w.heap[b]? = some (.cells cs e fr)) (he : e ≠ 86) : KeptC w (w.setCell ⟨b, i, none⟩ u) := fun k cs' fr' hk => by
  rw [heap_setCell_other w ⟨b, i, none⟩ k u (fun h => ?_)]
  · exact hk
  · simp only at h
    subst h
    rw [hb] at hk
    simp only [Option.some.injEq, Obj.cells.injEq] at hk
    exact he hk.2.1

end Go.Proofs.YtmgngapkgcofnabDoor
