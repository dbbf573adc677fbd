/- A policy's text read: what stands in memory meanwhile. -/
import Derived.Test.YtmgngapkgcofnaaGreatDoorM27
import Derived.Test.YtmgngapkgcofnaaGreatDoorM33
import Derived.Test.YtmgngapkgcofnaaGreatDoorM37
import Derived.Test.YtmgngapkgcofnaaGreatDoorM19
namespace Go.Proofs.YtmgngapkgcofnaaGreatDoor
open Go.RowKit

theorem step_append_rule {w : World} {ops : Array Oper} {o : Oper} {a : Act} {K : Act → World → Prop} {Q : Exit → Act → World → Prop} {E : Prop} (hgd : o.guard = none) (s x : Operand)
    (ho : o.op = .call { callee := .builtin .append, args := #[s, x], argTypes := #[23, 23] })
    (base bs n : Nat) (v1 : Value) (xs : List Value) (y : RuleD) (A : Option Addr) (c : Nat) (hs : a.eval s = v1) (hx : a.eval x = .slice (some ⟨bs, 0, none⟩) 1 1)
    (hown : w.ownsRow base 73 4 v1 n xs)
    (hb : w.heap[bs]? = some (.cells #[.int .i64 y.nr, .slice A y.conds.length c, .int .i64 y.kind, .int .i64 y.errno] 73 (0, 0))) (hl : n ≤ 1000000) (hbase : base ≤ w.heap.size)
    (h : ∀ g cap w', w'.ownsRow base 73 4 (.slice (some ⟨g, 0, none⟩) (n + 1) cap) (n + 1) (xs ++ ruleV y A c) → w.grownBy w' v1.ownBlock → K (a.put o.dst (.slice (some ⟨g, 0, none⟩) (n + 1) cap)) w') :
    if Region.wanted o (yielded ops a.tmps) = true then Oper.wp Tryz.prog o a w K Q else E := by
  obtain ⟨z, hinf, hz2⟩ := ruleInfo
  obtain ⟨i0, hi, hz0, hz1, hz3⟩ := info_parts hinf
  refine step_append_lies w hgd s x _ ho base 73 i0 z 4 48 Tryz.underlying23 hi hz0 hz1 hz3 hz2 (by omega) v1 n xs hs hown ⟨bs, 0, none⟩ 1 1 (ruleV y A c) hx rfl (World.news_of_block hb) (by simp [ruleV, Value.oneCell']) (by omega) (by unfold maxLen; omega) (by omega) hbase _ rfl ?_
  intro g cap w' h2 h3 _ _
  exact h g cap w' h2 h3

/-- Rules in a row, whose conditions lie behind B. -/
def RulesOwnB (w : World) (B : Nat) (rs : List RuleD) (xs : List Value) : Prop := ∀ k r, rs[k]? = some r → ∃ A c, CondsOwn w (.slice A r.conds.length c) r.conds ∧ CondsFrom B (.slice A r.conds.length c) ∧ ∀ j u, (ruleV r A c)[j]? = some u → xs[k * 4 + j]? = some u
theorem RulesOwnB.own {w : World} {B : Nat} {rs : List RuleD} {xs : List Value} (h : RulesOwnB w B rs xs) : RulesOwn w rs xs := fun k r hr => by
  obtain ⟨A, c, h1, _, h3⟩ := h k r hr
  exact ⟨A, c, h1, h3⟩
theorem RulesOwnB.kept {w w' : World} {B : Nat} {rs : List RuleD} {xs : List Value} (h : RulesOwnB w B rs xs) (hk : KeptC w w') : RulesOwnB w' B rs xs := fun k r hr => by
  obtain ⟨A, c, h1, h2, h3⟩ := h k r hr
  exact ⟨A, c, h1.kept hk, h2, h3⟩
theorem RulesOwnB.snoc {w : World} {B : Nat} {rs : List RuleD} {xs : List Value} {r : RuleD} {A : Option Addr} {c : Nat} (h : RulesOwnB w B rs xs) (hl : xs.length = rs.length * 4) (hc : CondsOwn w (.slice A r.conds.length c) r.conds) (hf : CondsFrom B (.slice A r.conds.length c)) : RulesOwnB w B (rs ++ [r]) (xs ++ ruleV r A c) := by
  intro k q hq
  rcases Nat.lt_or_ge k rs.length with hk | hk
  · rw [List.getElem?_append_left hk] at hq
    obtain ⟨A', c', h1, h2, h3⟩ := h k q hq
    refine ⟨A', c', h1, h2, fun j u hu => ?_⟩
    have hj := h3 j u hu
    have hlt : k * 4 + j < xs.length := by
      rcases Nat.lt_or_ge (k * 4 + j) xs.length with h' | h'
      · exact h'
      · rw [List.getElem?_eq_none h'] at hj; cases hj
    rw [List.getElem?_append_left hlt]
    exact hj
  · rw [List.getElem?_append_right hk] at hq
    have hk0 : k - rs.length = 0 := by
      rcases Nat.eq_zero_or_pos (k - rs.length) with h0 | h0
      · exact h0
      · rw [List.getElem?_eq_none (by simp; omega)] at hq; cases hq
    rw [hk0] at hq
    obtain rfl : r = q := by simpa using hq
    refine ⟨A, c, hc, hf, fun j u hu => ?_⟩
    rw [List.getElem?_append_right (by omega), show k * 4 + j - xs.length = j from by omega]
    exact hu
theorem CondsFrom.mono {B B' : Nat} {v : Value} (h : CondsFrom B v) (hb : B' ≤ B) : CondsFrom B' v := by
  rcases h with h | ⟨g, n, c, h1, h2⟩
  · exact .inl h
  · exact .inr ⟨g, n, c, h1, Nat.le_trans hb h2⟩
theorem keptC_but {w w' : World} {b : Nat} {cur : Array Value} {t : TypeId} {fr : Nat × Nat} (hg : w.grownBy w' (some b)) (hb : w.heap[b]? = some (.cells cur t fr)) (ht : t ≠ 84) : KeptC w w' := fun k cs f hk => by
  refine (hg.block k (lt_of_block hk) (fun e => ?_)).trans hk
  simp only [Option.some.injEq] at e
  subst e
  rw [hb] at hk
  simp only [Option.some.injEq, Obj.cells.injEq] at hk
  exact ht hk.2.1
theorem keptC_below {w w' : World} (h : Below w.heap.size w w') : KeptC w w' := keptC_of_lt h.block

def zero3 : Array Value := #[.slice none 0 0, .int .i64 0, .int .i64 0]
/-- What stands in the walk of Parse: the result's block (the first behind w), the policy's, the lines' row. -/
structure PS (w W : World) (lines : List ByteArray) (rs : List RuleD) (k e : Int) (AO : Option Addr) (cO : Nat) (xs : List Value) : Prop where
  bel : Below w.heap.size w W
  res : W.heap[w.heap.size]? = some (.cells zero3 27 (0, 0))
  pol : W.heap[w.heap.size + 1]? = some (.cells #[.slice AO rs.length cO, .int .i64 k, .int .i64 e] 27 (0, 0))
  lin : W.heap[w.heap.size + 2]? = some (.cells (lines.map Value.string).toArray 9 (0, 0))
  own : W.ownsRow (w.heap.size + 3) 73 4 (.slice AO rs.length cO) rs.length xs
  rul : RulesOwnB W (w.heap.size + 3) rs xs
section
variable {w W W' : World} {lines : List ByteArray} {rs : List RuleD} {k e : Int} {AO : Option Addr} {cO : Nat} {xs : List Value}
theorem PS.big (h : PS w W lines rs k e AO cO xs) : w.heap.size + 3 ≤ W.heap.size := lt_of_block h.lin
theorem PS.below (h : PS w W lines rs k e AO cO xs) (hb : Below W.heap.size W W') : PS w W' lines rs k e AO cO xs := by
  have hs := h.big
  refine ⟨h.bel.trans (hb.mono (by omega)), (hb.block _ (by omega)).trans h.res, (hb.block _ (by omega)).trans h.pol, (hb.block _ (by omega)).trans h.lin, ?_, h.rul.kept (keptC_below hb)⟩
  exact own_at h.own (fun g cur _ hg => (hb.block g (lt_of_block hg)).trans hg)
theorem PS.words (h : PS w W lines rs k e AO cO xs) {b : Nat} {cur : Array Value} (hb : w.heap.size + 3 ≤ b) (hg : W.grownBy W' (some b)) (hw : W.heap[b]? = some (.cells cur 68 (0, 0))) : PS w W' lines rs k e AO cO xs := by
  have hs := h.big
  refine ⟨below_of_grown h.bel hg (by omega) (by omega), (hg.block _ (by omega) (by simp; omega)).trans h.res, (hg.block _ (by omega) (by simp; omega)).trans h.pol, (hg.block _ (by omega) (by simp; omega)).trans h.lin, ?_, h.rul.kept (keptC_but hg hw (by decide))⟩
  refine own_at h.own (fun g cur' _ hgc => (hg.block g (lt_of_block hgc) (fun ee => ?_)).trans hgc)
  simp only [Option.some.injEq] at ee
  subst ee
  rw [hw] at hgc
  simp only [Option.some.injEq, Obj.cells.injEq] at hgc
  exact absurd hgc.2.1 (by decide)
theorem PS.setElse (h : PS w W lines rs k e AO cO xs) (k' e' : Int) : PS w ((W.setCell ⟨w.heap.size + 1, 1, none⟩ (.int .i64 k')).setCell ⟨w.heap.size + 1, 2, none⟩ (.int .i64 e')) lines rs k' e' AO cO xs := by
  have hs := h.big
  have e1 : (W.setCell ⟨w.heap.size + 1, 1, none⟩ (.int .i64 k')).heap[w.heap.size + 1]? = some (.cells #[.slice AO rs.length cO, .int .i64 k', .int .i64 e] 27 (0, 0)) := by
    have := heap_setCell_same W (w.heap.size + 1) 1 _ _ (.int .i64 k') h.pol; simpa using this
  have e2 : ((W.setCell ⟨w.heap.size + 1, 1, none⟩ (.int .i64 k')).setCell ⟨w.heap.size + 1, 2, none⟩ (.int .i64 e')).heap[w.heap.size + 1]? = some (.cells #[.slice AO rs.length cO, .int .i64 k', .int .i64 e'] 27 (0, 0)) := by
    have := heap_setCell_same _ (w.heap.size + 1) 2 _ _ (.int .i64 e') e1; simpa using this
  have hother : ∀ g, g ≠ w.heap.size + 1 → ((W.setCell ⟨w.heap.size + 1, 1, none⟩ (.int .i64 k')).setCell ⟨w.heap.size + 1, 2, none⟩ (.int .i64 e')).heap[g]? = W.heap[g]? := fun g hg =>
    (heap_setCell_other _ ⟨w.heap.size + 1, 2, none⟩ g _ hg).trans (heap_setCell_other W ⟨w.heap.size + 1, 1, none⟩ g _ hg)
  refine ⟨(h.bel.setCell (p := ⟨w.heap.size + 1, 1, none⟩) (by show w.heap.size ≤ w.heap.size + 1; omega) _).setCell (p := ⟨w.heap.size + 1, 2, none⟩) (by show w.heap.size ≤ w.heap.size + 1; omega) _, (hother _ (by omega)).trans h.res, e2, (hother _ (by omega)).trans h.lin, ?_, h.rul.kept ((keptC_set h.pol (by decide)).trans (keptC_set e1 (by decide)))⟩
  refine own_at h.own (fun g cur' hbg hgc => (hother g (by omega)).trans hgc)
theorem PS.keptOwn (h : PS w W lines rs k e AO cO xs) {o : Obj} {W1 : World} (hg : (W.alloc o).grownBy W1 (Value.slice AO rs.length cO).ownBlock) : KeptC W W1 ∧ Below w.heap.size W W1 ∧ (∀ (i : Nat) (ob : Obj), W.heap[i]? = some ob → (∀ cur, ob ≠ .cells cur 73 (0, 0)) → W1.heap[i]? = some ob) := by
  have hs := h.big
  have hk : ∀ (i : Nat) (ob : Obj), W.heap[i]? = some ob → (∀ cur, ob ≠ .cells cur 73 (0, 0)) → W1.heap[i]? = some ob := fun i ob hi hne => by
    have hlt := lt_of_block hi
    have h1 : (W.alloc o).heap[i]? = some ob := (((Below.refl W.heap.size W).alloc (Nat.le_refl _) o).block i hlt).trans hi
    refine (hg.block i (by simp; omega) (fun e => ?_)).trans h1
    rcases own_block h.own with h0 | ⟨g, cur, h0, _, h3⟩
    · rw [h0] at e; simp at e
    · rw [h0] at e
      simp only [Option.some.injEq] at e
      subst e
      rw [h3] at hi
      simp only [Option.some.injEq] at hi
      exact hne cur hi.symm
  refine ⟨fun i cs fr hi => hk i _ hi (fun cur e => by simp only [Obj.cells.injEq] at e; exact absurd e.2.1 (by decide)), ⟨hg.os, hg.tape, hg.output, Nat.le_trans (by simp) hg.size, fun i hi => ?_⟩, hk⟩
  have hlt : i < W.heap.size := by omega
  refine (hg.block i (by simp; omega) (fun e => ?_)).trans (((Below.refl W.heap.size W).alloc (Nat.le_refl _) o).block i hlt)
  rcases own_block h.own with h0 | ⟨g, cur, h0, h2, _⟩
  · rw [h0] at e; simp at e
  · rw [h0] at e; simp only [Option.some.injEq] at e; omega
theorem PS.append (h : PS w W lines rs k e AO cO xs) {o : Obj} {W1 : World} {g cap : Nat} {y : RuleD} {A : Option Addr} {c : Nat} (ho : W1.ownsRow (w.heap.size + 3) 73 4 (.slice (some ⟨g, 0, none⟩) (rs.length + 1) cap) (rs.length + 1) (xs ++ ruleV y A c))
    (hg : (W.alloc o).grownBy W1 (Value.slice AO rs.length cO).ownBlock) (hc : CondsOwn W (.slice A y.conds.length c) y.conds) (hf : CondsFrom (w.heap.size + 3) (.slice A y.conds.length c)) :
    PS w (W1.setCell ⟨w.heap.size + 1, 0, none⟩ (.slice (some ⟨g, 0, none⟩) (rs.length + 1) cap)) lines (rs ++ [y]) k e (some ⟨g, 0, none⟩) cap (xs ++ ruleV y A c) := by
  obtain ⟨hkc, hlow, hk⟩ := h.keptOwn hg
  have hs := h.big
  have hp1 := hk _ _ h.pol (fun cur e => by simp only [Obj.cells.injEq] at e; exact absurd e.2.1 (by decide))
  have e1 : (W1.setCell ⟨w.heap.size + 1, 0, none⟩ (.slice (some ⟨g, 0, none⟩) (rs.length + 1) cap)).heap[w.heap.size + 1]? = some (.cells #[.slice (some ⟨g, 0, none⟩) (rs.length + 1) cap, .int .i64 k, .int .i64 e] 27 (0, 0)) := by
    have := heap_setCell_same W1 (w.heap.size + 1) 0 _ _ (.slice (some ⟨g, 0, none⟩) (rs.length + 1) cap) hp1; simpa using this
  have hlen : (rs ++ [y]).length = rs.length + 1 := by simp
  refine ⟨(h.bel.trans hlow).setCell (p := ⟨w.heap.size + 1, 0, none⟩) (by show w.heap.size ≤ w.heap.size + 1; omega) _, ?_, by rw [hlen]; exact e1, ?_, ?_, ?_⟩
  · exact (heap_setCell_other W1 ⟨w.heap.size + 1, 0, none⟩ w.heap.size _ (by simp)).trans (hk _ _ h.res (fun cur e => by simp only [Obj.cells.injEq] at e; exact absurd e.2.1 (by decide)))
  · exact (heap_setCell_other W1 ⟨w.heap.size + 1, 0, none⟩ (w.heap.size + 2) _ (by simp)).trans (hk _ _ h.lin (fun cur e => by simp only [Obj.cells.injEq] at e; exact absurd e.2.1 (by decide)))
  · rw [hlen]
    exact own_at ho (fun g cur' hbg hgc => (heap_setCell_other W1 ⟨w.heap.size + 1, 0, none⟩ g _ (by simp only; omega)).trans hgc)
  · exact ((h.rul.kept hkc).snoc h.own.1 (hc.kept hkc) hf).kept (keptC_set hp1 (by decide))
end
theorem lines_fwd {s : ByteArray} {lines : List ByteArray} (h : lines.map bL = cutW 10 (bL s)) {p0 : PolD} (hok : PolOk p0) (hf : polF p0 = 0) (hs : bL s = polT p0) :
    lines.length = p0.rules.length + 2 ∧ (∀ x, lines[0]? = some x → cutW 32 (bL x) = wElse :: (actW p0.kind p0.errno ++ [])) ∧ (ActRd p0.kind p0.errno ∧ p0.errno ≤ 255) ∧
      ∀ i x, lines[i + 1]? = some x → i < p0.rules.length → ∃ r, p0.rules[i]? = some r ∧ cutW 32 (bL x) = ruleW r ∧ RuleRd r ∧ r.errno ≤ 255 := by
  obtain ⟨h12, ha, hr⟩ := polF_zero hf
  have he : ∀ {k e : Int}, actF k e = 0 → e ≤ 255 := fun {k e} h => by rcases actF_cases h with ⟨_, h⟩ | ⟨_, h⟩ | ⟨_, _, h⟩ <;> omega
  rw [hs, cut_pol hf] at h
  have hlen := congrArg List.length h
  simp only [List.length_map, linesP, List.length_cons, List.length_append, List.length_nil] at hlen
  have hat : ∀ i x, lines[i]? = some x → (linesP p0)[i]? = some (bL x) := fun i x hx => by rw [← h, List.getElem?_map, hx]; rfl
  refine ⟨by omega, fun x hx => ?_, ⟨actRd_of ha, he ha⟩, fun i x hx hi => ?_⟩
  · have := hat 0 x hx
    simp only [linesP, List.getElem?_cons_zero, Option.some.injEq] at this
    rw [← this, cut_else, List.append_nil]
  · have := hat (i + 1) x hx
    simp only [linesP, List.getElem?_cons_succ] at this
    rw [List.getElem?_append_left (by simp; exact hi), List.getElem?_map] at this
    obtain ⟨r, hr1, hr2⟩ := Option.map_eq_some_iff.1 this
    have hm := List.mem_of_getElem? hr1
    have hrf := hr r hm
    exact ⟨r, hr1, by rw [← hr2, cut_line hrf], ruleRd_of (hok r hm) hrf, he (ruleF_zero hrf).2.2.2.2⟩
/-- What Parse answers. -/
def ParseA (s : ByteArray) (w : World) (e : Ending) (w' : World) : Prop :=
  Below w.heap.size w w' ∧ ((8000 < s.size ∧ e = .returned (.tuple #[.agg zero3, .iface 63 (.int .i64 2)])) ∨ (s.size ≤ 8000 ∧ ReadP (bL s) none ∧ e = .returned (.tuple #[.agg zero3, .iface 63 (.int .i64 4)])) ∨
    (s.size ≤ 8000 ∧ ∃ (p : PolD) (A : Option Addr) (c : Nat) (xs : List Value), ReadP (bL s) (some p) ∧ e = .returned (.tuple #[.agg #[.slice A p.rules.length c, .int .i64 p.kind, .int .i64 p.errno], .nilIface]) ∧ w'.ownsRow w.heap.size 73 4 (.slice A p.rules.length c) p.rules.length xs ∧ RulesOwnB w' w.heap.size p.rules xs))
end Go.Proofs.YtmgngapkgcofnaaGreatDoor
