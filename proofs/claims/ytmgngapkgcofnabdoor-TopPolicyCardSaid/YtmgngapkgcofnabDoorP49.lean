/- A policy's text read: what stands in memory meanwhile. -/
import Derived.Test.YtmgngapkgcofnabDoorP46
import Derived.Test.YtmgngapkgcofnabDoorP47
import Derived.Test.YtmgngapkgcofnabDoorP40
import Derived.Test.YtmgngapkgcofnabDoorP48
namespace Go.Proofs.YtmgngapkgcofnabDoor
open Go.RowKit

theorem step_append_rule {w : World} {ops : Array Oper} {o : Oper} {a : Act} {K : Act → World → Prop} {Q : Exit → Act → World → Prop} {E : Prop} (hgd : o.guard = none) (s x : Operand)
    (ho : o.op = .call { callee := .builtin .append, args := #[s, x], argTypes := #[36, 36] })
    (base bs n : Nat) (v1 : Value) (xs : List Value) (y : RuleD) (A : Option Addr) (c : Nat) (hs : a.eval s = v1) (hx : a.eval x = .slice (some ⟨bs, 0, none⟩) 1 1)
    (hown : w.ownsRow base 84 4 v1 n xs)
    (hb : w.heap[bs]? = some (.cells #[.int .i64 y.nr, .slice A y.conds.length c, .int .i64 y.kind, .int .i64 y.errno] 84 (0, 0))) (hl : n ≤ 1000000) (hbase : base ≤ w.heap.size)
    (h : ∀ g cap w', w'.ownsRow base 84 4 (.slice (some ⟨g, 0, none⟩) (n + 1) cap) (n + 1) (xs ++ ruleV y A c) → w.grownBy w' v1.ownBlock → K (a.put o.dst (.slice (some ⟨g, 0, none⟩) (n + 1) cap)) w') :
    if Region.wanted o (yielded ops a.tmps) = true then Oper.wp Tryd.prog o a w K Q else E := by
  obtain ⟨z, hinf, hz2⟩ := ruleInfo
  obtain ⟨i0, hi, hz0, hz1, hz3⟩ := info_parts hinf
  refine step_append_lies w hgd s x _ ho base 84 i0 z 4 48 Tryd.underlying36 hi hz0 hz1 hz3 hz2 (by omega) v1 n xs hs hown ⟨bs, 0, none⟩ 1 1 (ruleV y A c) hx rfl (World.news_of_block hb) (by simp [ruleV, Value.oneCell']) (by omega) (by unfold maxLen; omega) (by omega) hbase _ rfl ?_
  intro g cap w' h2 h3 _ _
  exact h g cap w' h2 h3

/-- Rules in a row, whose conditions lie behind B. -/
def RulesOwnB (w : World) (B : Nat) (rs : List RuleD) (xs : List Value) : Prop := ∀ k r, rs[k]? = some r → ∃ A c, CondsOwn w (.slice A r.conds.length c) r.conds ∧ CondsFrom B (.slice A r.conds.length c) ∧ ∀ j u, (ruleV r A c)[j]? = some u → xs[k * 4 + j]? = some u
theorem RulesOwnB.own {w : World} {B : Nat} {rs : List RuleD} {xs : List Value} (h : RulesOwnB w B rs xs) : RulesOwn w rs xs := fun k r hr => by
  obtain ⟨A, c, h1, _, h3⟩ := h k r hr
  exact ⟨A, c, h1, h3⟩
theorem RulesOwnB.kept {w w' : World} {B : Nat} {rs : List RuleD} {xs : List Value} (h : RulesOwnB w B rs xs) (hk : KeptC w w') : RulesOwnB w' B rs xs := fun k r hr => by
  obtain ⟨A, c, h1, h2, h3⟩ := h k r hr
  exact ⟨A, c, h1.kept hk, h2, h3⟩
theorem RulesOwnB.snoc {w : World} {B : Nat} {rs : List RuleD} {xs : List Value} {r : RuleD} {A : Option Addr} {c : Nat} (h : RulesOwnB w B rs xs) (hl : xs.length = rs.length * 4) (hc : CondsOwn w (.slice A r.conds.length c) r.conds) (hf : CondsFrom B (.slice A r.conds.length c)) : RulesOwnB w B (rs ++ [r]) (xs ++ ruleV r A c) := by
  intro k q hq
  rcases Nat.lt_or_ge k rs.length with hk | hk
  · rw [List.getElem?_append_left hk] at hq
    obtain ⟨A', c', h1, h2, h3⟩ := h k q hq
    refine ⟨A', c', h1, h2, fun j u hu => ?_⟩
    have hj := h3 j u hu
    have hlt : k * 4 + j < xs.length := by
      rcases Nat.lt_or_ge (k * 4 + j) xs.length with h' | h'
      · exact h'
      · rw [List.getElem?_eq_none h'] at hj; cases hj
    rw [List.getElem?_append_left hlt]
    exact hj
  · rw [List.getElem?_append_right hk] at hq
    have hk0 : k - rs.length = 0 := by
      rcases Nat.eq_zero_or_pos (k - rs.length) with h0 | h0
      · exact h0
      · rw [List.getElem?_eq_none (by simp; omega)] at hq; cases hq
    rw [hk0] at hq
    obtain rfl : r = q := by simpa using hq
    refine ⟨A, c, hc, hf, fun j u hu => ?_⟩
    rw [List.getElem?_append_right (by omega), show k * 4 + j - xs.length = j from by omega]
    exact hu
theorem CondsFrom.mono {B B' : Nat} {v : Value} (h : CondsFrom B v) (hb : B' ≤ B) : CondsFrom B' v := by
  rcases h with h | ⟨g, n, c, h1, h2⟩
  · exact .inl h
  · exact .inr ⟨g, n, c, h1, Nat.le_trans hb h2⟩
theorem keptC_but {w w' : World} {b : Nat} {cur : Array Value} {t : TypeId} {fr : Nat × Nat} (hg : w.grownBy w' (some b)) (hb : w.heap[b]? = some (.cells cur t fr)) (ht : t ≠ 86) : KeptC w w' := fun k cs f hk => by
  refine (hg.block k (lt_of_block hk) (fun e => ?_)).trans hk
  simp only [Option.some.injEq] at e
  subst e
  rw [hb] at hk
  simp only [Option.some.injEq, Obj.cells.injEq] at hk
  exact ht hk.2.1
theorem keptC_below {w w' : World} (h : Below w.heap.size w w') : KeptC w w' := keptC_of_lt h.block

def zero3 : Array Value := #[.slice none 0 0, .int .i64 0, .int .i64 0]
/-- What stands in the walk of Parse: the result's block (the first behind w), the policy's, the lines' row. -/
structure PS (w W : World) (lines : List ByteArray) (rs : List RuleD) (k e : Int) (AO : Option Addr) (cO : Nat) (xs : List Value) : Prop where
  bel : Below w.heap.size w W
  res : W.heap[w.heap.size]? = some (.cells zero3 40 (0, 0))
  pol : W.heap[w.heap.size + 1]? = some (.cells #[.slice AO rs.length cO, .int .i64 k, .int .i64 e] 40 (0, 0))
  lin : W.heap[w.heap.size + 2]? = some (.cells (lines.map Value.string).toArray 9 (0, 0))
  own : W.ownsRow (w.heap.size + 3) 84 4 (.slice AO rs.length cO) rs.length xs
  rul : RulesOwnB W (w.heap.size + 3) rs xs
section
variable {w W W' : World} {lines : List ByteArray} {rs : List RuleD} {k e : Int} {AO : Option Addr} {cO : Nat} {xs : List Value}
theorem PS.big (h : PS w W lines rs k e AO cO xs) : w.heap.size + 3 ≤ W.heap.size := lt_of_block h.lin
theorem PS.below (h : PS w W lines rs k e AO cO xs) (hb : Below W.heap.size W W') : PS w W' lines rs k e AO cO xs := by
  have hs := h.big
  refine ⟨h.bel.trans (hb.mono (by omega)), (hb.block _ (by omega)).trans h.res, (hb.block _ (by omega)).trans h.pol, (hb.block _ (by omega)).trans h.lin, ?_, h.rul.kept (keptC_below hb)⟩
  exact own_at h.own (fun g cur _ hg => (hb.block g (lt_of_block hg)).trans hg)
theorem PS.words (h : PS w W lines rs k e AO cO xs) {b : Nat} {cur : Array Value} (hb : w.heap.size + 3 ≤ b) (hg : W.grownBy W' (some b)) (hw : W.heap[b]? = some (.cells cur 100 (0, 0))) : PS w W' lines rs k e AO cO xs := by
  have hs := h.big
  refine ⟨below_of_grown h.bel hg (by omega) (by omega), (hg.block _ (by omega) (by simp; omega)).trans h.res, (hg.block _ (by omega) (by simp; omega)).trans h.pol, (hg.block _ (by omega) (by simp; omega)).trans h.lin, ?_, h.rul.kept (keptC_but hg hw (by decide))⟩
  refine own_at h.own (fun g cur' _ hgc => (hg.block g (lt_of_block hgc) (fun ee => ?_)).trans hgc)
  simp only [Option.some.injEq] at ee
  subst ee
  rw [hw] at hgc
  simp only [Option.some.injEq, Obj.cells.injEq] at hgc
  exact absurd hgc.2.1 (by decide)
theorem PS.setElse (h : PS w W lines rs k e AO cO xs) (k' e' : Int) : PS w ((W.setCell ⟨w.heap.size + 1, 1, none⟩ (.int .i64 k')).setCell ⟨w.heap.size + 1, 2, none⟩ (.int .i64 e')) lines rs k' e' AO cO xs := by
  have hs := h.big
  have e1 : (W.setCell ⟨w.heap.size + 1, 1, none⟩ (.int .i64 k')).heap[w.heap.size + 1]? = some (.cells #[.slice AO rs.length cO, .int .i64 k', .int .i64 e] 40 (0, 0)) := by
    have := heap_setCell_same W (w.heap.size + 1) 1 _ _ (.int .i64 k') h.pol; simpa using this
  have e2 : ((W.setCell ⟨w.heap.size + 1, 1, none⟩ (.int .i64 k')).setCell ⟨w.heap.size + 1, 2, none⟩ (.int .i64 e')).heap[w.heap.size + 1]? = some (.cells #[.slice AO rs.length cO, .int .i64 k', .int .i64 e'] 40 (0, 0)) := by
    have := heap_setCell_same _ (w.heap.size + 1) 2 _ _ (.int .i64 e') e1; simpa using this
  have hother : ∀ g, g ≠ w.heap.size + 1 → ((W.setCell ⟨w.heap.size + 1, 1, none⟩ (.int .i64 k')).setCell ⟨w.heap.size + 1, 2, none⟩ (.int .i64 e')).heap[g]? = W.heap[g]? := fun g hg =>
    (heap_setCell_other _ ⟨w.heap.size + 1, 2, none⟩ g _ hg).trans (heap_setCell_other W ⟨w.heap.size + 1, 1, none⟩ g _ hg)
  refine ⟨(h.bel.setCell (p := ⟨w.heap.size + 1, 1, none⟩) (by show w.heap.size ≤ w.heap.size + 1; omega) _).setCell (p := ⟨w.heap.size + 1, 2, none⟩) (by show w.heap.size ≤ w.heap.size + 1; omega) _, (hother _ (by omega)).trans h.res, e2, (hother _ (by omega)).trans h.lin, ?_, h.rul.kept ((keptC_set h.pol (by decide)).trans (keptC_set e1 (by decide)))⟩
  refine own_at h.own (fun g cur' hbg hgc => (hother g (by omega)).trans hgc)
theorem PS.keptOwn (h : PS w W lines rs k e AO cO xs) {o : Obj} {W1 : World} (hg : (W.alloc o).grownBy W1 (Value.slice AO rs.length cO).ownBlock) : KeptC W W1 ∧ Below w.heap.size W W1 ∧ (∀ (i : Nat) (ob : Obj), W.heap[i]? = some ob → (∀ cur, ob ≠ .cells cur 84 (0, 0)) → W1.heap[i]? = some ob) := by
  have hs := h.big
  have hk : ∀ (i : Nat) (ob : Obj), W.heap[i]? = some ob → (∀ cur, ob ≠ .cells cur 84 (0, 0)) → W1.heap[i]? = some ob := fun i ob hi hne => by
    have hlt := lt_of_block hi
    have h1 : (W.alloc o).heap[i]? = some ob := (((Below.refl W.heap.size W).alloc (Nat.le_refl _) o).block i hlt).trans hi
    refine (hg.block i (by simp; omega) (fun e => ?_)).trans h1
    rcases own_block h.own with h0 | ⟨g, cur, h0, _, h3⟩
    · rw [h0] at e; simp at e
    · rw [h0] at e
      simp only [Option.some.injEq] at e
      subst e
      rw [h3] at hi
      simp only [Option.some.injEq] at hi
      exact hne cur hi.symm
  refine ⟨fun i cs fr hi => hk i _ hi (fun cur e => by simp only [Obj.cells.injEq] at e; exact absurd e.2.1 (by decide)), ⟨hg.os, hg.tape, hg.output, Nat.le_trans (by simp) hg.size, fun i hi => ?_⟩, hk⟩
  have hlt : i < W.heap.size := by omega
  refine (hg.block i (by simp; omega) (fun e => ?_)).trans (((Below.refl W.heap.size W).alloc (Nat.le_refl _) o).block i hlt)
  rcases own_block h.own with h0 | ⟨g, cur, h0, h2, _⟩
  · rw [h0] at e; simp at e
  · rw [h0] at e; simp only [Option.some.injEq] at e; omega
theorem PS.append (h : PS w W lines rs k e AO cO xs) {o : Obj} {W1 : World} {g cap : Nat} {y : RuleD} {A : Option Addr} {c : Nat} (ho : W1.ownsRow (w.heap.size + 3) 84 4 (.slice (some ⟨g, 0, none⟩) (rs.length + 1) cap) (rs.length + 1) (xs ++ ruleV y A c))
    (hg : (W.alloc o).grownBy W1 (Value.slice AO rs.length cO).ownBlock) (hc : CondsOwn W (.slice A y.conds.length c) y.conds) (hf : CondsFrom (w.heap.size + 3) (.slice A y.conds.length c)) :
    PS w (W1.setCell ⟨w.heap.size + 1, 0, none⟩ (.slice (some ⟨g, 0, none⟩) (rs.length + 1) cap)) lines (rs ++ [y]) k e (some ⟨g, 0, none⟩) cap (xs ++ ruleV y A c) := by
  obtain ⟨hkc, hlow, hk⟩ := h.keptOwn hg
  have hs := h.big
  have hp1 := hk _ _ h.pol (fun cur e => by simp only [Obj.cells.injEq] at e; exact absurd e.2.1 (by decide))
  have e1 : (W1.setCell ⟨w.heap.size + 1, 0, none⟩ (.slice (some ⟨g, 0, none⟩) (rs.length + 1) cap)).heap[w.heap.size + 1]? = some (.cells #[.slice (some ⟨g, 0, none⟩) (rs.length + 1) cap, .int .i64 k, .int .i64 e] 40 (0, 0)) := by
    have := heap_setCell_same W1 (w.heap.size + 1) 0 _ _ (.slice (some ⟨g, 0, none⟩) (rs.length + 1) cap) hp1; simpa using this
  have hlen : (rs ++ [y]).length = rs.length + 1 := by simp
  refine ⟨(h.bel.trans hlow).setCell (p := ⟨w.heap.size + 1, 0, none⟩) (by show w.heap.size ≤ w.heap.size + 1; omega) _, ?_, by rw [hlen]; exact e1, ?_, ?_, ?_⟩
  · exact (heap_setCell_other W1 ⟨w.heap.size + 1, 0, none⟩ w.heap.size _ (by simp)).trans (hk _ _ h.res (fun cur e => by simp only [Obj.cells.injEq] at e; exact absurd e.2.1 (by decide)))
  · exact (heap_setCell_other W1 ⟨w.heap.size + 1, 0, none⟩ (w.heap.size + 2) _ (by simp)).trans (hk _ _ h.lin (fun cur e => by simp only [Obj.cells.injEq] at e; exact absurd e.2.1 (by decide)))
  · rw [hlen]
    exact own_at ho (fun g cur' hbg hgc => (heap_setCell_other W1 ⟨w.heap.size + 1, 0, none⟩ g _ (by simp only; omega)).trans hgc)
  · exact ((h.rul.kept hkc).snoc h.own.1 (hc.kept hkc) hf).kept (keptC_set hp1 (by decide))
end
theorem lines_fwd {s : ByteArray} {lines : List ByteArray} (h : lines.map bL = cutW 10 (bL s)) {p0 : PolD} (hok : PolOk p0) (hf : polF p0 = 0) (hs : bL s = polT p0) :
    lines.length = p0.rules.length + 2 ∧ (∀ x, lines[0]? = some x → cutW 32 (bL x) = wElse :: (actW p0.kind p0.errno ++ [])) ∧ (ActRd p0.kind p0.errno ∧ p0.errno ≤ 255) ∧
      ∀ i x, lines[i + 1]? = some x → i < p0.rules.length → ∃ r, p0.rules[i]? = some r ∧ cutW 32 (bL x) = ruleW r ∧ RuleRd r ∧ r.errno ≤ 255 := by
  obtain ⟨h12, ha, hr⟩ := polF_zero hf
  have he : ∀ {k e : Int}, actF k e = 0 → e ≤ 255 := fun {k e} h => by rcases actF_cases h with ⟨_, h⟩ | ⟨_, h⟩ | ⟨_, _, h⟩ <;> omega
  rw [hs, cut_pol hf] at h
  have hlen := congrArg List.length h
  simp only [List.length_map, linesP, List.length_cons, List.length_append, List.length_nil] at hlen
  have hat : ∀ i x, lines[i]? = some x → (linesP p0)[i]? = some (bL x) := fun i x hx => by rw [← h, List.getElem?_map, hx]; rfl
  refine ⟨by omega, fun x hx => ?_, ⟨actRd_of ha, he ha⟩, fun i x hx hi => ?_⟩
  · have := hat 0 x hx
    simp only [linesP, List.getElem?_cons_zero, Option.some.injEq] at this
    rw [← this, cut_else, List.append_nil]
  · have := hat (i + 1) x hx
    simp only [linesP, List.getElem?_cons_succ] at this
    rw [List.getElem?_append_left (by simp; exact hi), List.getElem?_map] at this
    obtain ⟨r, hr1, hr2⟩ := Option.map_eq_some_iff.1 this
    have hm := List.mem_of_getElem? hr1
    have hrf := hr r hm
    exact ⟨r, hr1, by rw [← hr2, cut_line hrf], ruleRd_of (hok r hm) hrf, he (ruleF_zero hrf).2.2.2.2⟩
/-- What Parse answers. -/
def ParseA (s : ByteArray) (w : World) (e : Ending) (w' : World) : Prop :=
  Below w.heap.size w w' ∧ ((8000 < s.size ∧ e = .returned (.tuple #[.agg zero3, .iface 64 (.int .i64 2)])) ∨ (s.size ≤ 8000 ∧ ReadP (bL s) none ∧ e = .returned (.tuple #[.agg zero3, .iface 64 (.int .i64 4)])) ∨
    (s.size ≤ 8000 ∧ ∃ (p : PolD) (A : Option Addr) (c : Nat) (xs : List Value), ReadP (bL s) (some p) ∧ e = .returned (.tuple #[.agg #[.slice A p.rules.length c, .int .i64 p.kind, .int .i64 p.errno], .nilIface]) ∧ w'.ownsRow w.heap.size 84 4 (.slice A p.rules.length c) p.rules.length xs ∧ RulesOwnB w' w.heap.size p.rules xs))
end Go.Proofs.YtmgngapkgcofnabDoor
/- policy.Parse: the walk. Printed by genparsep.py. -/
namespace Go.Proofs.YtmgngapkgcofnabDoor
open Go.RowKit

theorem prow3 {w : World} {b : Nat} {t : TypeId} {a0 a1 a2 : Value} (h : w.heap[b]? = some (.cells #[a0, a1, a2] t (0, 0))) :
    w.cell? ⟨b, 0, none⟩ = some a0 ∧ w.cell? ⟨b, 1, none⟩ = some a1 ∧ w.cell? ⟨b, 2, none⟩ = some a2 ∧ w.frozen? ⟨b, 0, none⟩ = false ∧ w.frozen? ⟨b, 1, none⟩ = false ∧ w.frozen? ⟨b, 2, none⟩ = false :=
  ⟨(cell_of_row _ _ _ _ _ _ h).trans rfl, (cell_of_row _ _ _ _ _ _ h).trans rfl, (cell_of_row _ _ _ _ _ _ h).trans rfl, frozen_of_row _ _ _ _ _ h, frozen_of_row _ _ _ _ _ h, frozen_of_row _ _ _ _ _ h⟩
theorem words_new (w : World) (ws : List ByteArray) : WordsAt ((w.alloc (.cells (ws.map Value.string).toArray 9)).alloc (.cells #[.slice (some ⟨w.heap.size, 0, none⟩) ws.length ws.length, .bool false] 100)) (w.heap.size + 1 + 1) (w.heap.size + 1) ws false := by
  have e1 : (w.alloc (.cells (ws.map Value.string).toArray 9)).heap.size = w.heap.size + 1 := by simp
  have h1 := heap_alloc_new (w.alloc (.cells (ws.map Value.string).toArray 9)) (.cells #[.slice (some ⟨w.heap.size, 0, none⟩) ws.length ws.length, .bool false] 100)
  rw [e1] at h1
  refine ⟨by omega, _, _, h1, .inr ⟨w.heap.size, 0, rfl, by omega, by omega, fun i x hx => ?_⟩, Nat.le_refl _⟩
  have hb : Below (w.alloc (.cells (ws.map Value.string).toArray 9)).heap.size (w.alloc (.cells (ws.map Value.string).toArray 9)) ((w.alloc (.cells (ws.map Value.string).toArray 9)).alloc (.cells #[.slice (some ⟨w.heap.size, 0, none⟩) ws.length ws.length, .bool false] 100)) := (Below.refl _ _).alloc (Nat.le_refl _) _
  rw [hb.cell (p := ⟨w.heap.size, _, none⟩) (by simp), cell_of_row _ _ _ _ _ _ (heap_alloc_new _ _), Nat.zero_add]
  simp [hx]
theorem own_mono {w : World} {base base' n s : Nat} {e : TypeId} {v : Value} {xs : List Value} (h : w.ownsRow base e s v n xs) (hb : base' ≤ base) : w.ownsRow base' e s v n xs := by
  refine ⟨h.1, ?_⟩
  rcases h.2 with hn | ⟨g, cap, cur, h1, h2, h3⟩
  · exact .inl hn
  · exact .inr ⟨g, cap, cur, h1, Nat.le_trans hb h2, h3⟩
theorem PS.fin {w W : World} {lines : List ByteArray} {rs : List RuleD} {k e : Int} {AO : Option Addr} {cO : Nat} {xs : List Value} (h : PS w W lines rs k e AO cO xs) (c0 c1 c2 : Value) :
    (((W.setCell ⟨w.heap.size, 0, none⟩ c0).setCell ⟨w.heap.size, 1, none⟩ c1).setCell ⟨w.heap.size, 2, none⟩ c2).ownsRow w.heap.size 84 4 (.slice AO rs.length cO) rs.length xs ∧ RulesOwnB (((W.setCell ⟨w.heap.size, 0, none⟩ c0).setCell ⟨w.heap.size, 1, none⟩ c1).setCell ⟨w.heap.size, 2, none⟩ c2) w.heap.size rs xs := by
  have hother : ∀ g, g ≠ w.heap.size → (((W.setCell ⟨w.heap.size, 0, none⟩ c0).setCell ⟨w.heap.size, 1, none⟩ c1).setCell ⟨w.heap.size, 2, none⟩ c2).heap[g]? = W.heap[g]? := fun g hg =>
    (heap_setCell_other _ ⟨w.heap.size, 2, none⟩ g _ hg).trans ((heap_setCell_other _ ⟨w.heap.size, 1, none⟩ g _ hg).trans (heap_setCell_other W ⟨w.heap.size, 0, none⟩ g _ hg))
  refine ⟨own_mono (own_at h.own (fun g cur hbg hgc => (hother g (by omega)).trans hgc)) (by omega), fun k r hr => ?_⟩
  obtain ⟨A, c, h1, h2, h3⟩ := h.rul k r hr
  refine ⟨A, c, h1.kept (fun i cs fr hi => (hother i (fun e => ?_)).trans hi), h2.mono (by omega), h3⟩
  subst e
  rw [h.res] at hi
  simp only [Option.some.injEq, Obj.cells.injEq] at hi
  exact absurd hi.2.1 (by decide)
/-- What a rule's call leaves. -/
def RuleV (w : World) (H b : Nat) (ws : List ByteArray) (v : Value) (w' : World) : Prop :=
  ∃ (r : RuleD) (A : Option Addr) (c j : Nat) (bad' : Bool), v = .agg #[.int .i64 r.nr, .slice A r.conds.length c, .int .i64 r.kind, .int .i64 r.errno] ∧ CondsOwn w' (.slice A r.conds.length c) r.conds ∧ WordsAt w' H b (ws.drop j) bad' ∧ w.grownBy w' (some b) ∧ r.conds.length ≤ ws.length ∧ (∀ B : Nat, (∀ x ∈ ws, x.size ≤ B) → ∀ c ∈ r.conds, c.glob.size ≤ B) ∧ CondsFrom w.heap.size (.slice A r.conds.length c) ∧
    (∀ r0 : RuleD, RuleRd r0 → r0.errno ≤ 255 → ws.map bL = ruleW r0 → r = r0 ∧ bad' = false ∧ ws.drop j = [])
theorem ruleV_of {w w0 : World} {f : FuncId} {args : Array Value} {H b : Nat} {ws : List ByteArray} (h : Calls Tryd.prog f args w0 (RuleA w H b ws false)) : Calls Tryd.prog f args w0 fun e w' => ∃ v, e = .returned v ∧ RuleV w H b ws v w' :=
  h.mono fun _ _ ⟨r, A, c, j, bad', h1, h2, h3, h4, h5, h6, h7, h8⟩ => ⟨_, h1, r, A, c, j, bad', rfl, h2, h3, h4, h5, h6, h7, fun r0 => h8 r0 rfl⟩
theorem words_kept {w w' : World} {H b : Nat} {ws : List ByteArray} {bad : Bool} (h : WordsAt w H b ws bad) (hk : ∀ (i : Nat) (ob : Obj), w.heap[i]? = some ob → (∀ cur, ob ≠ .cells cur 84 (0, 0)) → w'.heap[i]? = some ob) :
    ∃ A c, w'.heap[b]? = some (.cells #[.slice A ws.length c, .bool bad] 100 (0, 0)) := by
  obtain ⟨_, A, c, h1, _⟩ := h
  exact ⟨A, c, hk _ _ h1 (fun cur e => by simp only [Obj.cells.injEq] at e; exact absurd e.2.1 (by decide))⟩
/-- What holds at the head of the loop over the lines. -/
def PLoop (s : ByteArray) (w : World) (lines : List ByteArray) (i : Nat) (wr : World) : Prop :=
  ∃ (rs : List RuleD) (k e : Int) (AO : Option Addr) (cO : Nat) (xs : List Value), Hid (PS w wr lines rs k e AO cO xs) ∧ Hid (rs.length = i - 1 ∧ rs.length ≤ 12 ∧ (∀ r ∈ rs, r.conds.length ≤ 100000 ∧ ∀ c ∈ r.conds, c.glob.size ≤ 100000)) ∧
    Hid (∀ p0 : PolD, PolOk p0 → polF p0 = 0 → bL s = polT p0 → (1 ≤ i → k = p0.kind ∧ e = p0.errno) ∧ rs = p0.rules.take (i - 1))
/-- What holds behind a line: the words' rest, and what was read. -/
def PMid (s : ByteArray) (w : World) (lines : List ByteArray) (i b : Nat) (W : World) (T : List ByteArray) (bad : Bool) (rs : List RuleD) (k e : Int) (AO : Option Addr) (cO : Nat) (xs : List Value) : Prop :=
  PS w W lines rs k e AO cO xs ∧ (∃ A c, W.heap[b]? = some (.cells #[.slice A T.length c, .bool bad] 100 (0, 0))) ∧ (rs.length = i ∧ (∀ r ∈ rs, r.conds.length ≤ 100000 ∧ ∀ c ∈ r.conds, c.glob.size ≤ 100000)) ∧
    (∀ p0 : PolD, PolOk p0 → polF p0 = 0 → bL s = polT p0 → bad = false ∧ T = [] ∧ (k = p0.kind ∧ e = p0.errno) ∧ rs = p0.rules.take i)

set_option linter.unusedSimpArgs false in
set_option maxRecDepth 100000 in
set_option maxHeartbeats 4000000 in
theorem parse_any_pol (HN : NumSaid) (s : ByteArray) (w : World) (hs : s.size ≤ 1000000) (hG : Grd w) (htab : Lib.TabIs Tryd.prog w "internal/strconv.uint64pow10" .u64 Lib.pow10Tab) :
    Calls Tryd.prog 15 #[.string s] w (ParseA s w) := by
  have HTB := Lib.hid (tab_below htab)
  have hb0 : ∀ o, Below w.heap.size w (w.alloc o) := fun o => (Below.refl _ _).alloc (Nat.le_refl _) o
  by_cases h8 : 8000 < s.size
  · have t1 : (8000 : Int) < (s.size : Int) := by omega
    have HB0 := Lib.hid hb0
    have HZ : Hid (∀ W, W = w.alloc (.cells #[.slice none 0 0, .int .i64 0, .int .i64 0] 40) → W.heap[w.heap.size]? = some (.cells #[.slice none 0 0, .int .i64 0, .int .i64 0] 40 (0, 0)) ∧ Below w.heap.size w W) := fun W h => by subst h; exact ⟨heap_alloc_new _ _, hb0 _⟩
    clear hb0
    go_enter Tryd.func15, Tryd.ntmps15
    go_upto_region 2 with fail
    obtain ⟨hz, hbw⟩ := HZ.out _ rfl
    have HBW := Lib.hid hbw
    obtain ⟨y0, y1, y2⟩ := store3 hz (.slice none 0 0) (.int .i64 0) (.int .i64 0)
    obtain ⟨c0, c1, c2, d0, d1, d2⟩ := prow3 hz
    clear hbw hz
    generalize w.alloc (.cells #[.slice none 0 0, .int .i64 0, .int .i64 0] 40) = W0 at *
    have HBS := Lib.hid (below_store3 HBW.out (Nat.le_refl w.heap.size) (.slice none 0 0) (.int .i64 0) (.int .i64 0))
    go_wp2_with fail
    try simp only [Exit.inBlock, Exit.then]
    refine bodyPost_ret (by simp [results, Tryd.results15, go_sem, y0, y1, y2]; try rfl) rfl ?_
    exact ⟨HBS.out, .inl ⟨h8, rfl⟩⟩
  · have t1 : ¬ (8000 : Int) < (s.size : Int) := by omega
    have h80 : s.size ≤ 8000 := by omega
    have hG1 : Grd ((w.alloc (.cells #[.slice none 0 0, .int .i64 0, .int .i64 0] 40)).alloc (.cells #[.slice none 0 0, .int .i64 0, .int .i64 0] 40)) := hG.below ((hb0 _).alloc (by simp) _) (Nat.le_refl _)
    have HSP := Lib.hid (split_any s 10 _ (by omega) hG1)
    have HPS : Hid (∀ lines : List ByteArray, PS w (((w.alloc (.cells #[.slice none 0 0, .int .i64 0, .int .i64 0] 40)).alloc (.cells #[.slice none 0 0, .int .i64 0, .int .i64 0] 40)).alloc (.cells (lines.map Value.string).toArray 9)) lines [] 0 0 none 0 []) := fun lines => by
      have e1 : (w.alloc (.cells #[.slice none 0 0, .int .i64 0, .int .i64 0] 40)).heap.size = w.heap.size + 1 := by simp
      have e2 : ((w.alloc (.cells #[.slice none 0 0, .int .i64 0, .int .i64 0] 40)).alloc (.cells #[.slice none 0 0, .int .i64 0, .int .i64 0] 40)).heap.size = w.heap.size + 2 := by simp
      have b1 : ∀ (W : World) (o : Obj), Below W.heap.size W (W.alloc o) := fun W o => (Below.refl _ _).alloc (Nat.le_refl _) o
      refine ⟨((hb0 _).alloc (by simp) _).alloc (by simp; omega) _, ?_, ?_, ?_, World.ownsRow_nil _ _ _ _, fun k r h => by simp at h⟩
      · exact ((b1 _ _).block _ (by omega)).trans (((b1 _ _).block _ (by omega)).trans (heap_alloc_new _ _))
      · have := heap_alloc_new (w.alloc (.cells #[.slice none 0 0, .int .i64 0, .int .i64 0] 40)) (.cells #[.slice none 0 0, .int .i64 0, .int .i64 0] 40)
        rw [e1] at this
        exact ((b1 _ _).block _ (by omega)).trans this
      · have := heap_alloc_new ((w.alloc (.cells #[.slice none 0 0, .int .i64 0, .int .i64 0] 40)).alloc (.cells #[.slice none 0 0, .int .i64 0, .int .i64 0] 40)) (.cells (lines.map Value.string).toArray 9)
        rw [e2] at this
        exact this
    have hw2 : ((w.alloc (.cells #[.slice none 0 0, .int .i64 0, .int .i64 0] 40)).alloc (.cells #[.slice none 0 0, .int .i64 0, .int .i64 0] 40)).heap.size = w.heap.size + 2 := by simp
    have HGR := Lib.hid hG
    clear hG1 hb0 hG htab h8
    go_enter Tryd.func15, Tryd.ntmps15
    go_upto_region 5 with (go_at_call 33; refine cargs (by simp [Act.eval]) (HSP.out.mono ?_); rintro e w1 ⟨lines, hcut, rfl, rfl, hsz, hll, hne⟩; have HCUT := Lib.hid hcut; have HLS := Lib.hid hsz; have HLN := Lib.hid hne; clear hcut hsz hne)
    have HP0 := Lib.hid (HPS.out lines)
    clear HSP HPS hw2
    generalize ((w.alloc (.cells #[.slice none 0 0, .int .i64 0, .int .i64 0] 40)).alloc (.cells #[.slice none 0 0, .int .i64 0, .int .i64 0] 40)).alloc (.cells (lines.map Value.string).toArray 9) = W0 at *
    have hl0 : 0 < lines.length := by
      cases lines with
      | nil => exact absurd rfl HLN.out
      | cons _ _ => simp
    have z1 : (0 : Int) ≤ (lines.length : Int) - 1 := by omega
    have z2 : ((lines.length : Int) - 1).toNat = lines.length - 1 := by omega
    have z3 : wrap64 ((lines.length : Int) - 1) = (lines.length : Int) - 1 := IntWalk.wrap64_in _ (by omega)
    go_upto_region 6 with fail
    have HPL0 : Hid (PLoop s w lines 0 W0) := ⟨[], 0, 0, none, 0, [], HP0.out, ⟨rfl, by simp, by simp⟩, fun p0 _ _ _ => ⟨fun h => absurd h (by omega), rfl⟩⟩
    have HLEN : Hid (lines.length = (lines.length - 1) + 1) := by show _ = _; omega
    have hln : lines.length - 1 ≤ 8001 := by omega
    clear z1 z2 z3 HP0 HLN hl0
    generalize lines.length - 1 = n at *
    go_wp2_with fail
    go_loopw [24] (fun iv wr => ∃ i : Nat, i ≤ n ∧ iv = .int .i64 i ∧ PLoop s w lines i wr) (fun iv _ => n - (intOf iv).toNat)
    case atStart => exact ⟨0, by omega, rfl, HPL0.out⟩
    case round =>
      clear HPL0
      obtain ⟨i, hi, rfl, rs, k, e, AO, cO, xs, HP, HR, HF⟩ := hrel
      obtain ⟨wo, rfl⟩ : ∃ wo : World, wo = wr := ⟨_, rfl⟩
      by_cases hin : i < n
      · have x1 : (i : Int) < (n : Int) := by omega
        have x2 : (0 : Int) ≤ (i : Int) := by omega
        have hil : i < lines.length := by have := HLEN.out; omega
        have hli : lines[i]? = some lines[i] := by simp
        have l0 : wo.cell? ⟨w.heap.size + 2, i, none⟩ = some (.string lines[i]) := by
          rw [cell_of_row _ _ _ _ _ _ HP.out.lin]
          simp [hil]
        have hxs := HLS.out lines[i] (by simp)
        have hbig := HP.out.big
        have hbel := HP.out.bel
        have HSP := Lib.hid (split_any lines[i] 32 wo (by omega) (HGR.out.below hbel (Nat.le_refl _)))
        have HLF : Hid (∀ p0 : PolD, PolOk p0 → polF p0 = 0 → bL s = polT p0 → (i = 0 → cutW 32 (bL lines[i]) = wElse :: (actW p0.kind p0.errno ++ []) ∧ ActRd p0.kind p0.errno ∧ p0.errno ≤ 255) ∧ (∀ j, i = j + 1 → ∃ r, p0.rules[j]? = some r ∧ cutW 32 (bL lines[i]) = ruleW r ∧ RuleRd r ∧ r.errno ≤ 255)) := fun p0 h1 h2 h3 => by
          obtain ⟨q1, q2, q3, q4⟩ := lines_fwd HCUT.out h1 h2 h3
          have q0 := HLEN.out
          refine ⟨fun h => ?_, fun j h => ?_⟩
          · subst h; exact ⟨q2 _ hli, q3⟩
          · subst h; exact q4 j _ hli (by omega)
        clear hli hbel
        generalize lines[i] = X at *
        go_upto_region 9 with (go_at_call 33; refine cargs (by simp [Act.eval]) (HSP.out.mono ?_); rintro e w1 ⟨ws, hcut2, rfl, rfl, hsz2, hwl, hne2⟩; have HC2 := Lib.hid hcut2; have HSZ2 := Lib.hid hsz2; clear hcut2 hsz2 hne2)
        have HW2 := Lib.hid (words_new wo ws)
        have HP2 : Hid (PS w ((wo.alloc (.cells (ws.map Value.string).toArray 9)).alloc (.cells #[.slice (some ⟨wo.heap.size, 0, none⟩) ws.length ws.length, .bool false] 100)) lines rs k e AO cO xs) := HP.out.below (((Below.refl _ _).alloc (Nat.le_refl _) _).alloc (by simp) _)
        have hsz3 : ((wo.alloc (.cells (ws.map Value.string).toArray 9)).alloc (.cells #[.slice (some ⟨wo.heap.size, 0, none⟩) ws.length ws.length, .bool false] 100)).heap.size = wo.heap.size + 1 + 1 := by simp
        clear HSP HP l0
        generalize (wo.alloc (.cells (ws.map Value.string).toArray 9)).alloc (.cells #[.slice (some ⟨wo.heap.size, 0, none⟩) ws.length ws.length, .bool false] 100) = W2 at *
        have hbb : w.heap.size + 3 ≤ wo.heap.size + 1 := by omega
        generalize wo.heap.size + 1 = b at *
        have HWB : Hid (ws.length ≤ 100000 ∧ (∀ x ∈ ws, x.size ≤ 8000)) := ⟨by omega, fun x hx => by have := HSZ2.out x hx; omega⟩
        clear HSZ2
        by_cases hi0 : i = 0
        · have t2 : ((i : Int) == 0) = true := by rw [hi0]; rfl
          have HI0 := Lib.hid hi0
          clear hi0
          have HRS : Hid (rs.length = i ∧ rs = []) := by
            have := HR.out.1
            have hi0 := HI0.out
            exact ⟨by omega, List.eq_nil_of_length_eq_zero (by omega)⟩
          have HNX := Lib.hid (next_any (b + 1) b ws false W2 HW2.out (by have := HWB.out.1; omega))
          have HAC := Lib.hid (fun (W : World) (bad1 : Bool) (hW : WordsAt W (b + 1) b ws.tail bad1) (hp : PS w W lines rs k e AO cO xs) (hsz : b + 1 ≤ W.heap.size) => action_any HN w (b + 1) b ws.tail bad1 W HGR.out hp.bel (by omega) hsz hW (by have := HWB.out.1; simp only [List.length_tail]; omega) (tail_mem (fun x hx => by have := HWB.out.2 x hx; omega)))
          have HFA : Hid (∀ (k' e' : Int) (j : Nat) (bad' : Bool), (∀ (k0 e0 : Int) (r : List (List UInt8)), (false || ws.isEmpty) = false → ActRd k0 e0 → e0 ≤ 255 → ws.tail.map bL = actW k0 e0 ++ r → k' = k0 ∧ e' = e0 ∧ bad' = false ∧ (ws.tail.drop j).map bL = r) → ∀ p0 : PolD, PolOk p0 → polF p0 = 0 → bL s = polT p0 → bad' = false ∧ ws.tail.drop j = [] ∧ (k' = p0.kind ∧ e' = p0.errno) ∧ rs = p0.rules.take i) := fun k' e' j bad' hh p0 h1 h2 h3 => by
            obtain ⟨g1, g2, g3⟩ := (HLF.out p0 h1 h2 h3).1 HI0.out
            rw [← HC2.out] at g1
            cases ws with
            | nil => simp at g1
            | cons y t =>
              simp only [List.map_cons, List.cons.injEq] at g1
              obtain ⟨a1, a2, a3, a4⟩ := hh p0.kind p0.errno [] rfl g2 g3 g1.2
              refine ⟨a3, ?_, ⟨a1, a2⟩, by rw [HRS.out.2, HI0.out]; rfl⟩
              cases hd : (y :: t).tail.drop j with
              | nil => rfl
              | cons _ _ => rw [hd] at a4; simp at a4
          have hwc := HW2.out
          obtain ⟨_, Aw, cw, hwb, _⟩ := hwc
          have HWBL := Lib.hid hwb
          clear hwb
          generalize (false || ws.isEmpty) = bad1 at *
          generalize ws.headD ByteArray.empty = wd0 at *
          generalize ws.tail = T1 at *
          go_upto_region 11 with (go_at_call 34; refine cargs (by simp [Act.eval]) (HNX.out.mono ?_); rintro e w3 ⟨rfl, hw3, hg3⟩; have HW3 := Lib.hid hw3; have HP3 := Lib.hid (HP2.out.words hbb hg3 HWBL.out); have hs3 : b + 1 ≤ w3.heap.size := (by have := hg3.size; omega); clear hw3 hg3)
          have HAC3 := Lib.hid (HAC.out w3 bad1 HW3.out HP3.out hs3)
          have HWBL3 : Hid (∃ cur, w3.heap[b]? = some (.cells cur 100 (0, 0))) := by
            obtain ⟨_, A3, c3, h3, _⟩ := HW3.out
            exact ⟨_, h3⟩
          clear HNX HAC HP2 HW2 HWBL hsz3
          go_upto_region 13 with (go_at_call 35; refine cargs (by simp [Act.eval]) (HAC3.out.mono ?_); rintro e w4 ⟨k7, e7, j7, bad7, rfl, hw4, hg4, hf4⟩; have HW4 := Lib.hid hw4; have HP4 := Lib.hid (HWBL3.out.elim fun cur hc => HP3.out.words hbb hg4 hc); have HF4 := Lib.hid (HFA.out k7 e7 j7 bad7 hf4); obtain ⟨q0, q1, q2, qz0, qz1, qz2⟩ := prow3 (HWBL3.out.elim fun cur hc => (HP3.out.words hbb hg4 hc).pol); clear hw4 hg4 hf4)
          have HM : Hid (PMid s w lines i b ((w4.setCell ⟨w.heap.size + 1, 1, none⟩ (.int .i64 k7)).setCell ⟨w.heap.size + 1, 2, none⟩ (.int .i64 e7)) (T1.drop j7) bad7 rs k7 e7 AO cO xs) := by
            refine ⟨HP4.out.setElse k7 e7, ?_, ⟨HRS.out.1, HR.out.2.2⟩, HF4.out⟩
            obtain ⟨_, A4, c4, h4, _⟩ := HW4.out
            refine ⟨A4, c4, (heap_setCell_other _ ⟨w.heap.size + 1, 2, none⟩ b _ (by simp only; omega)).trans ((heap_setCell_other w4 ⟨w.heap.size + 1, 1, none⟩ b _ (by simp only; omega)).trans h4)⟩
          generalize (w4.setCell ⟨w.heap.size + 1, 1, none⟩ (.int .i64 k7)).setCell ⟨w.heap.size + 1, 2, none⟩ (.int .i64 e7) = W7 at *
          clear HW3 HP3 HAC3 HWBL3 HW4 HP4 HF4 q0 q1 q2 qz0 qz1 qz2 HFA HRS HF HR HLF
          generalize T1.drop j7 = T7 at *
          obtain ⟨rs7, hrs7⟩ : ∃ rs7, rs7 = rs := ⟨_, rfl⟩
          obtain ⟨AO7, hAO7⟩ : ∃ AO7, AO7 = AO := ⟨_, rfl⟩
          obtain ⟨cO7, hcO7⟩ : ∃ cO7, cO7 = cO := ⟨_, rfl⟩
          obtain ⟨xs7, hxs7⟩ : ∃ xs7, xs7 = xs := ⟨_, rfl⟩
          rw [← hrs7, ← hAO7, ← hcO7, ← hxs7] at HM
          clear hrs7 hAO7 hcO7 hxs7
          obtain ⟨p0, p1, p2, _, _, _⟩ := prow3 HM.out.1.pol
          obtain ⟨A7, c7, hb7⟩ := HM.out.2.1
          obtain ⟨b0, b1, _, _⟩ := row2 hb7
          clear hb7
          cases hbd : bad7 with
          | true =>
            subst hbd
            obtain ⟨y0, y1, y2⟩ := store3 HM.out.1.res (.slice none 0 0) (.int .i64 0) (.int .i64 0)
            obtain ⟨r0, r1, r2, rz0, rz1, rz2⟩ := prow3 HM.out.1.res
            have HBS := Lib.hid (below_store3 HM.out.1.bel (Nat.le_refl w.heap.size) (.slice none 0 0) (.int .i64 0) (.int .i64 0))
            have HNO : Hid (ReadP (bL s) none) := fun p0 h1 h2 h3 => by
              obtain ⟨q1, q2, q3, q4⟩ := HM.out.2.2.2 p0 h1 h2 h3
              cases q1
            clear HM
            go_wp2_with fail
            try simp only [Exit.inBlock, Exit.then]
            refine bodyPost_ret (by simp [results, Tryd.results15, go_sem, y0, y1, y2]; try rfl) rfl ?_
            exact ⟨HBS.out, .inr (.inl ⟨h80, HNO.out, rfl⟩)⟩
          | false =>
            subst hbd
            cases hT7 : T7 with
            | cons y7 t7 =>
              subst hT7
              have z7 : (0 : Int) < ((y7 :: t7).length : Int) := by simp only [List.length_cons]; omega
              obtain ⟨y0, y1, y2⟩ := store3 HM.out.1.res (.slice none 0 0) (.int .i64 0) (.int .i64 0)
              obtain ⟨r0, r1, r2, rz0, rz1, rz2⟩ := prow3 HM.out.1.res
              have HBS := Lib.hid (below_store3 HM.out.1.bel (Nat.le_refl w.heap.size) (.slice none 0 0) (.int .i64 0) (.int .i64 0))
              have HNO : Hid (ReadP (bL s) none) := fun p0 h1 h2 h3 => by
                obtain ⟨q1, q2, q3, q4⟩ := HM.out.2.2.2 p0 h1 h2 h3
                cases q2
              clear HM
              go_wp2_with fail
              try simp only [Exit.inBlock, Exit.then]
              refine bodyPost_ret (by simp [results, Tryd.results15, go_sem, y0, y1, y2]; try rfl) rfl ?_
              exact ⟨HBS.out, .inr (.inl ⟨h80, HNO.out, rfl⟩)⟩
            | nil =>
              subst hT7
              by_cases h12 : 12 < rs7.length
              · have z8 : (12 : Int) < (rs7.length : Int) := by omega
                obtain ⟨y0, y1, y2⟩ := store3 HM.out.1.res (.slice none 0 0) (.int .i64 0) (.int .i64 0)
                obtain ⟨r0, r1, r2, rz0, rz1, rz2⟩ := prow3 HM.out.1.res
                have HBS := Lib.hid (below_store3 HM.out.1.bel (Nat.le_refl w.heap.size) (.slice none 0 0) (.int .i64 0) (.int .i64 0))
                have HNO : Hid (ReadP (bL s) none) := fun p0 h1 h2 h3 => by
                  obtain ⟨q1, q2, q3, q4⟩ := HM.out.2.2.2 p0 h1 h2 h3
                  obtain ⟨h12', _⟩ := polF_zero h2
                  rw [q4] at h12
                  simp only [List.length_take] at h12
                  omega
                clear HM
                go_wp2_with fail
                try simp only [Exit.inBlock, Exit.then]
                refine bodyPost_ret (by simp [results, Tryd.results15, go_sem, y0, y1, y2]; try rfl) rfl ?_
                exact ⟨HBS.out, .inr (.inl ⟨h80, HNO.out, rfl⟩)⟩
              · have z8 : ¬ (12 : Int) < (rs7.length : Int) := by omega
                have HPL : Hid (PLoop s w lines (i + 1) W7) := ⟨rs7, k7, e7, AO7, cO7, xs7, HM.out.1, ⟨HM.out.2.2.1.1, by omega, HM.out.2.2.1.2⟩, fun p0 h1 h2 h3 => by
                  obtain ⟨_, _, q3, q4⟩ := HM.out.2.2.2 p0 h1 h2 h3
                  exact ⟨fun _ => q3, q4⟩⟩
                clear HM
                go_wp2_with fail
                go_roundw
                case rel => exact ⟨i + 1, by omega, by go_num, HPL.out⟩
                case measure => simp [intOf]; omega
        · have t2 : ((i : Int) == 0) = false := by simp; omega
          have HRL : Hid (rs.length = i - 1) := HR.out.1
          have hr12 : rs.length ≤ 12 := HR.out.2.1
          have HI0 : Hid (1 ≤ i) := by show _ ≤ _; omega
          have HRU := Lib.hid (fun (W : World) (hW : WordsAt W (b + 1) b ws false) (hp : PS w W lines rs k e AO cO xs) (hsz : b + 1 ≤ W.heap.size) => rule_any HN w (b + 1) b ws false W HGR.out hp.bel (by omega) hsz hW HWB.out.1 (fun x hx => by have := HWB.out.2 x hx; omega))
          have HFA : Hid (∀ (r : RuleD) (j : Nat) (bad' : Bool), (∀ r0 : RuleD, RuleRd r0 → r0.errno ≤ 255 → ws.map bL = ruleW r0 → r = r0 ∧ bad' = false ∧ ws.drop j = []) → ∀ p0 : PolD, PolOk p0 → polF p0 = 0 → bL s = polT p0 → bad' = false ∧ ws.drop j = [] ∧ (k = p0.kind ∧ e = p0.errno) ∧ rs ++ [r] = p0.rules.take i) := fun r j bad' hh p0 h1 h2 h3 => by
            have hi0 := HI0.out
            obtain ⟨r0, g0, g1, g2, g3⟩ := (HLF.out p0 h1 h2 h3).2 (i - 1) (by omega)
            rw [← HC2.out] at g1
            obtain ⟨a1, a2, a3⟩ := hh r0 g2 g3 g1
            obtain ⟨f1, f2⟩ := HF.out p0 h1 h2 h3
            refine ⟨a2, a3, f1 hi0, ?_⟩
            rw [f2, a1, ← take_next g0, show i - 1 + 1 = i from by omega]
          have HGA : Hid (∀ r : RuleD, r.conds.length ≤ ws.length → (∀ B : Nat, (∀ x ∈ ws, x.size ≤ B) → ∀ c ∈ r.conds, c.glob.size ≤ B) → ∀ q ∈ rs ++ [r], q.conds.length ≤ 100000 ∧ ∀ c ∈ q.conds, c.glob.size ≤ 100000) := fun r h1 h2 q hq => by
            rcases List.mem_append.1 hq with hq | hq
            · exact HR.out.2.2 q hq
            · obtain rfl := List.mem_singleton.1 hq
              exact ⟨by have := HWB.out.1; omega, fun c hc => by have := h2 8000 HWB.out.2 c hc; omega⟩
          have HWD : Hid (WordsAt W2.drew (b + 1) b ws false) := HW2.out
          have HPD : Hid (PS w W2.drew lines rs k e AO cO xs) := HP2.out.below ((Below.refl _ _).drew)
          have hszd : b + 1 ≤ W2.drew.heap.size := by show b + 1 ≤ W2.heap.size; omega
          have HWBL : Hid (∃ cur, W2.drew.heap[b]? = some (.cells cur 100 (0, 0))) := by
            obtain ⟨_, A3, c3, h3, _⟩ := HW2.out
            exact ⟨_, h3⟩
          obtain ⟨q0, q1, q2, qz0, qz1, qz2⟩ := prow3 HP2.out.pol
          clear HF HR HLF HW2 hi0
          go_upto_region 12 with fail
          go_region_law (first
            | (refine step_call rfl 36 Tryd.func36 (by kernel_rfl) (by kernel_rfl) #[.tmp 42] _ rfl #[.pointer (some ⟨b, 0, none⟩)] (by simp [Act.eval, Act.put]) (RuleV W2.drew (b + 1) b ws) (ruleV_of (HRU.out _ HWD.out HPD.out hszd)) ?_; rintro v w3 ⟨r, A3, c3, j3, bad7, rfl, hco, hw3, hg3, hle, hgb, hcf, hfw⟩; have HCO := Lib.hid hco; have HW3 := Lib.hid hw3; have HP3 := Lib.hid (HWBL.out.elim fun cur hc => HPD.out.words hbb hg3 hc); have HGL := Lib.hid (HGA.out r hle hgb); have HCF := Lib.hid (CondsFrom.mono hcf (show w.heap.size + 3 ≤ W2.drew.heap.size by omega)); have HFW := Lib.hid (HFA.out r j3 bad7 hfw); obtain ⟨e0, e1, e2, ez0, ez1, ez2⟩ := prow3 (HWBL.out.elim fun cur hc => (HPD.out.words hbb hg3 hc).pol); have hq8 : w.heap.size + 1 < w3.heap.size := (by have := hg3.size; omega); clear hco hw3 hg3 hle hgb hcf hfw)
            | (refine step_append_rule rfl (.tmp 41) (.tmp 44) rfl (w.heap.size + 3) w3.heap.size rs.length (.slice AO rs.length cO) xs r A3 c3 (by simp [Act.eval, Act.put]) (by simp [Act.eval, Act.put]) (HP3.out.own.alloc _) (heap_alloc_new _ _) (by omega) (by have := HP3.out.big; simp; omega) ?_; intro g9 cap9 w9 ho9 hg9; have HP9 := Lib.hid (HP3.out.append ho9 hg9 HCO.out HCF.out); obtain ⟨n0, n1, n2, nz0, nz1, nz2⟩ := prow3 ((HP3.out.keptOwn hg9).2.2 _ _ HP3.out.pol (fun cur e => by simp only [Obj.cells.injEq] at e; exact absurd e.2.1 (by decide))); have HW9 := Lib.hid (words_kept HW3.out (HP3.out.keptOwn hg9).2.2); clear ho9 hg9))
          all_goals
            have HM : Hid (PMid s w lines i b (w9.setCell ⟨w.heap.size + 1, 0, none⟩ (.slice (some ⟨g9, 0, none⟩) (rs.length + 1) cap9)) (ws.drop j3) bad7 (rs ++ [r]) k e (some ⟨g9, 0, none⟩) cap9 (xs ++ ruleV r A3 c3)) := by
              refine ⟨HP9.out, ?_, ⟨by have := HI0.out; have := HRL.out; simp only [List.length_append, List.length_cons, List.length_nil]; omega, HGL.out⟩, HFW.out⟩
              obtain ⟨A4, c4, h4⟩ := HW9.out
              exact ⟨A4, c4, (heap_setCell_other w9 ⟨w.heap.size + 1, 0, none⟩ b _ (by simp only; omega)).trans h4⟩
            clear HP9 HW9 HGL HFW HCF HCO HW3 HP3 HWD HPD HRU HFA HGA e0 e1 e2 ez0 ez1 ez2 n0 n1 n2 nz0 nz1 nz2 q0 q1 q2 qz0 qz1 qz2 hq8 hszd
            generalize w9.setCell ⟨w.heap.size + 1, 0, none⟩ (.slice (some ⟨g9, 0, none⟩) (rs.length + 1) cap9) = W7 at *
            generalize ws.drop j3 = T7 at *
            generalize rs ++ [r] = rs7 at *
            generalize xs ++ ruleV r A3 c3 = xs7 at *
            obtain ⟨k7, hk7⟩ : ∃ k7, k7 = k := ⟨_, rfl⟩
            obtain ⟨e7, he7⟩ : ∃ e7, e7 = e := ⟨_, rfl⟩
            rw [← hk7, ← he7] at HM
            clear hk7 he7
            obtain ⟨AO7, hAO7⟩ : ∃ AO7 : Option Addr, AO7 = some ⟨g9, 0, none⟩ := ⟨_, rfl⟩
            obtain ⟨cO7, hcO7⟩ : ∃ cO7, cO7 = cap9 := ⟨_, rfl⟩
            rw [← hAO7, ← hcO7] at HM
            clear hAO7 hcO7
            obtain ⟨p0, p1, p2, _, _, _⟩ := prow3 HM.out.1.pol
            obtain ⟨A7, c7, hb7⟩ := HM.out.2.1
            obtain ⟨b0, b1, _, _⟩ := row2 hb7
            clear hb7
            cases hbd : bad7 with
            | true =>
              subst hbd
              obtain ⟨y0, y1, y2⟩ := store3 HM.out.1.res (.slice none 0 0) (.int .i64 0) (.int .i64 0)
              obtain ⟨r0, r1, r2, rz0, rz1, rz2⟩ := prow3 HM.out.1.res
              have HBS := Lib.hid (below_store3 HM.out.1.bel (Nat.le_refl w.heap.size) (.slice none 0 0) (.int .i64 0) (.int .i64 0))
              have HNO : Hid (ReadP (bL s) none) := fun p0 h1 h2 h3 => by
                obtain ⟨q1, q2, q3, q4⟩ := HM.out.2.2.2 p0 h1 h2 h3
                cases q1
              clear HM
              go_wp2_with fail
              try simp only [Exit.inBlock, Exit.then]
              refine bodyPost_ret (by simp [results, Tryd.results15, go_sem, y0, y1, y2]; try rfl) rfl ?_
              exact ⟨HBS.out, .inr (.inl ⟨h80, HNO.out, rfl⟩)⟩
            | false =>
              subst hbd
              cases hT7 : T7 with
              | cons y7 t7 =>
                subst hT7
                have z7 : (0 : Int) < ((y7 :: t7).length : Int) := by simp only [List.length_cons]; omega
                obtain ⟨y0, y1, y2⟩ := store3 HM.out.1.res (.slice none 0 0) (.int .i64 0) (.int .i64 0)
                obtain ⟨r0, r1, r2, rz0, rz1, rz2⟩ := prow3 HM.out.1.res
                have HBS := Lib.hid (below_store3 HM.out.1.bel (Nat.le_refl w.heap.size) (.slice none 0 0) (.int .i64 0) (.int .i64 0))
                have HNO : Hid (ReadP (bL s) none) := fun p0 h1 h2 h3 => by
                  obtain ⟨q1, q2, q3, q4⟩ := HM.out.2.2.2 p0 h1 h2 h3
                  cases q2
                clear HM
                go_wp2_with fail
                try simp only [Exit.inBlock, Exit.then]
                refine bodyPost_ret (by simp [results, Tryd.results15, go_sem, y0, y1, y2]; try rfl) rfl ?_
                exact ⟨HBS.out, .inr (.inl ⟨h80, HNO.out, rfl⟩)⟩
              | nil =>
                subst hT7
                by_cases h12 : 12 < rs7.length
                · have z8 : (12 : Int) < (rs7.length : Int) := by omega
                  obtain ⟨y0, y1, y2⟩ := store3 HM.out.1.res (.slice none 0 0) (.int .i64 0) (.int .i64 0)
                  obtain ⟨r0, r1, r2, rz0, rz1, rz2⟩ := prow3 HM.out.1.res
                  have HBS := Lib.hid (below_store3 HM.out.1.bel (Nat.le_refl w.heap.size) (.slice none 0 0) (.int .i64 0) (.int .i64 0))
                  have HNO : Hid (ReadP (bL s) none) := fun p0 h1 h2 h3 => by
                    obtain ⟨q1, q2, q3, q4⟩ := HM.out.2.2.2 p0 h1 h2 h3
                    obtain ⟨h12', _⟩ := polF_zero h2
                    rw [q4] at h12
                    simp only [List.length_take] at h12
                    omega
                  clear HM
                  go_wp2_with fail
                  try simp only [Exit.inBlock, Exit.then]
                  refine bodyPost_ret (by simp [results, Tryd.results15, go_sem, y0, y1, y2]; try rfl) rfl ?_
                  exact ⟨HBS.out, .inr (.inl ⟨h80, HNO.out, rfl⟩)⟩
                · have z8 : ¬ (12 : Int) < (rs7.length : Int) := by omega
                  have HPL : Hid (PLoop s w lines (i + 1) W7) := ⟨rs7, k7, e7, AO7, cO7, xs7, HM.out.1, ⟨HM.out.2.2.1.1, by omega, HM.out.2.2.1.2⟩, fun p0 h1 h2 h3 => by
                    obtain ⟨_, _, q3, q4⟩ := HM.out.2.2.2 p0 h1 h2 h3
                    exact ⟨fun _ => q3, q4⟩⟩
                  clear HM
                  go_wp2_with fail
                  go_roundw
                  case rel => exact ⟨i + 1, by omega, by go_num, HPL.out⟩
                  case measure => simp [intOf]; omega
      · obtain rfl : i = n := by omega
        have HTX := Lib.hid (polText_any (.agg #[.slice AO rs.length cO, .int .i64 k, .int .i64 e]) ⟨rs, k, e⟩ wo ⟨AO, cO, rfl, rulesSl_own HP.out.own HP.out.rul.own⟩ (fun r hr c hc => (HR.out.2.2 r hr).2 c hc) (by have := HR.out.2.1; simp only; omega) (fun r hr => (HR.out.2.2 r hr).1) (HTB.out wo HP.out.bel))
        have HNO : Hid ((polF ⟨rs, k, e⟩ = 0 → bL s ≠ polT ⟨rs, k, e⟩) → ReadP (bL s) none) := fun hne p0 h1 h2 h3 => by
          obtain ⟨f1, f2⟩ := HF.out p0 h1 h2 h3
          obtain ⟨g1, _⟩ := lines_fwd HCUT.out h1 h2 h3
          have g2 := HLEN.out
          obtain ⟨f3, f4⟩ := f1 (by omega)
          rw [show i - 1 = p0.rules.length from by omega, List.take_length] at f2
          have hp : (⟨rs, k, e⟩ : PolD) = p0 := by
            obtain ⟨r0, k0, e0⟩ := p0
            simp only at f2 f3 f4
            rw [f2, f3, f4]
          rw [hp] at hne
          exact hne h2 h3
        have HOK : Hid (PolOk ⟨rs, k, e⟩) := fun r hr c hc => by
          obtain ⟨q, hq⟩ := List.getElem?_of_mem hr
          obtain ⟨A, c', h1, _⟩ := HP.out.rul q r hq
          exact h1.1 c hc
        obtain ⟨p0, p1, p2, _, _, _⟩ := prow3 HP.out.pol
        by_cases hf : polF ⟨rs, k, e⟩ = 0
        · have HTX2 : Hid (Calls Tryd.prog 14 #[.agg #[.slice AO rs.length cO, .int .i64 k, .int .i64 e]] wo fun e' w' => e' = .returned (.tuple #[.string ⟨(polT ⟨rs, k, e⟩).toArray⟩, .nilIface]) ∧ Below wo.heap.size wo w') := HTX.out.mono fun _ _ ⟨h1, h2⟩ => ⟨by rw [h1, hf]; rfl, h2⟩
          have HEQ : Hid ((⟨(polT ⟨rs, k, e⟩).toArray⟩ : ByteArray) = s ↔ bL s = polT ⟨rs, k, e⟩) := ⟨fun h => by rw [← h]; unfold bL; simp, fun h => (bL_inj h).symm⟩
          have HPF := Lib.hid hf
          clear HTX hf HF HR
          obtain ⟨Y, hY⟩ : ∃ Y : ByteArray, Y = ⟨(polT ⟨rs, k, e⟩).toArray⟩ := ⟨_, rfl⟩
          rw [← hY] at HTX2 HEQ
          clear hY
          by_cases hs : Y = s
          · subst hs
            have HRD : Hid (ReadP (bL Y) (some ⟨rs, k, e⟩)) := ⟨HOK.out, HPF.out, HEQ.out.1 rfl⟩
            clear HEQ HNO HOK HPF
            go_upto_region 17 with (go_at_call 14; refine cargs (by simp [Act.eval]) (HTX2.out.mono ?_); rintro e' w5 ⟨rfl, hb5⟩; have HP5 := Lib.hid (HP.out.below hb5); clear hb5)
            obtain ⟨q0, q1, q2, _, _, _⟩ := prow3 HP5.out.pol
            obtain ⟨r0, r1, r2, rz0, rz1, rz2⟩ := prow3 HP5.out.res
            obtain ⟨y0, y1, y2⟩ := store3 HP5.out.res (.slice AO rs.length cO) (.int .i64 k) (.int .i64 e)
            have HBS := Lib.hid (below_store3 HP5.out.bel (Nat.le_refl w.heap.size) (.slice AO rs.length cO) (.int .i64 k) (.int .i64 e))
            have HOR := Lib.hid (HP5.out.fin (.slice AO rs.length cO) (.int .i64 k) (.int .i64 e))
            clear HP HP5 HTX2 p0 p1 p2
            go_wp2_with fail
            try simp only [Exit.inBlock, Exit.then]
            refine bodyPost_ret (by simp [results, Tryd.results15, go_sem, y0, y1, y2]; try rfl) rfl ?_
            exact ⟨HBS.out, .inr (.inr ⟨h80, ⟨rs, k, e⟩, AO, cO, xs, HRD.out, rfl, HOR.out.1, HOR.out.2⟩)⟩
          · have HNN : Hid (ReadP (bL s) none) := HNO.out (fun _ h => hs (HEQ.out.2 h))
            have z9 : (Y.toList == s.toList) = false := beq_eq_false_iff_ne.2 (fun e' => hs (by rw [tl_eq, tl_eq] at e'; exact ba_ext e'))
            clear HEQ HNO HOK HPF hs
            go_upto_region 17 with (go_at_call 14; refine cargs (by simp [Act.eval]) (HTX2.out.mono ?_); rintro e' w5 ⟨rfl, hb5⟩; have HP5 := Lib.hid (HP.out.below hb5); clear hb5)
            obtain ⟨r0, r1, r2, rz0, rz1, rz2⟩ := prow3 HP5.out.res
            obtain ⟨y0, y1, y2⟩ := store3 HP5.out.res (.slice none 0 0) (.int .i64 0) (.int .i64 0)
            have HBS := Lib.hid (below_store3 HP5.out.bel (Nat.le_refl w.heap.size) (.slice none 0 0) (.int .i64 0) (.int .i64 0))
            clear HP HP5 HTX2 p0 p1 p2
            go_wp2_with fail
            try simp only [Exit.inBlock, Exit.then]
            refine bodyPost_ret (by simp [results, Tryd.results15, go_sem, y0, y1, y2]; try rfl) rfl ?_
            exact ⟨HBS.out, .inr (.inl ⟨h80, HNN.out, rfl⟩)⟩
        · have HNN : Hid (ReadP (bL s) none) := HNO.out (fun h => absurd h hf)
          have HTX2 : Hid (Calls Tryd.prog 14 #[.agg #[.slice AO rs.length cO, .int .i64 k, .int .i64 e]] wo fun e' w' => e' = .returned (.tuple #[.string ⟨([] : List UInt8).toArray⟩, .iface 64 (.int .i64 (polF ⟨rs, k, e⟩))]) ∧ Below wo.heap.size wo w') := HTX.out.mono fun _ _ ⟨h1, h2⟩ => ⟨by rw [h1, if_neg hf, errV_pos hf], h2⟩
          clear HTX hf HF HR HNO HOK
          generalize polF ⟨rs, k, e⟩ = pf at *
          go_upto_region 17 with (go_at_call 14; refine cargs (by simp [Act.eval]) (HTX2.out.mono ?_); rintro e' w5 ⟨rfl, hb5⟩; have HP5 := Lib.hid (HP.out.below hb5); clear hb5)
          obtain ⟨r0, r1, r2, rz0, rz1, rz2⟩ := prow3 HP5.out.res
          obtain ⟨y0, y1, y2⟩ := store3 HP5.out.res (.slice none 0 0) (.int .i64 0) (.int .i64 0)
          have HBS := Lib.hid (below_store3 HP5.out.bel (Nat.le_refl w.heap.size) (.slice none 0 0) (.int .i64 0) (.int .i64 0))
          clear HP HP5 HTX2 p0 p1 p2
          go_wp2_with fail
          try simp only [Exit.inBlock, Exit.then]
          refine bodyPost_ret (by simp [results, Tryd.results15, go_sem, y0, y1, y2]; try rfl) rfl ?_
          exact ⟨HBS.out, .inr (.inl ⟨h80, HNN.out, rfl⟩)⟩
end Go.Proofs.YtmgngapkgcofnabDoor
