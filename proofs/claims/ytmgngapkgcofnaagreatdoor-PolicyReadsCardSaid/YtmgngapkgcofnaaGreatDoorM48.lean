/- The reference's policy of a text: what it holds while it is read. -/
import Derived.Test.YtmgngapkgcofnaaGreatDoorM39
import Derived.Test.YtmgngapkgcofnaaGreatDoorM42
import Derived.Test.YtmgngapkgcofnaaGreatDoorM47
namespace Go.Proofs.YtmgngapkgcofnaaGreatDoor
open Go.RowKit Go.PlainAid

theorem list_append_rule {w : World} {ops : Array Oper} {rest : List Oper} {o : Oper} {a : Act} {Q : Exit → Act → World → Prop} (hgd : o.guard = none) (s x : Operand)
    (ho : o.op = .call { callee := .builtin .append, args := #[s, x], argTypes := #[23, 23] })
    (base bs n : Nat) (v1 : Value) (xs : List Value) (y : RuleD) (A : Option Addr) (c : Nat) (hs : a.eval s = v1) (hx : a.eval x = .slice (some ⟨bs, 0, none⟩) 1 1)
    (hown : w.ownsRow base 73 4 v1 n xs)
    (hb : w.heap[bs]? = some (.cells #[.int .i64 y.nr, .slice A y.conds.length c, .int .i64 y.kind, .int .i64 y.errno] 73 (0, 0))) (hl : n ≤ 1000000) (hbase : base ≤ w.heap.size)
    (h : ∀ g cap w', w'.ownsRow base 73 4 (.slice (some ⟨g, 0, none⟩) (n + 1) cap) (n + 1) (xs ++ ruleV y A c) → w.grownBy w' v1.ownBlock → wpList Tryz.prog ops Q rest (a.put o.dst (.slice (some ⟨g, 0, none⟩) (n + 1) cap)) w') :
    wpList Tryz.prog ops Q (o :: rest) a w := by
  obtain ⟨z, hinf, hz2⟩ := ruleInfo
  obtain ⟨i0, hi, hz0, hz1, hz3⟩ := info_parts hinf
  refine wpList_append_own _ hgd s x _ ho base 73 i0 z 4 48 Tryz.underlying23 hi hz0 hz1 hz3 hz2 (by omega) v1 n xs hs hown ⟨bs, 0, none⟩ 1 1 (ruleV y A c) hx rfl (World.news_of_block hb) (by simp [ruleV, Value.oneCell']) (by unfold maxLen; omega) (by omega) hbase ?_
  intro v' w' h2 h3 _
  rcases h2.2 with ⟨_, h4⟩ | ⟨g, cap, cur, h4, _⟩
  · omega
  · subst h4
    exact h g cap w' h2 h3
structure PR (w : World) (g : Nat) (S : Array Value) (q : Nat) (W : World) (rs : List RuleD) (k e : Int) (AO : Option Addr) (cO : Nat) (xs : List Value) : Prop where
  bel : Below w.heap.size w W
  hg : w.heap.size < g
  hgq : g < q
  res : W.heap[w.heap.size]? = some (.cells zero3 27 (0, 0))
  str : W.heap[g]? = some (.cells S 9 (0, 0))
  pol : W.heap[q]? = some (.cells #[.slice AO rs.length cO, .int .i64 k, .int .i64 e] 27 (0, 0))
  own : W.ownsRow (w.heap.size + 1) 73 4 (.slice AO rs.length cO) rs.length xs
  rul : RulesOwnB W (w.heap.size + 1) rs xs
section
variable {w : World} {g : Nat} {S : Array Value} {q : Nat} {W W' : World} {rs : List RuleD} {k e : Int} {AO : Option Addr} {cO : Nat} {xs : List Value}
theorem PR.big (h : PR w g S q W rs k e AO cO xs) : q < W.heap.size := lt_of_block h.pol
theorem PR.below (h : PR w g S q W rs k e AO cO xs) (hb : Below W.heap.size W W') : PR w g S q W' rs k e AO cO xs := by
  have h1 := h.hg
  have h2 := h.hgq
  have h3 := h.big
  refine ⟨h.bel.trans (hb.mono h.bel.size), h1, h2, (hb.block _ (by omega)).trans h.res, (hb.block _ (by omega)).trans h.str, (hb.block _ h3).trans h.pol, ?_, h.rul.kept (keptC_below hb)⟩
  exact own_at h.own (fun g cur _ hgc => (hb.block g (lt_of_block hgc)).trans hgc)
theorem PR.alloc (h : PR w g S q W rs k e AO cO xs) (o : Obj) : PR w g S q (W.alloc o) rs k e AO cO xs := h.below ((Below.refl _ _).alloc (Nat.le_refl _) o)
theorem PR.keptOwn (h : PR w g S q W rs k e AO cO xs) {o : Obj} {W1 : World} (hg : (W.alloc o).grownBy W1 (Value.slice AO rs.length cO).ownBlock) : KeptC W W1 ∧ Below w.heap.size W W1 ∧ (∀ (i : Nat) (ob : Obj), W.heap[i]? = some ob → (∀ cur, ob ≠ .cells cur 73 (0, 0)) → W1.heap[i]? = some ob) := by
  have hs := h.bel.size
  have hk : ∀ (i : Nat) (ob : Obj), W.heap[i]? = some ob → (∀ cur, ob ≠ .cells cur 73 (0, 0)) → W1.heap[i]? = some ob := fun i ob hi hne => by
    have hlt := lt_of_block hi
    have h1 : (W.alloc o).heap[i]? = some ob := (((Below.refl W.heap.size W).alloc (Nat.le_refl _) o).block i hlt).trans hi
    refine (hg.block i (by simp; omega) (fun e => ?_)).trans h1
    rcases own_block h.own with h0 | ⟨g, cur, h0, _, h3⟩
    · rw [h0] at e; simp at e
    · rw [h0] at e
      simp only [Option.some.injEq] at e
      subst e
      rw [h3] at hi
      simp only [Option.some.injEq] at hi
      exact hne cur hi.symm
  refine ⟨fun i cs fr hi => hk i _ hi (fun cur e => by simp only [Obj.cells.injEq] at e; exact absurd e.2.1 (by decide)), ⟨hg.os, hg.tape, hg.output, Nat.le_trans (by first | (simp; done) | (simp; omega)) hg.size, fun i hi => ?_⟩, hk⟩
  have hlt : i < W.heap.size := by omega
  refine (hg.block i (by simp; omega) (fun e => ?_)).trans (((Below.refl W.heap.size W).alloc (Nat.le_refl _) o).block i hlt)
  rcases own_block h.own with h0 | ⟨g, cur, h0, h2, _⟩
  · rw [h0] at e; simp at e
  · rw [h0] at e; simp only [Option.some.injEq] at e; omega
theorem PR.append (h : PR w g S q W rs k e AO cO xs) {o : Obj} {W1 : World} {g' cap : Nat} {y : RuleD} {A : Option Addr} {c : Nat} (ho : W1.ownsRow (w.heap.size + 1) 73 4 (.slice (some ⟨g', 0, none⟩) (rs.length + 1) cap) (rs.length + 1) (xs ++ ruleV y A c))
    (hgr : (W.alloc o).grownBy W1 (Value.slice AO rs.length cO).ownBlock) (hc : CondsOwn W (.slice A y.conds.length c) y.conds) (hf : CondsFrom (w.heap.size + 1) (.slice A y.conds.length c)) :
    PR w g S q (W1.setCell ⟨q, 0, none⟩ (.slice (some ⟨g', 0, none⟩) (rs.length + 1) cap)) (rs ++ [y]) k e (some ⟨g', 0, none⟩) cap (xs ++ ruleV y A c) := by
  obtain ⟨hkc, hlow, hk⟩ := h.keptOwn hgr
  have hg := h.hg
  have hgq := h.hgq
  have hp1 := hk _ _ h.pol (fun cur e => by simp only [Obj.cells.injEq] at e; exact absurd e.2.1 (by decide))
  have e1 : (W1.setCell ⟨q, 0, none⟩ (.slice (some ⟨g', 0, none⟩) (rs.length + 1) cap)).heap[q]? = some (.cells #[.slice (some ⟨g', 0, none⟩) (rs.length + 1) cap, .int .i64 k, .int .i64 e] 27 (0, 0)) := by
    have := heap_setCell_same W1 q 0 _ _ (.slice (some ⟨g', 0, none⟩) (rs.length + 1) cap) hp1; simpa using this
  have hlen : (rs ++ [y]).length = rs.length + 1 := by simp
  refine ⟨(h.bel.trans hlow).setCell (p := ⟨q, 0, none⟩) (by show w.heap.size ≤ q; omega) _, hg, hgq, ?_, ?_, by rw [hlen]; exact e1, ?_, ?_⟩
  · exact (heap_setCell_other W1 ⟨q, 0, none⟩ w.heap.size _ (fun e => by simp at e; omega)).trans (hk _ _ h.res (fun cur e => by simp only [Obj.cells.injEq] at e; exact absurd e.2.1 (by decide)))
  · exact (heap_setCell_other W1 ⟨q, 0, none⟩ g _ (fun e => by simp at e; omega)).trans (hk _ _ h.str (fun cur e => by simp only [Obj.cells.injEq] at e; exact absurd e.2.1 (by decide)))
  · rw [hlen]
    refine own_at ho (fun g'' cur' hbg hgc => (heap_setCell_other W1 ⟨q, 0, none⟩ g'' _ (fun ee => ?_)).trans hgc)
    simp only at ee
    subst ee
    rw [hp1] at hgc
    simp only [Option.some.injEq, Obj.cells.injEq] at hgc
    exact absurd hgc.2.1 (by decide)
  · exact ((h.rul.kept hkc).snoc h.own.1 (hc.kept hkc) hf).kept (keptC_set hp1 (by decide))
theorem PR.polAt (h : PR w g S q W rs k e AO cO xs) : PolAt W W.heap.size (.agg #[.slice AO rs.length cO, .int .i64 k, .int .i64 e]) ⟨rs, k, e⟩ := ⟨AO, cO, rfl, rulesSl_own h.own h.rul.own⟩
/-- Three cells laid over the result's. -/
theorem PR.fin (h : PR w g S q W rs k e AO cO xs) (c0 c1 c2 : Value) :
    Below w.heap.size w (((W.setCell ⟨w.heap.size, 0, none⟩ c0).setCell ⟨w.heap.size, 1, none⟩ c1).setCell ⟨w.heap.size, 2, none⟩ c2) ∧
      (((W.setCell ⟨w.heap.size, 0, none⟩ c0).setCell ⟨w.heap.size, 1, none⟩ c1).setCell ⟨w.heap.size, 2, none⟩ c2).heap[w.heap.size]? = some (.cells #[c0, c1, c2] 27 (0, 0)) ∧
      PolAt (((W.setCell ⟨w.heap.size, 0, none⟩ c0).setCell ⟨w.heap.size, 1, none⟩ c1).setCell ⟨w.heap.size, 2, none⟩ c2) (((W.setCell ⟨w.heap.size, 0, none⟩ c0).setCell ⟨w.heap.size, 1, none⟩ c1).setCell ⟨w.heap.size, 2, none⟩ c2).heap.size (.agg #[.slice AO rs.length cO, .int .i64 k, .int .i64 e]) ⟨rs, k, e⟩ := by
  have hne : 27 ≠ 84 := by decide
  have e0 := h.res
  have e1 : (W.setCell ⟨w.heap.size, 0, none⟩ c0).heap[w.heap.size]? = some (.cells #[c0, .int .i64 0, .int .i64 0] 27 (0, 0)) := by
    have := heap_setCell_same W w.heap.size 0 _ _ c0 e0; simpa [zero3] using this
  have e2 : ((W.setCell ⟨w.heap.size, 0, none⟩ c0).setCell ⟨w.heap.size, 1, none⟩ c1).heap[w.heap.size]? = some (.cells #[c0, c1, .int .i64 0] 27 (0, 0)) := by
    have := heap_setCell_same _ w.heap.size 1 _ _ c1 e1; simpa using this
  have e3 : (((W.setCell ⟨w.heap.size, 0, none⟩ c0).setCell ⟨w.heap.size, 1, none⟩ c1).setCell ⟨w.heap.size, 2, none⟩ c2).heap[w.heap.size]? = some (.cells #[c0, c1, c2] 27 (0, 0)) := by
    have := heap_setCell_same _ w.heap.size 2 _ _ c2 e2; simpa using this
  have hk : KeptC W (((W.setCell ⟨w.heap.size, 0, none⟩ c0).setCell ⟨w.heap.size, 1, none⟩ c1).setCell ⟨w.heap.size, 2, none⟩ c2) := ((keptC_set e0 hne).trans (keptC_set e1 hne)).trans (keptC_set e2 hne)
  refine ⟨((h.bel.setCell (p := ⟨w.heap.size, 0, none⟩) (Nat.le_refl _) _).setCell (p := ⟨w.heap.size, 1, none⟩) (Nat.le_refl _) _).setCell (p := ⟨w.heap.size, 2, none⟩) (Nat.le_refl _) _, e3, AO, cO, rfl, rulesSl_own (own_at h.own (fun g' cur hbg hgc => ?_)) (h.rul.kept hk).own⟩
  have hn : g' ≠ w.heap.size := by omega
  exact (heap_setCell_other _ ⟨w.heap.size, 2, none⟩ g' _ hn).trans ((heap_setCell_other _ ⟨w.heap.size, 1, none⟩ g' _ hn).trans ((heap_setCell_other _ ⟨w.heap.size, 0, none⟩ g' _ hn).trans hgc))
end
theorem PR.start {w w1 : World} {g : Nat} {S : Array Value} (hb : Below w.heap.size w w1) (hg : w.heap.size < g) (hR : w1.heap[w.heap.size]? = some (.cells zero3 27 (0, 0))) (hS : w1.heap[g]? = some (.cells S 9 (0, 0))) (k e : Int) :
    PR w g S w1.heap.size (w1.alloc (.cells #[.slice none 0 0, .int .i64 k, .int .i64 e] 27)) [] k e none 0 [] := by
  have h1 : Below w1.heap.size w1 (w1.alloc (.cells #[.slice none 0 0, .int .i64 k, .int .i64 e] 27)) := (Below.refl _ _).alloc (Nat.le_refl _) _
  exact ⟨hb.trans (h1.mono hb.size), hg, lt_of_block hS, (h1.block _ (lt_of_block hR)).trans hR, (h1.block _ (lt_of_block hS)).trans hS, heap_alloc_new _ _, World.ownsRow_nil _ _ _ _, fun i r h => by simp at h⟩
/-- A rule that stands in a line is no longer than it. -/
theorem glob_small {r : RuleD} {x : List UInt8} (hr : RuleRd r) (h : ruleW r = cutW 32 x) : (∀ c ∈ r.conds, c.glob.size ≤ x.length) ∧ r.conds.length ≤ x.length + 1 := by
  have hmem : ∀ (cs : List CondD) (k : Nat) (c : CondD), c ∈ cs → ∀ u ∈ condW c, u ∈ condsW k cs := by
    intro cs
    induction cs with
    | nil => intro k c hc; cases hc
    | cons d cs ih =>
      intro k c hc u hu
      rw [condsW_cons]
      rcases List.mem_cons.1 hc with rfl | hc
      · simp [hu]
      · have := ih (k + 1) c hc u hu
        simp [this]
  have hlen : ∀ (cs : List CondD) (k : Nat), cs.length ≤ (condsW k cs).length := by
    intro cs
    induction cs with
    | nil => intro k; simp
    | cons d cs ih =>
      intro k
      rw [condsW_cons]
      have := ih (k + 1)
      simp only [List.length_cons, List.length_append]
      omega
  refine ⟨fun c hc => ?_, ?_⟩
  · by_cases h8 : c.op = 8
    · have h1 : quoteW c.glob ∈ condW c := by simp [condW, h8]
      have h2 : quoteW c.glob ∈ ruleW r := by
        unfold ruleW
        have := hmem r.conds 0 c hc _ h1
        simp [this]
      rw [h] at h2
      have h3 := cutW_word 32 x _ h2
      unfold quoteW at h3
      simp at h3
      omega
    · rw [(hr.con c hc).g0 h8]
      exact Nat.zero_le _
  · have h1 := cutW_len 32 x
    rw [← h] at h1
    have h2 := hlen r.conds 0
    unfold ruleW at h1
    simp only [List.length_append, List.length_cons] at h1
    omega
theorem win_strs {W : World} {g : Nat} {S : Array Value} {v : Value} {ws : List ByteArray} (hs : W.heap[g]? = some (.cells S 9 (0, 0))) (hw : WIn S g v ws) : StrsSl W W.heap.size v ws := by
  obtain ⟨A, c, h1, h2, h3⟩ := hw
  refine ⟨A, c, h1, h2, h3.imp id ?_⟩
  rintro ⟨o, ha, hx⟩
  refine ⟨g, o, ha, lt_of_block hs, fun i x hi => ?_⟩
  rw [cell_of_row _ _ _ _ _ _ hs]
  exact hx i x hi
theorem win_cell {W : World} {g : Nat} {S : Array Value} {n c : Nat} {ws : List ByteArray} (hs : W.heap[g]? = some (.cells S 9 (0, 0))) (hw : WIn S g (.slice (some ⟨g, 0, none⟩) n c) ws) {i : Nat} {x : ByteArray} (hx : ws[i]? = some x) : W.cell? ⟨g, i, none⟩ = some (.string x) := by
  obtain ⟨A0, c0, h1, _, h3⟩ := hw
  simp only [Value.slice.injEq] at h1
  obtain ⟨rfl, rfl, rfl⟩ := h1
  obtain ⟨o, ho, hh⟩ := h3.resolve_left (fun e => by rw [e] at hx; simp at hx)
  simp only [Option.some.injEq, Addr.mk.injEq, true_and, and_true] at ho
  subst ho
  have := hh i x hx
  rw [Nat.zero_add] at this
  exact (cell_of_row _ _ _ _ _ _ hs).trans this
/-- The first line read. -/
theorem polI_first {L : List (List UInt8)} {x : List UInt8} {T : List (List UInt8)} (hx : L[0]? = some x) (hw : cutW 32 x = wElse :: T) {k e : Int} {n : Nat} (ha : ActOf T k e n) (h0 : n ≠ 0) (hn : n = T.length) : PolI L k e [] := by
  rcases ha with ⟨h, _⟩ | ⟨h1, h2, r, h3⟩
  · exact absurd h h0
  · have hl := congrArg List.length h3
    rw [List.length_append] at hl
    have hr : r = [] := List.eq_nil_of_length_eq_zero (by omega)
    subst hr
    exact ⟨h1, ⟨x, hx, by rw [hw, h3, List.append_nil]⟩, by simp, by simp, by simp⟩
/-- What PolicyOf answers. -/
def PolicyOfA (s : ByteArray) (w : World) (e : Ending) (w' : World) : Prop :=
  Below w.heap.size w w' ∧ ((8000 < s.size ∧ e = .returned (.tuple #[.agg zero3, .int .i64 2])) ∨ (s.size ≤ 8000 ∧ ReadP (bL s) none ∧ e = .returned (.tuple #[.agg zero3, .int .i64 4])) ∨
    (s.size ≤ 8000 ∧ ∃ (p : PolD) (v : Value), ReadP (bL s) (some p) ∧ e = .returned (.tuple #[v, .int .i64 0]) ∧ PolAt w' w'.heap.size v p))
end Go.Proofs.YtmgngapkgcofnaaGreatDoor
