/- Own: the walk. -/
import Derived.Test.YtmgngapkgcofnabDoorP43
import Derived.Test.YtmgngapkgcofnabDoorP44
import Derived.OwnWalk
namespace Go.Proofs.YtmgngapkgcofnabDoor
open Go.RowKit Go.PlainAid

structure OwnIn (w wr : World) (A : Option Addr) (cp : Nat) (rules : List RuleD) (pk pe : Int) (i : Nat) : Prop where
  bel : Below w.heap.size w wr
  box : wr.heap[w.heap.size]? = some (.cells #[.slice A rules.length cp, .int .i64 pk, .int .i64 pe] 40 (0, 0))
  res : wr.heap[w.heap.size + 1]? = some (.cells #[.slice none 0 0, .int .i64 0, .int .i64 0] 40 (0, 0))
  out : ∃ AO cO xs, wr.heap[w.heap.size + 1 + 1]? = some (.cells #[.slice AO i cO, .int .i64 pk, .int .i64 pe] 40 (0, 0)) ∧ wr.ownsRow (w.heap.size + 1 + 1 + 1) 84 4 (.slice AO i cO) i xs ∧ RulesOwn wr (rules.take i) xs
section
variable {w wr : World} {A : Option Addr} {cp : Nat} {rules : List RuleD} {pk pe : Int} {i : Nat}
theorem OwnIn.lt (h : OwnIn w wr A cp rules pk pe i) : w.heap.size + 1 + 1 < wr.heap.size := by
  obtain ⟨AO, cO, xs, h1, _⟩ := h.out
  exact (Array.getElem?_eq_some_iff.1 h1).1
theorem own_start (w : World) (A : Option Addr) (cp : Nat) (rules : List RuleD) (pk pe : Int) :
    OwnIn w (((w.alloc (.cells #[.slice A rules.length cp, .int .i64 pk, .int .i64 pe] 40)).alloc (.cells #[.slice none 0 0, .int .i64 0, .int .i64 0] 40)).alloc (.cells #[.slice none 0 0, .int .i64 pk, .int .i64 pe] 40)) A cp rules pk pe 0 := by
  refine ⟨(((Below.refl _ _).alloc (Nat.le_refl _) _).alloc (by simp) _).alloc (by simp; omega) _, ?_, ?_, none, 0, [], ?_, World.ownsRow_nil _ _ _ _, fun k r h => by simp at h⟩
  · rw [heap_alloc_old _ _ (by simp; omega), heap_alloc_old _ _ (by simp)]
    exact heap_alloc_new _ _
  · rw [heap_alloc_old _ _ (by simp)]
    have := heap_alloc_new (w.alloc (.cells #[.slice A rules.length cp, .int .i64 pk, .int .i64 pe] 40)) (.cells #[.slice none 0 0, .int .i64 0, .int .i64 0] 40)
    simpa using this
  · have := heap_alloc_new ((w.alloc (.cells #[.slice A rules.length cp, .int .i64 pk, .int .i64 pe] 40)).alloc (.cells #[.slice none 0 0, .int .i64 0, .int .i64 0] 40)) (.cells #[.slice none 0 0, .int .i64 pk, .int .i64 pe] 40)
    simpa using this
theorem OwnIn.boxc (h : OwnIn w wr A cp rules pk pe i) : wr.cell? ⟨w.heap.size, 0, none⟩ = some (.slice A rules.length cp) ∧ wr.cell? ⟨w.heap.size, 1, none⟩ = some (.int .i64 pk) ∧ wr.cell? ⟨w.heap.size, 2, none⟩ = some (.int .i64 pe) := by
  refine ⟨?_, ?_, ?_⟩ <;> (rw [cell_of_row _ _ _ _ _ _ h.box]; rfl)
/-- It stands wherever what is older than the round and the rows of conditions stand. -/
theorem OwnIn.kept {wr' : World} (h : OwnIn w wr A cp rules pk pe i) (hb : Below wr.heap.size wr wr') : OwnIn w wr' A cp rules pk pe i := by
  have hl := h.lt
  obtain ⟨AO, cO, xs, h1, h2, h3⟩ := h.out
  refine ⟨h.bel.trans (hb.mono (by omega)), (hb.block _ (by omega)).trans h.box, (hb.block _ (by omega)).trans h.res, AO, cO, xs, (hb.block _ (by omega)).trans h1, ?_, h3.kept (keptC_of_lt hb.block)⟩
  refine h2.kept ⟨hb.os, hb.tape, hb.output, hb.size, fun k hk _ => hb.block k hk⟩ (row := none) ?_
  cases hv : (Value.slice AO i cO).ownBlock <;> simp
end

theorem below_grown_none {B : Nat} {a w w' : World} (h : Below B a w) (hg : w.grownBy w' none) (hB : B ≤ w.heap.size) : Below B a w' := h.grown hg hB (fun k hk => by cases hk)
theorem below_grown_own {B : Nat} {a w w' : World} {e : TypeId} {s n : Nat} {v : Value} {xs : List Value} (h : Below B a w) (ho : w.ownsRow B e s v n xs) (hg : w.grownBy w' v.ownBlock) (hB : B ≤ w.heap.size) : Below B a w' := h.grown hg hB (fun k hk => (ho.lt k hk).1)
def markC : List Value := [.int .i64 0, .int .i64 77, .int .u64 0, .int .u64 0, .string ⟨#[]⟩, .int .u32 0, .int .i64 0, .int .i64 0, .int .i64 0]
theorem own_cap {w : World} {B g n cap : Nat} {e : TypeId} {s : Nat} {xs : List Value} (h : w.ownsRow B e s (.slice (some ⟨g, 0, none⟩) n cap) n xs) : (n : Int) ≤ (cap : Int) := by
  rcases h.2 with ⟨h0, _⟩ | ⟨g', cap', cur, hv, _, _, h1, _⟩
  · simp at h0
  · simp only [Value.slice.injEq, true_and] at hv
    omega
theorem step_append_mark {w : World} {ops : Array Oper} {o : Oper} {a : Act} {K : Act → World → Prop} {Q : Exit → Act → World → Prop} {E : Prop} (hgd : o.guard = none) (s x : Operand)
    (ho : o.op = .call { callee := .builtin .append, args := #[s, x], argTypes := #[82, 82] })
    (base bs : Nat) (A1 : Option Addr) (c1 : Nat) (l : List CondD) (hs : a.eval s = .slice A1 l.length c1) (hx : a.eval x = .slice (some ⟨bs, 0, none⟩) 1 1)
    (hown : w.ownsRow base 86 9 (.slice A1 l.length c1) l.length (flatC l))
    (hb : w.heap[bs]? = some (.cells #[.int .i64 0, .int .i64 77, .int .u64 0, .int .u64 0, .string ⟨#[]⟩, .int .u32 0, .int .i64 0, .int .i64 0, .int .i64 0] 86 (0, 0))) (hl : l.length ≤ 100) (hbase : base ≤ w.heap.size)
    (h : ∀ g cap w', w'.ownsRow base 86 9 (.slice (some ⟨g, 0, none⟩) (l.length + 1) cap) (l.length + 1) (flatC l ++ markC) → Below base w w' → K (a.put o.dst (.slice (some ⟨g, 0, none⟩) (l.length + 1) cap)) w') :
    if Region.wanted o (yielded ops a.tmps) = true then Oper.wp Tryd.prog o a w K Q else E := by
  obtain ⟨z, hinf, hz2⟩ := condInfo
  obtain ⟨i0, hi, hz0, hz1, hz3⟩ := info_parts hinf
  refine step_append_lies w hgd s x _ ho base 86 i0 z 9 80 Tryd.underlying82 hi hz0 hz1 hz3 hz2 (by omega) (.slice A1 l.length c1) l.length (flatC l) hs hown ⟨bs, 0, none⟩ 1 1 markC hx rfl (World.news_of_block hb) (by simp [markC, Value.oneCell']) (by omega) (by unfold maxLen; omega) (by omega) hbase _ rfl ?_
  intro g cap w' h2 h3 _ _
  exact h g cap w' h2 (below_grown_own (Below.refl _ _) hown h3 hbase)
theorem OwnIn.next {w W7 w3 : World} {A : Option Addr} {cp : Nat} {rules : List RuleD} {pk pe : Int} {i : Nat} {R : RuleD} {AO : Option Addr} {cO : Nat} {xs : List Value} {Ac : Option Addr} {cc g cap : Nat} {o : Obj}
    (hI : OwnIn w W7 A cp rules pk pe i) (h1 : W7.heap[w.heap.size + 1 + 1]? = some (.cells #[.slice AO i cO, .int .i64 pk, .int .i64 pe] 40 (0, 0)))
    (h2 : W7.ownsRow (w.heap.size + 1 + 1 + 1) 84 4 (.slice AO i cO) i xs) (h3 : RulesOwn W7 (rules.take i) xs)
    (hT : rules.take (i + 1) = rules.take i ++ [R]) (hlt : i < rules.length) (hC : CondsOwn W7 (.slice Ac R.conds.length cc) R.conds)
    (hg : (W7.alloc o).grownBy w3 (Value.slice AO i cO).ownBlock) (h4 : w3.ownsRow (w.heap.size + 1 + 1 + 1) 84 4 (.slice (some ⟨g, 0, none⟩) (i + 1) cap) (i + 1) (xs ++ ruleV R Ac cc)) :
    OwnIn w (w3.setCell ⟨w.heap.size + 1 + 1, 0, none⟩ (.slice (some ⟨g, 0, none⟩) (i + 1) cap)) A cp rules pk pe (i + 1) := by
  have hl := hI.lt
  have hold : ∀ k, k < w.heap.size + 1 + 1 + 1 → w3.heap[k]? = W7.heap[k]? := fun k hk => (hg.block k (by simp; omega) (fun e => by have := (h2.lt k e.symm).1; omega)).trans (heap_alloc_old W7 o (by omega))
  have ho := (hold (w.heap.size + 1 + 1) (by omega)).trans h1
  have hset : ∀ k, k ≠ w.heap.size + 1 + 1 → (w3.setCell ⟨w.heap.size + 1 + 1, 0, none⟩ (.slice (some ⟨g, 0, none⟩) (i + 1) cap)).heap[k]? = w3.heap[k]? := fun k hk => heap_setCell_other w3 _ k _ (by simpa using hk)
  refine ⟨?_, (hset _ (by omega)).trans ((hold _ (by omega)).trans hI.box), (hset _ (by omega)).trans ((hold _ (by omega)).trans hI.res), some ⟨g, 0, none⟩, cap, xs ++ ruleV R Ac cc, ?_, own_set h4, ?_⟩
  · refine Below.setCell ?_ (by simp; omega) _
    exact ((hI.bel.alloc hI.bel.size o)).grown hg (by have := hI.bel.size; simp; omega) (fun k hk => by have := (h2.lt k hk).1; omega)
  · have := heap_setCell_same w3 (w.heap.size + 1 + 1) 0 _ _ (.slice (some ⟨g, 0, none⟩) (i + 1) cap) ho; simpa using this
  · rw [hT]
    refine RulesOwn.kept ?_ (keptC_set ho (by decide))
    exact RulesOwn.snoc (h3.kept (keptC_grown h2 hg)) (by rw [h2.1, List.length_take]; omega) (hC.kept (keptC_grown h2 hg))
/-- A policy whose rows are its own, behind B. -/
def OwnsPol (w : World) (B : Nat) (u : Value) (p : PolD) : Prop :=
  ∃ (A : Option Addr) (c : Nat) (xs : List Value), u = .agg #[.slice A p.rules.length c, .int .i64 p.kind, .int .i64 p.errno] ∧ w.ownsRow B 84 4 (.slice A p.rules.length c) p.rules.length xs ∧ RulesOwn w p.rules xs
theorem OwnsPol.polAt {w : World} {B : Nat} {u : Value} {p : PolD} (h : OwnsPol w B u p) : PolAt w w.heap.size u p := by
  obtain ⟨A, c, xs, rfl, h1, h2⟩ := h
  exact ⟨A, c, rfl, rulesSl_own h1 h2⟩
theorem OwnIn.owns {w wr wr' : World} {rules : List RuleD} {pk pe : Int} {AO : Option Addr} {cO : Nat} {xs : List Value}
    (h2 : wr.ownsRow (w.heap.size + 1 + 1 + 1) 84 4 (.slice AO rules.length cO) rules.length xs) (h3 : RulesOwn wr (rules.take rules.length) xs)
    (hk : ∀ k, k ≠ w.heap.size + 1 → wr'.heap[k]? = wr.heap[k]?) (hc : KeptC wr wr') : OwnsPol wr' w.heap.size (.agg #[.slice AO rules.length cO, .int .i64 pk, .int .i64 pe]) ⟨rules, pk, pe⟩ := by
  rw [List.take_length] at h3
  refine ⟨AO, cO, xs, rfl, ⟨h2.1, ?_⟩, h3.kept hc⟩
  rcases h2.2 with h | ⟨g, cap, cur, hv, hb, hg, h⟩
  · exact Or.inl h
  · exact Or.inr ⟨g, cap, cur, hv, by omega, (hk g (by omega)).trans hg, h⟩
theorem OwnIn.polAt {w wr wr' : World} {rules : List RuleD} {pk pe : Int} {AO : Option Addr} {cO : Nat} {xs : List Value}
    (h2 : wr.ownsRow (w.heap.size + 1 + 1 + 1) 84 4 (.slice AO rules.length cO) rules.length xs) (h3 : RulesOwn wr (rules.take rules.length) xs)
    (hk : ∀ k, k ≠ w.heap.size + 1 → wr'.heap[k]? = wr.heap[k]?) (hc : KeptC wr wr') : PolAt wr' wr'.heap.size (.agg #[.slice AO rules.length cO, .int .i64 pk, .int .i64 pe]) ⟨rules, pk, pe⟩ := by
  refine ⟨AO, cO, rfl, ?_⟩
  rw [List.take_length] at h3
  refine rulesSl_own (base := w.heap.size + 1 + 1 + 1) (xs := xs) ⟨h2.1, ?_⟩ (h3.kept hc)
  rcases h2.2 with h | ⟨g, cap, cur, hv, hb, hg, h⟩
  · exact Or.inl h
  · exact Or.inr ⟨g, cap, cur, hv, hb, (hk g (by omega)).trans hg, h⟩

set_option linter.unusedSimpArgs false in
set_option maxRecDepth 100000 in
set_option maxHeartbeats 8000000 in
theorem own_any_o (v : Value) (p : PolD) (w : World) (h : PolAt w w.heap.size v p) (hl : lightP p = true) :
    Calls Tryd.prog 19 #[v] w fun e w' => ∃ u, e = .returned u ∧ OwnsPol w' w.heap.size u p ∧ Below w.heap.size w w' := by
  obtain ⟨A, cp, rfl, hr⟩ := h
  obtain ⟨A1, cp1, hA, hr⟩ := hr
  obtain ⟨rfl, rfl⟩ : A = A1 ∧ cp = cp1 := by simpa using hA
  clear hA
  obtain ⟨hl1, hl2⟩ := (lightP_iff p).1 hl
  obtain ⟨rules, pk, pe⟩ := p
  simp only at hr hl1 hl2 ⊢
  have HR := Lib.hid hr
  have HLI : Hid (∀ r ∈ rules, r.conds.length ≤ 6) := fun r hr => (hl2 r hr).1
  clear hr hl hl2
  have HO0 := Lib.hid (own_start w A cp rules pk pe)
  go_enter Tryd.func19, Tryd.ntmps19
  go_upto_region 2 with fail
  generalize ((w.alloc (.cells #[.slice A rules.length cp, .int .i64 pk, .int .i64 pe] 40)).alloc (.cells #[.slice none 0 0, .int .i64 0, .int .i64 0] 40)).alloc (.cells #[.slice none 0 0, .int .i64 pk, .int .i64 pe] 40) = W0 at *
  go_wp2_with fail
  go_loopw [4] (fun iv wr => ∃ i : Nat, i ≤ rules.length ∧ iv = .int .i64 i ∧ Hid (OwnIn w wr A cp rules pk pe i)) (fun iv _ => rules.length - (intOf iv).toNat)
  case atStart => exact ⟨0, Nat.zero_le _, rfl, HO0⟩
  case round =>
    obtain ⟨i, hi, rfl, HI⟩ := hrel
    by_cases hlt : i < rules.length
    · have x2 : (i : Int) < (rules.length : Int) := by omega
      have x3 : (0 : Int) ≤ (i : Int) := by omega
      obtain ⟨q0, q1, q2⟩ := HI.out.boxc
      have hli : rules[i]? = some rules[i] := by simp
      have HTK : Hid (rules.take (i + 1) = rules.take i ++ [rules[i]]) := by show _ = _; simp
      have HRL := Lib.hid (HLI.out rules[i] (by simp))
      obtain ⟨b, o, rfl, hb, hrow⟩ := HR.out.resolve_left (by intro e; rw [e] at hlt; simp at hlt)
      obtain ⟨A', c', hcs, hrg⟩ := hrow i _ hli
      have hrg2 := rangeAt_below hrg HI.out.bel hb
      have hcs2 := hcs.below HI.out.bel (Nat.le_refl _)
      clear hrg hcs hrow hli
      generalize rules[i] = R at *
      obtain ⟨nr, conds, rk, re⟩ := R
      simp only at hrg2 hcs2 HRL
      have f0 : wr.cell? ⟨b, o + i * 4, none⟩ = some (.int .i64 nr) := hrg2 0 _ rfl
      have f1 := hrg2 1 _ rfl
      have f2 := hrg2 2 _ rfl
      have f3 := hrg2 3 _ rfl
      clear hrg2
      have HCS := Lib.hid hcs2
      have hbs := HI.out.bel.size
      have HI5 : Hid (OwnIn w (wr.alloc (.cells #[.int .i64 nr, .slice A' conds.length c', .int .i64 rk, .int .i64 re] 84)) (some ⟨b, o, none⟩) cp rules pk pe i) := HI.out.kept ((Below.refl _ _).alloc (Nat.le_refl _) _)
      have HW5 : Hid ((wr.alloc (.cells #[.int .i64 nr, .slice A' conds.length c', .int .i64 rk, .int .i64 re] 84)).heap[wr.heap.size]? = some (.cells #[.int .i64 nr, .slice A' conds.length c', .int .i64 rk, .int .i64 re] 84 (0, 0))) := heap_alloc_new _ _
      have hs5 : wr.heap.size < (wr.alloc (.cells #[.int .i64 nr, .slice A' conds.length c', .int .i64 rk, .int .i64 re] 84)).heap.size := by simp
      have HCS5 : Hid (CondsSl (wr.alloc (.cells #[.int .i64 nr, .slice A' conds.length c', .int .i64 rk, .int .i64 re] 84)) w.heap.size (.slice A' conds.length c') conds) := hcs2.below ((Below.refl wr.heap.size _).alloc (Nat.le_refl _) _) hbs
      clear hcs2 HCS
      have HB5 : Hid (Below wr.heap.size wr (wr.alloc (.cells #[.int .i64 nr, .slice A' conds.length c', .int .i64 rk, .int .i64 re] 84))) := (Below.refl _ _).alloc (Nat.le_refl _) _
      go_upto_region 6 with fail
      clear f0 f1 f2 f3 q0 q1 q2
      generalize wr.alloc (.cells #[.int .i64 nr, .slice A' conds.length c', .int .i64 rk, .int .i64 re] 84) = W5 at *
      have HKC : Hid (∀ W, Below W5.heap.size W5 W → W.cell? ⟨wr.heap.size, 1, none⟩ = some (.slice A' conds.length c') ∧ W.frozen? ⟨wr.heap.size, 1, none⟩ = false) := fun W hb => by
        have h1 := (hb.block _ hs5).trans HW5.out
        exact ⟨(cell_of_row _ _ _ _ _ _ h1).trans rfl, frozen_of_row _ _ _ _ _ h1⟩
      have HCW : Hid (∀ W, Below W5.heap.size W5 W → CondsSl W w.heap.size (.slice A' conds.length c') conds) := fun W hb => HCS5.out.below hb (by omega)
      have HD : Hid (Below W5.heap.size W5 W5.drew) := (Below.refl _ _).drew
      obtain ⟨k1, k2⟩ := HKC.out _ HD.out
      obtain ⟨k9, k10⟩ := HKC.out _ (Below.refl _ _)
      have k8 : ∀ o, (W5.drew.alloc o).cell? ⟨wr.heap.size, 1, none⟩ = some (.slice A' conds.length c') := fun o => (HKC.out _ (HD.out.alloc (Nat.le_refl _) o)).1
      go_region_law (first
        | (refine step_append_conds rfl (.const (.slice none 0 0)) (.tmp 22) rfl W5.heap.size w.heap.size A' c' conds (by first | (simp [Act.eval, Act.put]; done) | fail) (by first | (simp [Act.eval, Act.put]; done) | fail) (by first | exact HCW.out _ HD.out | exact HCW.out _ (HD.out.alloc (Nat.le_refl _) _)) (by have := HRL.out; omega) (by first | exact Nat.le_refl _ | (simp; done) | (simp; omega)) ?_; intro A1 c1 W1 hown1 hgrow1; have HB1 : Hid (Below W5.heap.size W5 W1) := (by first | exact below_grown_none HD.out hgrow1 (Nat.le_refl _) | exact below_grown_none (HD.out.alloc (Nat.le_refl _) _) hgrow1 (by simp)); obtain ⟨k3, k4⟩ := HKC.out _ HB1.out; have k7 : ∀ o, (W1.alloc o).cell? ⟨wr.heap.size, 1, none⟩ = some (.slice A' conds.length c') := fun o => (HKC.out _ (HB1.out.alloc HB1.out.size o)).1)
        | (refine step_append_mark rfl (.tmp 23) (.tmp 25) rfl W5.heap.size W1.heap.size A1 c1 conds (by first | (simp [Act.eval, Act.put]; done) | fail) (by first | (simp [Act.eval, Act.put]; done) | fail) (hown1.alloc _) (heap_alloc_new _ _) (by have := HRL.out; omega) (by have := HB1.out.size; simp; omega) ?_; intro g cap W2 hown2 hb2; have HB2 : Hid (Below W5.heap.size W5 W2) := (HB1.out.alloc HB1.out.size _).trans hb2; obtain ⟨k5, k6⟩ := HKC.out _ HB2.out; have hcap : conds.length ≤ cap := (by have := own_cap hown2; omega))
        | (refine step_append_mark rfl (.tmp 23) (.tmp 25) rfl W5.heap.size W5.heap.size A1 c1 conds (by first | (simp [Act.eval, Act.put]; done) | fail) (by first | (simp [Act.eval, Act.put]; done) | fail) hown1 ((hgrow1.block _ (by simp) (by simp)).trans (heap_alloc_new _ _)) (by have := HRL.out; omega) HB1.out.size ?_; intro g cap W2 hown2 hb2; have HB2 : Hid (Below W5.heap.size W5 W2) := HB1.out.trans hb2; obtain ⟨k5, k6⟩ := HKC.out _ HB2.out; have hcap : conds.length ≤ cap := (by have := own_cap hown2; omega)))
      all_goals
        have hw2 := (HB2.out.block _ hs5).trans HW5.out
        have hc2 := condsOwn_of HCS5.out.1 hown2
        have H7 : Hid ((W2.setCell ⟨wr.heap.size, 1, none⟩ (.slice (some ⟨g, 0, none⟩) conds.length cap)).heap[wr.heap.size]? = some (.cells #[.int .i64 nr, .slice (some ⟨g, 0, none⟩) conds.length cap, .int .i64 rk, .int .i64 re] 84 (0, 0))) := by
          have := heap_setCell_same W2 wr.heap.size 1 _ _ (.slice (some ⟨g, 0, none⟩) conds.length cap) hw2
          show _ = _
          simpa using this
        have HC7 : Hid (CondsOwn (W2.setCell ⟨wr.heap.size, 1, none⟩ (.slice (some ⟨g, 0, none⟩) conds.length cap)) (.slice (some ⟨g, 0, none⟩) conds.length cap) conds) := hc2.kept (keptC_set hw2 (by decide))
        have HI7 : Hid (OwnIn w (W2.setCell ⟨wr.heap.size, 1, none⟩ (.slice (some ⟨g, 0, none⟩) conds.length cap)) _ cp rules pk pe i) := HI.out.kept ((HB5.out.trans (HB2.out.mono HB5.out.size)).setCell (Nat.le_refl _) _)
        clear hw2 hc2 hown2 hb2 k5 k6
        generalize W2.setCell ⟨wr.heap.size, 1, none⟩ (.slice (some ⟨g, 0, none⟩) conds.length cap) = W7 at *
        obtain ⟨AO, cO, xs, h1, h2, h3⟩ := HI7.out.out
        have H1 := Lib.hid h1
        have H2 := Lib.hid h2
        have H3 := Lib.hid h3
        have hl7 := HI7.out.lt
        have m0 : W7.cell? ⟨w.heap.size + 1 + 1, 0, none⟩ = some (.slice AO i cO) := (cell_of_row _ _ _ _ _ _ h1).trans rfl
        have r0 : W7.cell? ⟨wr.heap.size, 0, none⟩ = some (.int .i64 nr) := (cell_of_row _ _ _ _ _ _ H7.out).trans rfl
        have r1 : W7.cell? ⟨wr.heap.size, 1, none⟩ = some (.slice (some ⟨g, 0, none⟩) conds.length cap) := (cell_of_row _ _ _ _ _ _ H7.out).trans rfl
        have r2 : W7.cell? ⟨wr.heap.size, 2, none⟩ = some (.int .i64 rk) := (cell_of_row _ _ _ _ _ _ H7.out).trans rfl
        have r3 : W7.cell? ⟨wr.heap.size, 3, none⟩ = some (.int .i64 re) := (cell_of_row _ _ _ _ _ _ H7.out).trans rfl
        have HMB : Hid (∀ o w1, (W7.alloc o).grownBy w1 (Value.slice AO i cO).ownBlock → w1.cell? ⟨w.heap.size + 1 + 1, 0, none⟩ = some (.slice AO i cO) ∧ w1.frozen? ⟨w.heap.size + 1 + 1, 0, none⟩ = false) := fun o w1 hg => by
          have hq := (hg.block _ (by simp; omega) (fun e => by have := (h2.lt _ e.symm).1; omega)).trans ((heap_alloc_old W7 o (by omega)).trans h1)
          exact ⟨(cell_of_row _ _ _ _ _ _ hq).trans rfl, frozen_of_row _ _ _ _ _ hq⟩
        clear h1 h2 h3
        obtain ⟨z, hinf, hz2⟩ := ruleInfo
        obtain ⟨i0, hi0, hz0, hz1, hz3⟩ := info_parts hinf
        go_wp2_with (at_builtin; refine wpList_append_lies _ rfl _ _ _ rfl (w.heap.size + 1 + 1 + 1) 84 i0 z 4 48 Tryd.underlying36 hi0 hz0 hz1 hz3 hz2 (by omega) (.slice AO i cO) i xs rfl (H2.out.alloc _) ⟨W7.heap.size, 0, none⟩ 1 1 [.int .i64 nr, .slice (some ⟨g, 0, none⟩) conds.length cap, .int .i64 rk, .int .i64 re] rfl rfl (rule_cell4 _ _ _ _ _ _ _ (heap_alloc_new _ _)) (by simp [Value.oneCell']) (by omega) (by unfold maxLen; omega) (by omega) (by simp; omega) _ rfl ?_; intro g2 cap2 w3 hown3 hgrow3 _ _; obtain ⟨fc, fz⟩ := HMB.out _ _ hgrow3; have HN := Lib.hid (HI7.out.next (R := ⟨nr, conds, rk, re⟩) H1.out H2.out H3.out HTK.out hlt HC7.out hgrow3 hown3); clear hown3 hgrow3)
        go_roundw
        case rel => exact ⟨i + 1, by omega, by go_num, HN⟩
        case measure => simp [intOf]; omega
    · obtain rfl : i = rules.length := by omega
      obtain ⟨q0, q1, q2⟩ := HI.out.boxc
      obtain ⟨AO, cO, xs, h1, h2, h3⟩ := HI.out.out
      have m0 : wr.cell? ⟨w.heap.size + 1 + 1, 0, none⟩ = some (.slice AO rules.length cO) := (cell_of_row _ _ _ _ _ _ h1).trans rfl
      have m1 : wr.cell? ⟨w.heap.size + 1 + 1, 1, none⟩ = some (.int .i64 pk) := (cell_of_row _ _ _ _ _ _ h1).trans rfl
      have m2 : wr.cell? ⟨w.heap.size + 1 + 1, 2, none⟩ = some (.int .i64 pe) := (cell_of_row _ _ _ _ _ _ h1).trans rfl
      have n0 : wr.cell? ⟨w.heap.size + 1, 0, none⟩ = some (.slice none 0 0) := (cell_of_row _ _ _ _ _ _ HI.out.res).trans rfl
      have n1 : wr.cell? ⟨w.heap.size + 1, 1, none⟩ = some (.int .i64 0) := (cell_of_row _ _ _ _ _ _ HI.out.res).trans rfl
      have n2 : wr.cell? ⟨w.heap.size + 1, 2, none⟩ = some (.int .i64 0) := (cell_of_row _ _ _ _ _ _ HI.out.res).trans rfl
      have fz0 : wr.frozen? ⟨w.heap.size + 1, 0, none⟩ = false := frozen_of_row _ _ _ _ _ HI.out.res
      have fz1 : wr.frozen? ⟨w.heap.size + 1, 1, none⟩ = false := frozen_of_row _ _ _ _ _ HI.out.res
      have fz2 : wr.frozen? ⟨w.heap.size + 1, 2, none⟩ = false := frozen_of_row _ _ _ _ _ HI.out.res
      have e1 : (wr.setCell ⟨w.heap.size + 1, 0, none⟩ (.slice AO rules.length cO)).heap[w.heap.size + 1]? = some (.cells #[.slice AO rules.length cO, .int .i64 0, .int .i64 0] 40 (0, 0)) := by
        have := heap_setCell_same wr (w.heap.size + 1) 0 _ _ (.slice AO rules.length cO) HI.out.res; simpa using this
      have e2 : ((wr.setCell ⟨w.heap.size + 1, 0, none⟩ (.slice AO rules.length cO)).setCell ⟨w.heap.size + 1, 1, none⟩ (.int .i64 pk)).heap[w.heap.size + 1]? = some (.cells #[.slice AO rules.length cO, .int .i64 pk, .int .i64 0] 40 (0, 0)) := by
        have := heap_setCell_same _ (w.heap.size + 1) 1 _ _ (.int .i64 pk) e1; simpa using this
      have e3 : (((wr.setCell ⟨w.heap.size + 1, 0, none⟩ (.slice AO rules.length cO)).setCell ⟨w.heap.size + 1, 1, none⟩ (.int .i64 pk)).setCell ⟨w.heap.size + 1, 2, none⟩ (.int .i64 pe)).heap[w.heap.size + 1]? = some (.cells #[.slice AO rules.length cO, .int .i64 pk, .int .i64 pe] 40 (0, 0)) := by
        have := heap_setCell_same _ (w.heap.size + 1) 2 _ _ (.int .i64 pe) e2; simpa using this
      have y0 : (wr.setCell ⟨w.heap.size + 1, 0, none⟩ (.slice AO rules.length cO)).cell? ⟨w.heap.size + 1, 0, none⟩ = some (.slice AO rules.length cO) := (cell_of_row _ _ _ _ _ _ e1).trans rfl
      have y1 : ((wr.setCell ⟨w.heap.size + 1, 0, none⟩ (.slice AO rules.length cO)).setCell ⟨w.heap.size + 1, 1, none⟩ (.int .i64 pk)).cell? ⟨w.heap.size + 1, 1, none⟩ = some (.int .i64 pk) := (cell_of_row _ _ _ _ _ _ e2).trans rfl
      have y2 : (((wr.setCell ⟨w.heap.size + 1, 0, none⟩ (.slice AO rules.length cO)).setCell ⟨w.heap.size + 1, 1, none⟩ (.int .i64 pk)).setCell ⟨w.heap.size + 1, 2, none⟩ (.int .i64 pe)).cell? ⟨w.heap.size + 1, 2, none⟩ = some (.int .i64 pe) := (cell_of_row _ _ _ _ _ _ e3).trans rfl
      have HE : Hid (OwnsPol (((wr.setCell ⟨w.heap.size + 1, 0, none⟩ (.slice AO rules.length cO)).setCell ⟨w.heap.size + 1, 1, none⟩ (.int .i64 pk)).setCell ⟨w.heap.size + 1, 2, none⟩ (.int .i64 pe)) w.heap.size (.agg #[.slice AO rules.length cO, .int .i64 pk, .int .i64 pe]) ⟨rules, pk, pe⟩) :=
        OwnIn.owns h2 h3 (fun k hk => by rw [heap_setCell_other _ _ _ _ (by simpa using hk), heap_setCell_other _ _ _ _ (by simpa using hk), heap_setCell_other _ _ _ _ (by simpa using hk)]) (((keptC_set HI.out.res (by decide)).trans (keptC_set e1 (by decide))).trans (keptC_set e2 (by decide)))
      have HEB : Hid (Below w.heap.size w (((wr.setCell ⟨w.heap.size + 1, 0, none⟩ (.slice AO rules.length cO)).setCell ⟨w.heap.size + 1, 1, none⟩ (.int .i64 pk)).setCell ⟨w.heap.size + 1, 2, none⟩ (.int .i64 pe))) := ((HI.out.bel.setCell (by simp) _).setCell (by simp) _).setCell (by simp) _
      clear h1 h2 h3 e1 e2 e3
      go_wp2_with fail
      try simp only [Exit.inBlock, Exit.then]
      refine bodyPost_ret (by simp [results, Tryd.results19, go_sem, y0, y1, y2]; try rfl) rfl ?_
      exact ⟨_, rfl, HE.out, HEB.out⟩
theorem own_any (v : Value) (p : PolD) (w : World) (h : PolAt w w.heap.size v p) (hl : lightP p = true) :
    Calls Tryd.prog 19 #[v] w fun e w' => ∃ u, e = .returned u ∧ PolAt w' w'.heap.size u p ∧ Below w.heap.size w w' :=
  (own_any_o v p w h hl).mono fun _ _ ⟨u, h1, h2, h3⟩ => ⟨u, h1, h2.polAt, h3⟩

end Go.Proofs.YtmgngapkgcofnabDoor
