/- Regions that draw their order, walked by a plan: an order in which every operation that only yields a value comes as soon as it may, and the others stand alone when they come. -/
import Derived.Deep.RegionHeld3
import Derived.Deep.MidRow
import Derived.WalkKit
import Derived.KernelRfl
namespace Go.Proofs.YtmgngapkgcofnabDoor

section
variable {P : Program} {ops : Array Oper} {Q : Exit → Act → World → Prop} {md : Region.Mode} {S : World → Prop}

/-- What is left of a plan: (i, true): operation i yields its value in every world that meets S; (i, false): it is carried out, and S is shown anew. -/
def wpPlan (P : Program) (ops : Array Oper) (Q : Exit → Act → World → Prop) (S : World → Prop) : List (Nat × Bool) → Act → World → Prop
  | [], a, w => Q .normal a w
  | (i, true) :: r, a, w => ∃ o v, ops[i]? = some o ∧ YieldsIf P ops S o v a ∧ wpPlan P ops Q S r (a.put o.dst v) w
  | (i, false) :: r, a, w => wpOp P ops Q i (fun a' w' => S w' ∧ wpPlan P ops Q S r a' w') a w
def planOk (md : Region.Mode) (ops : Array Oper) : List (Nat × Bool) → Array Bool → Bool
  | [], listed => (Region.ready md ops listed).isEmpty
  | (i, true) :: r, listed => Region.free md ops listed i && (Region.ready md ops listed).contains i && planOk md ops r (listed.setIfInBounds i true)
  | (i, false) :: r, listed => (Region.ready md ops listed == [i]) && planOk md ops r (listed.setIfInBounds i true)
theorem wpAnyH_of_plan (hs : Region.noSelect ops = true) (hQ : ∀ c (a : Act) d v w, Q (.panic c) (a.put d v) w → Q (.panic c) a w) :
    ∀ (plan : List (Nat × Bool)) (listed : Array Bool) (a : Act) (w : World), planOk md ops plan listed = true → S w → wpPlan P ops Q S plan a w → wpAnyH P md ops Q S plan.length listed a w := by
  intro plan
  induction plan with
  | nil => intro listed a w h hS hp; exact ⟨by simpa [planOk] using h, hp⟩
  | cons x r ih =>
    obtain ⟨i, b⟩ := x
    intro listed a w h hS hp
    cases b with
    | true =>
      simp only [planOk, Bool.and_eq_true] at h
      obtain ⟨o, v, ho, hy, hp⟩ := hp
      exact wpAnyH_take ho hs h.1.1 h.1.2 (fun c a w => hQ c a _ _ w) hy hS (ih _ _ _ h.2 hS hp)
    | false =>
      simp only [planOk, Bool.and_eq_true, beq_iff_eq] at h
      refine wpAnyH_all (rs := [i]) h.1 (by simp) ?_
      intro j hj
      obtain rfl : j = i := by simpa using hj
      exact wpOp_mono (fun a' w' ⟨h1, h2⟩ => ⟨h1, ih _ _ _ h.2 h1 h2⟩) hp
/-- The beginning. -/
theorem wp_region_plan {id : Nat} {a : Act} {w : World} (S : World → Prop) (plan : List (Nat × Bool)) (hm : P.follows .mixedOrders = true) (hs : Region.noSelect ops = true)
    (hp : (plan.length == ops.size && planOk .any ops plan (Array.replicate ops.size false)) = true) (hS : S w.drew)
    (h : S w.drew → wpPlan P ops (NoPanic Q) S plan a w.drew) : (Code.region id ops true).wp P Q a w := by
  simp only [Bool.and_eq_true, beq_iff_eq] at hp
  refine wp_region_noPanic (wp_region_held_drew (S := S) hm hS (fun _ => ?_))
  have h2 := wpAnyH_of_plan hs (Q := NoPanic Q) (fun _ _ _ _ _ h => h) plan (Array.replicate ops.size false) a _ hp.2 hS (h hS)
  rw [hp.1] at h2
  exact h2
theorem plan_take {i : Nat} {r : List (Nat × Bool)} {a : Act} {w : World} (o : Oper) (v : Value) (ho : ops[i]? = some o) (hw : Region.wanted o (yielded ops a.tmps) = true)
    (hy : ∀ w, S w → (execOp a.eval o).run P w = .ok (.value v) w) (h : wpPlan P ops Q S r (a.put o.dst v) w) : wpPlan P ops Q S ((i, true) :: r) a w :=
  ⟨o, v, ho, .inl ⟨hw, hy⟩, h⟩
/-- A value moved or assigned. -/
theorem plan_move {i : Nat} {r : List (Nat × Bool)} {a : Act} {w : World} (o : Oper) (x : Operand) (v : Value) (ho : ops[i]? = some o) (hx : o.op = .move x ∨ o.op = .assign x) (hw : Region.wanted o (yielded ops a.tmps) = true)
    (he : a.eval x = v) (h : wpPlan P ops Q S r (a.put o.dst v) w) : wpPlan P ops Q S ((i, true) :: r) a w :=
  ⟨o, v, ho, .inl ⟨hw, fun w _ => by subst he; unfold execOp; rcases hx with hx | hx <;> rw [hx] <;> rfl⟩, h⟩
theorem plan_do {i : Nat} {r : List (Nat × Bool)} {a : Act} {w : World} (o : Oper) (ho : ops[i]? = some o) (hw : Region.wanted o (yielded ops a.tmps) = true)
    (h : ∀ K : Act → World → Prop, Shut (∀ a' w', S w' → (S w' → wpPlan P ops Q S r a' w') → K a' w') → o.wp P a w K Q) : wpPlan P ops Q S ((i, false) :: r) a w := by
  show wpOp P ops Q i _ a w
  unfold wpOp
  simp only [ho, hw, if_true]
  exact .inl (h _ (fun a' w' h1 h2 => ⟨h1, h2 h1⟩))
theorem plan_done {a : Act} {w : World} (h : Q .normal a w) : wpPlan P ops (NoPanic Q) S [] a w := NoPanic.normal h

/-- A load of a whole row. -/
theorem plan_load {i : Nat} {r : List (Nat × Bool)} {a : Act} {w : World} (o : Oper) (ty : TypeId) (x : Operand) (ho : ops[i]? = some o) (hx : o.op = .load ty x) (hw : Region.wanted o (yielded ops a.tmps) = true)
    (b k : Nat) (he : a.eval x = .pointer (some ⟨b, k, none⟩)) (cs : List Value) (d : TypeDesc) (hS : ∀ w, S w → w.rangeAt b k cs)
    (hu : P.underlying ty = some d) (hd : d.isRow = true) (hi : (P.info? ty).map (·.size) = some cs.length)
    (h : wpPlan P ops Q S r (a.put o.dst (.agg cs.toArray)) w) : wpPlan P ops Q S ((i, true) :: r) a w :=
  ⟨o, _, ho, yieldsIf_load_mid hw ty x hx b k he cs d hS hu hd hi, h⟩
/-- A store of a whole row. -/
theorem plan_store {i : Nat} {r : List (Nat × Bool)} {a : Act} {w : World} (o : Oper) (ty : TypeId) (x y : Operand) (ho : ops[i]? = some o) (hx : o.op = .store ty x y) (hdst : o.dst = none) (hw : Region.wanted o (yielded ops a.tmps) = true)
    (b k : Nat) (he : a.eval x = .pointer (some ⟨b, k, none⟩)) (cs : List Value) (hy : a.eval y = .agg cs.toArray) (ht : w.there b k cs.length)
    (hi : (P.info? ty).map (·.size) = some cs.length) (h1 : ∀ v ∈ cs, v.oneCell' = true) (hS : S (w.setCells b k cs))
    (h : S (w.setCells b k cs) → wpPlan P ops Q S r a (w.setCells b k cs)) : wpPlan P ops Q S ((i, false) :: r) a w := by
  refine plan_do o ho hw (fun K hK => ?_)
  refine wp_store_mid ty x y hx b k cs.toArray he hy (by simpa using ht) (by simpa using hi) (all_oneCell_toArray h1) ?_
  rw [hdst]
  simp only [Act.put]
  exact hK.out _ _ hS h

/-- In a plain region: a value moved or assigned. -/
theorem list_move {rest : List Oper} {o : Oper} {a : Act} {w : World} (hg : o.guard = none) (x : Operand) (v : Value) (ho : o.op = .move x ∨ o.op = .assign x) (he : a.eval x = v) (d : Option Tmp) (hd : o.dst = d)
    (h : wpList P ops Q rest (a.put d v) w) : wpList P ops Q (o :: rest) a w := by
  subst he hd
  refine wpList_plain hg fun K hK => ?_
  unfold Oper.wp execOp
  rcases ho with ho | ho <;> rw [ho] <;> exact hK _ _ h

end
end Go.Proofs.YtmgngapkgcofnabDoor
