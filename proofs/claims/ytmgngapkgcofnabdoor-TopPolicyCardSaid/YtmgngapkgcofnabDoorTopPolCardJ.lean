/- lets: the closed fact. -/
import Derived.Test.YtmgngapkgcofnabDoorP49
import Derived.Test.YtmgngapkgcofnabDoorP40
import Derived.Test.YtmgngapkgcofnabDoorP21
import Derived.Test.YtmgngapkgcofnabDoorP50
import Derived.Test.YtmgngapkgcofnabDoorP42
import Derived.Test.YtmgngapkgcofnabDoorP45
import Derived.Test.YtmgngapkgcofnabDoorP44
import Derived.Test.YtmgngapkgcofnabDoorP51
import Derived.Test.YtmgngapkgcofnabDoorP47
import Derived.Test.YtmgngapkgcofnabDoorP16
import Derived.Test.YtmgngapkgcofnabDoorP52
import Derived.Test.YtmgngapkgcofnabDoorCards
import Derived.Test.YtmgngapkgcofnabDoorTie
import Derived.WalkKit
import Derived.ProofKit
import Derived.OpenShut
import Derived.Deep.DeepHandedRow
import Derived.Deep.DeepLaidRun
import Derived.Lib.LaidTab
import Derived.Stop.LaidErr
namespace Go.Proofs.YtmgngapkgcofnabDoor
open Go.RowKit Go.PlainAid

/-- What Parse answers, and where it lies. -/
theorem ParseA.at {s : ByteArray} {w : World} {e : Ending} {w' : World} (h : ParseA s w e w') : Below w.heap.size w w' ∧ ((8000 < s.size ∧ e = .returned (.tuple #[.agg zero3, .iface 64 (.int .i64 2)])) ∨ (s.size ≤ 8000 ∧ ReadP (bL s) none ∧ e = .returned (.tuple #[.agg zero3, .iface 64 (.int .i64 4)])) ∨
    (s.size ≤ 8000 ∧ ∃ (p : PolD) (A : Option Addr) (c : Nat), ReadP (bL s) (some p) ∧ e = .returned (.tuple #[.agg #[.slice A p.rules.length c, .int .i64 p.kind, .int .i64 p.errno], .nilIface]) ∧ PolAt w' w'.heap.size (.agg #[.slice A p.rules.length c, .int .i64 p.kind, .int .i64 p.errno]) p)) := by
  obtain ⟨h1, h2⟩ := h
  refine ⟨h1, h2.imp id (Or.imp id ?_)⟩
  rintro ⟨h3, p, A, c, xs, h4, h5, h6, h7⟩
  exact ⟨h3, p, A, c, h4, h5, A, c, rfl, rulesSl_own h6 h7.own⟩
/-- The closed fact's policy. -/
def letP : PolD := ⟨[⟨0, [⟨0, 3, 5, 0, ByteArray.empty, ⟨0, 0, 0, 0⟩⟩], 1, 0⟩], 3, 0⟩
def letS : ByteArray := ⟨#[101, 108, 115, 101, 32, 107, 105, 108, 108, 10, 97, 108, 108, 111, 119, 32, 114, 101, 97, 100, 32, 105, 102, 32, 48, 32, 60, 32, 53, 10]⟩
theorem letP_ok : PolOk letP := fun r hr c hc => by
  simp only [letP, List.mem_singleton] at hr
  subst hr
  simp only [List.mem_singleton] at hc
  subst hc
  exact ⟨wf_small (by decide) (by decide), wf_small (by decide) (by decide), by decide, by decide, by simp, net0_ok⟩
theorem letP_f : polF letP = 0 := by decide
theorem letP_t : bL letS = polT letP := by decide +kernel
theorem letP_read : ReadP (bL letS) (some letP) := ⟨letP_ok, letP_f, letP_t⟩
theorem lets_parse (HN : NumSaid) (w : World) (hG : Grd w) (htab : Lib.TabIs Tryd.prog w "internal/strconv.uint64pow10" .u64 Lib.pow10Tab) :
    Calls Tryd.prog 15 #[.string letS] w fun e w' => ∃ A c, e = .returned (.tuple #[.agg #[.slice A 1 c, .int .i64 3, .int .i64 0], .nilIface]) ∧ Hid (PolAt w' w'.heap.size (.agg #[.slice A 1 c, .int .i64 3, .int .i64 0]) letP) ∧ Below w.heap.size w w' :=
  (parse_any_pol HN letS w (by decide) hG htab).mono fun e w' h => by
    obtain ⟨h1, h2⟩ := h.at
    rcases h2 with ⟨h3, _⟩ | ⟨_, h3, _⟩ | ⟨_, p, A, c, h3, h4, h5⟩
    · exact absurd h3 (by decide)
    · cases ReadP.same h3 letP_read
    · cases ReadP.same h3 letP_read
      exact ⟨A, c, h4, h5, h1⟩
theorem lets_judge (a : Nat) (k : Int) (A : Option Addr) (c : Nat) (w : World) (hp : PolAt w w.heap.size (.agg #[.slice A 1 c, .int .i64 3, .int .i64 0]) letP) (hj : judgeF letP ⟨3221225534, 0, a, 0, 0, 0⟩ = (k, 0, 0)) :
    Calls Tryd.prog 16 #[.agg #[.slice A 1 c, .int .i64 3, .int .i64 0], .agg #[.int .u32 3221225534, .int .u32 0, .int .u64 (a : Int), .int .u64 0, .int .u64 0, .int .u64 0]] w fun e w' => e = .returned (.tuple #[.agg #[.int .i64 k, .int .i64 0, .int .i64 0], .nilIface]) ∧ Below w.heap.size w w' := by
  have := judge_any _ letP ⟨3221225534, 0, a, 0, 0, 0⟩ w hp (by decide) (by decide) (by decide)
  rw [hj, letP_f] at this
  exact this
end Go.Proofs.YtmgngapkgcofnabDoor
/- A policy and the shelf's tables in a later world. -/
namespace Go.Proofs.YtmgngapkgcofnabDoor
open Go.RowKit Go.PlainAid

theorem polAt_up {w w' : World} {v : Value} {p : PolD} (h : PolAt w w.heap.size v p) (hb : Below w.heap.size w w') : PolAt w' w'.heap.size v p := by
  obtain ⟨A, c, rfl, hr⟩ := h
  exact ⟨A, c, rfl, (hr.below hb (Nat.le_refl _)).mono hb.size⟩
/-- What the shelf reads stands in every world behind. -/
structure Shelf0 (w : World) : Prop where
  grd : Grd w
  tab : Lib.TabIs Tryd.prog w "internal/strconv.uint64pow10" .u64 Lib.pow10Tab
theorem Shelf0.up {w w' : World} (h : Shelf0 w) (hb : Below w.heap.size w w') : Shelf0 w' := ⟨h.grd.below hb (Nat.le_refl _), tab_below h.tab _ hb⟩
end Go.Proofs.YtmgngapkgcofnabDoor
/- A policy's text is short, and is read as it. -/
namespace Go.Proofs.YtmgngapkgcofnabDoor
open Go.RowKit

theorem textN_len2 {x : NetD} (hx : x.ok) (hf : netF x = 0) : (textN x).length ≤ 50 := by
  have h := parts_small hx hf
  have hd : ∀ k ∈ partsN x, (Lib.decDigits k).length ≤ 5 := fun k hk => by
    rw [Lib.decDigits_length]; exact nDigits_le5 (by have := h k hk; omega)
  have key : ∀ (cs : List UInt8) (ks : List Nat), (∀ k ∈ ks, (Lib.decDigits k).length ≤ 5) → (joinT cs ks).length ≤ 6 * cs.length + 5 := by
    intro cs
    induction cs with
    | nil =>
      intro ks hk
      rcases ks with _ | ⟨k, _ | ⟨k2, ks⟩⟩
      · simp [joinT]
      · simpa [joinT] using hk k (by simp)
      · simp [joinT]
    | cons c cs ih =>
      intro ks hk
      rcases ks with _ | ⟨k, ks⟩
      · simp [joinT]
      · have h1 := hk k (by simp)
        have h2 := ih ks (fun x hx => hk x (by simp [hx]))
        rw [joinT]
        simp only [List.length_append, List.length_cons]
        omega
  have h2 := key sepsN (partsN x) hd
  have h3 : sepsN.length = 6 := rfl
  unfold textN
  omega
theorem ctL_len2 {x : CondD} (h : CondSm x) : (ctL x).length ≤ 120 := by
  obtain ⟨⟨ha, ho, hv, hm, _, _, _, _, hn⟩, hg⟩ := h
  have d1 := dec_len20 x.arg.toNat (by omega)
  have d2 := dec_len20 x.m.toNat (by omega)
  have d3 := dec_len20 x.v.toNat (by omega)
  have d4 : (signW x.op.toNat).length ≤ 2 := by unfold signW; split <;> decide
  unfold ctL condW
  split
  · simp only [joinW, List.length_append, List.length_cons, wMask, wEq, List.length_nil]; omega
  · split
    · have := hg (by assumption)
      have e : x.glob.data.toList.length = x.glob.size := by simp
      simp only [joinW, List.length_append, List.length_cons, wLike, quoteW, List.length_nil]; omega
    · split
      · obtain ⟨h1, h2⟩ := hn (by assumption)
        have := textN_len2 h1 h2
        simp only [joinW, List.length_append, List.length_cons, wIn, List.length_nil]; omega
      · simp only [joinW, List.length_append, List.length_cons]; omega
theorem condsT_len2 : ∀ (cs : List CondD) (k : Nat), (∀ x ∈ cs, CondSm x) → (condsT k cs).length ≤ 125 * cs.length
  | [], _, _ => by simp [condsT]
  | x :: r, k, h => by
    have ih := condsT_len2 r (k + 1) (fun y hy => h y (by simp [hy]))
    have h1 := ctL_len2 (h x (by simp))
    rw [condsT]
    simp only [List.length_append, List.length_cons]
    have : (if k = 0 then [32, 105, 102, 32] else [32, 97, 110, 100, 32] : List UInt8).length ≤ 5 := by split <;> decide
    omega
theorem ruleT_len2 {r : RuleD} (h : RuleSm r) : (ruleT r).length ≤ 540 := by
  have h1 := act_len h.act
  have h2 := name_len r.nr.toNat (by have := h.nr; omega)
  have h3 := condsT_len2 r.conds 0 (fun x hx => (h.con x hx).1)
  have h4 := h.few
  unfold ruleT
  simp only [List.length_append, List.length_cons, List.length_nil]
  omega
theorem rulesT_len2 : ∀ (rs : List RuleD), (∀ r ∈ rs, RuleSm r) → (rulesT rs).length ≤ 540 * rs.length
  | [], _ => by simp [rulesT]
  | r :: rs, h => by
    have ih := rulesT_len2 rs (fun x hx => h x (by simp [hx]))
    have := ruleT_len2 (h r (by simp))
    rw [rulesT]
    simp only [List.length_append, List.length_cons]
    omega
/-- A right policy's text may be read. -/
theorem polT_len {p : PolD} (hok : PolOk p) (hf : polF p = 0) : (polT p).length ≤ 8000 := by
  obtain ⟨h12, ha, hr⟩ := polF_zero hf
  have h1 := elseT_len ha
  have h2 := rulesT_len2 p.rules (fun r hm => ruleSm_of (hok r hm) (hr r hm))
  rw [polT_text, List.length_append]
  omega
theorem polAt_slice {w : World} {B : Nat} {A : Option Addr} {n c : Nat} {k x : Int} {p : PolD} (h : PolAt w B (.agg #[.slice A n c, .int .i64 k, .int .i64 x]) p) : n = p.rules.length ∧ k = p.kind ∧ x = p.errno := by
  obtain ⟨A', c', h1, _⟩ := h
  simp only [Value.agg.injEq, Array.mk.injEq, List.cons.injEq, Value.slice.injEq, Value.int.injEq, true_and, and_true] at h1
  exact ⟨h1.1.2.1, h1.2.1, h1.2.2⟩
/-- Read as it: a policy's text. -/
theorem parse_text (HN : NumSaid) (p : PolD) (w : World) (hok : PolOk p) (hf : polF p = 0) (hS : Shelf0 w) :
    Calls Tryd.prog 15 #[.string ⟨(polT p).toArray⟩] w fun e w' => ∃ (A : Option Addr) (c : Nat), e = .returned (.tuple #[.agg #[.slice A p.rules.length c, .int .i64 p.kind, .int .i64 p.errno], .nilIface]) ∧ PolAt w' w'.heap.size (.agg #[.slice A p.rules.length c, .int .i64 p.kind, .int .i64 p.errno]) p ∧ Below w.heap.size w w' := by
  have hl := polT_len hok hf
  have hsz : (⟨(polT p).toArray⟩ : ByteArray).size = (polT p).length := by simp [ByteArray.size]
  have hb : bL ⟨(polT p).toArray⟩ = polT p := by simp [bL]
  have hR : ReadP (bL ⟨(polT p).toArray⟩) (some p) := ⟨hok, hf, hb⟩
  refine (parse_any_pol HN _ w (by rw [hsz]; omega) hS.grd hS.tab).mono fun e w' h => ?_
  obtain ⟨h1, h2⟩ := h.at
  rcases h2 with ⟨h3, _⟩ | ⟨_, h3, _⟩ | ⟨_, q, A, c, h3, rfl, h5⟩
  · rw [hsz] at h3; omega
  · cases ReadP.same h3 hR
  · cases ReadP.same h3 hR
    exact ⟨A, c, rfl, h5, h1⟩
end Go.Proofs.YtmgngapkgcofnabDoor
/- TopPolicy: the walk. Printed by gentoppol.py. -/
namespace Go.Proofs.YtmgngapkgcofnabDoor
open Go.RowKit Go.PlainAid

theorem heaps3 (w : World) (o1 o2 o3 : Obj) (W : World) (h : Below (((w.alloc o1).alloc o2).alloc o3).heap.size (((w.alloc o1).alloc o2).alloc o3) W) :
    Below w.heap.size w W ∧ W.heap[w.heap.size]? = some o1 ∧ W.heap[w.heap.size + 1]? = some o2 ∧ W.heap[w.heap.size + 2]? = some o3 := by
  obtain ⟨h1, h2⟩ : Below ((w.alloc o1).alloc o2).heap.size ((w.alloc o1).alloc o2) W ∧ W.heap[w.heap.size + 2]? = some o3 := by
    refine ⟨((Below.refl _ _).alloc (Nat.le_refl _) o3).trans (h.mono (by simp)), ?_⟩
    have := heap_alloc_new ((w.alloc o1).alloc o2) o3
    have e : ((w.alloc o1).alloc o2).heap.size = w.heap.size + 2 := by simp
    rw [e] at this
    exact (h.block _ (by simp)).trans this
  obtain ⟨h3, h4⟩ : Below (w.alloc o1).heap.size (w.alloc o1) W ∧ W.heap[w.heap.size + 1]? = some o2 := by
    refine ⟨((Below.refl _ _).alloc (Nat.le_refl _) o2).trans (h1.mono (by simp)), ?_⟩
    have := heap_alloc_new (w.alloc o1) o2
    have e : (w.alloc o1).heap.size = w.heap.size + 1 := by simp
    rw [e] at this
    exact (h1.block _ (by simp)).trans this
  refine ⟨((Below.refl _ _).alloc (Nat.le_refl _) o1).trans (h3.mono (by simp)), (h3.block _ (by simp)).trans (heap_alloc_new w o1), h4, h2⟩
theorem light_bounds {p : PolD} (h : lightP p = true) : (∀ r ∈ p.rules, ∀ c ∈ r.conds, c.glob.size ≤ 4096) ∧ p.rules.length ≤ 4096 ∧ ∀ r ∈ p.rules, r.conds.length ≤ 4096 := by
  obtain ⟨h1, h2⟩ := (lightP_iff p).1 h
  exact ⟨fun r hr c hc => by have := (h2 r hr).2 c hc; omega, by omega, fun r hr => by have := (h2 r hr).1; omega⟩
theorem polOk_at {w : World} {B : Nat} {v : Value} {p : PolD} (h : PolAt w B v p) : PolOk p := fun r hr c hc => by
  obtain ⟨A, cp, _, A1, c1, _, h2⟩ := h
  rcases h2 with h2 | ⟨b, o, _, _, h3⟩
  · rw [h2] at hr; cases hr
  · obtain ⟨i, hi⟩ := List.getElem?_of_mem hr
    obtain ⟨_, _, h4, _⟩ := h3 i r hi
    exact h4.1 c hc
theorem cell2 (w : World) (p q : Value) (t : TypeId) (W : World) (h : Below (w.alloc (.cells #[p, q] t)).heap.size (w.alloc (.cells #[p, q] t)) W) :
    W.cell? ⟨w.heap.size, 0, none⟩ = some p ∧ W.cell? ⟨w.heap.size, 1, none⟩ = some q := by
  have hs : w.heap.size < (w.alloc (.cells #[p, q] t)).heap.size := by simp
  refine ⟨?_, ?_⟩ <;> (rw [h.cell (p := ⟨w.heap.size, _, none⟩) hs, cell_of_row _ _ _ _ _ _ (heap_alloc_new _ _)]; rfl)
/-- Own rows, from rule j on. -/
theorem owns_drop {w : World} {B : Nat} {u : Value} {rules : List RuleD} {k e : Int} (h : OwnsPol w B u ⟨rules, k, e⟩) {j : Nat} (hj : j < rules.length) :
    ∃ (g c : Nat), u = .agg #[.slice (some ⟨g, 0, none⟩) rules.length c, .int .i64 k, .int .i64 e] ∧ rules.length ≤ c ∧ PolAt w w.heap.size (.agg #[.slice (some ⟨g, j * 4, none⟩) (rules.length - j) (c - j), .int .i64 k, .int .i64 e]) ⟨rules.drop j, k, e⟩ := by
  have hp := h.polAt
  obtain ⟨A, c, xs, rfl, h1, h2⟩ := h
  simp only at h1 hp ⊢
  rcases h1.2 with ⟨h0, _⟩ | ⟨g, cap, cur, hv, _⟩
  · simp only [Value.slice.injEq] at h0
    omega
  · simp only [Value.slice.injEq, true_and] at hv
    obtain ⟨rfl, rfl⟩ := hv
    have hc := own_cap h1
    refine ⟨g, c, rfl, by omega, some ⟨g, j * 4, none⟩, c - j, by simp, ?_⟩
    obtain ⟨A', c', e1, hr⟩ := hp
    simp only [Value.agg.injEq, Array.mk.injEq, List.cons.injEq, Value.slice.injEq, true_and, and_true] at e1
    obtain ⟨rfl, rfl⟩ := e1
    obtain ⟨A2, c2, e2, hr⟩ := hr
    simp only [Value.slice.injEq, true_and] at e2
    obtain ⟨rfl, rfl⟩ := e2
    refine ⟨some ⟨g, j * 4, none⟩, c - j, by simp, .inr ?_⟩
    rcases hr with hr | ⟨b, o, e3, hB, hrow⟩
    · simp only at hr
      rw [hr] at hj
      exact absurd hj (by simp)
    · simp only [Option.some.injEq, Addr.mk.injEq, and_true] at e3
      obtain ⟨rfl, rfl⟩ := e3
      refine ⟨g, j * 4, rfl, hB, fun i x hx => ?_⟩
      obtain ⟨A3, c3, k1, k2⟩ := hrow (j + i) x (by simpa using hx)
      exact ⟨A3, c3, k1, by rw [show j * 4 + i * 4 = 0 + (j + i) * 4 from by omega]; exact k2⟩
set_option linter.unusedSimpArgs false in
set_option maxRecDepth 100000 in
set_option maxHeartbeats 8000000 in
theorem topPolicy_walk (HN : NumSaid) (v : Value) (p : PolD) (c : CallD) (vs : ValsD) (w : World) (hS : Shelf0 w) (h : PolAt w w.heap.size v p) (hip : ∀ i, 0 ≤ (vs.at_ i).ip ∧ (vs.at_ i).ip < 4294967296) :
    Calls Tryd.prog 4 #[v, c.v, vs.v] w fun e w' => e = .returned (.bool true) ∧ Below w.heap.size w w' := by
  have hpol := h
  obtain ⟨A, cp, rfl, _⟩ := h
  obtain ⟨LP, hLP⟩ : ∃ LP, LP = lightP p := ⟨_, rfl⟩
  obtain ⟨LV, hLV⟩ : ∃ LV, LV = lightV vs := ⟨_, rfl⟩
  have HLP : Hid (∀ W, Below w.heap.size w W → Calls Tryd.prog 11 #[.agg #[.slice A p.rules.length cp, .int .i64 p.kind, .int .i64 p.errno]] W fun e w' => e = .returned (.bool LP) ∧ Below W.heap.size W w') := fun W hb => by rw [hLP]; exact lightPolicy_any _ _ W (polAt_up hpol hb)
  have HLV : Hid (∀ W, Calls Tryd.prog 12 #[vs.v] W fun e w' => e = .returned (.bool LV) ∧ Below W.heap.size W w') := fun W => by rw [hLV]; exact lightVals_any vs W
  have HPP := Lib.hid (fun W (hb : Below w.heap.size w W) => polAt_up hpol hb)
  have HSH := Lib.hid (fun W (hb : Below w.heap.size w W) => hS.up hb)
  have HLPT : Hid (LP = true → (∀ r ∈ p.rules, ∀ c ∈ r.conds, c.glob.size ≤ 4096) ∧ p.rules.length ≤ 4096 ∧ ∀ r ∈ p.rules, r.conds.length ≤ 4096) := fun h => light_bounds (by rw [← hLP]; exact h)
  have HLPO : Hid (LP = true → ∀ W u, PolAt W W.heap.size u p → Calls Tryd.prog 19 #[u] W fun e w' => ∃ u', e = .returned u' ∧ OwnsPol w' W.heap.size u' p ∧ Below W.heap.size W w') := fun h W u hu => own_any_o u p W hu (by rw [← hLP]; exact h)
  have HLVT : Hid (LV = true → vs.ok) := fun h => vals_ok hip (by rw [← hLV]; exact h)
  have HPK := Lib.hid (polOk_at hpol)
  clear hpol hS hip hLP hLV
  obtain ⟨rules, pk, pe⟩ := p
  obtain ⟨arch, cnr, a0, a1, a2, a3⟩ := c
  obtain ⟨⟨p0, i0, q0⟩, ⟨p1, i1, q1⟩, ⟨p2, i2, q2⟩, ⟨p3, i3, q3⟩⟩ := vs
  unfold CallD.v
  unfold ValsD.v ValsD.cells at HLV ⊢
  simp only at HLP HLV ⊢
  have HIN := Lib.hid (heaps3 w (.cells #[.slice A rules.length cp, .int .i64 pk, .int .i64 pe] 40) (.cells #[.int .u32 arch, .int .u32 cnr, .int .u64 a0, .int .u64 a1, .int .u64 a2, .int .u64 a3] 44) (.cells #[.string p0, .int .u32 i0, .int .i64 q0, .string p1, .int .u32 i1, .int .i64 q1, .string p2, .int .u32 i2, .int .i64 q2, .string p3, .int .u32 i3, .int .i64 q3] 48))
  have HB0 : Hid (Below (((w.alloc (.cells #[.slice A rules.length cp, .int .i64 pk, .int .i64 pe] 40)).alloc (.cells #[.int .u32 arch, .int .u32 cnr, .int .u64 a0, .int .u64 a1, .int .u64 a2, .int .u64 a3] 44)).alloc (.cells #[.string p0, .int .u32 i0, .int .i64 q0, .string p1, .int .u32 i1, .int .i64 q1, .string p2, .int .u32 i2, .int .i64 q2, .string p3, .int .u32 i3, .int .i64 q3] 48)).heap.size (((w.alloc (.cells #[.slice A rules.length cp, .int .i64 pk, .int .i64 pe] 40)).alloc (.cells #[.int .u32 arch, .int .u32 cnr, .int .u64 a0, .int .u64 a1, .int .u64 a2, .int .u64 a3] 44)).alloc (.cells #[.string p0, .int .u32 i0, .int .i64 q0, .string p1, .int .u32 i1, .int .i64 q1, .string p2, .int .u32 i2, .int .i64 q2, .string p3, .int .u32 i3, .int .i64 q3] 48)) (((w.alloc (.cells #[.slice A rules.length cp, .int .i64 pk, .int .i64 pe] 40)).alloc (.cells #[.int .u32 arch, .int .u32 cnr, .int .u64 a0, .int .u64 a1, .int .u64 a2, .int .u64 a3] 44)).alloc (.cells #[.string p0, .int .u32 i0, .int .i64 q0, .string p1, .int .u32 i1, .int .i64 q1, .string p2, .int .u32 i2, .int .i64 q2, .string p3, .int .u32 i3, .int .i64 q3] 48))) := Below.refl _ _
  go_enter Tryd.func4, Tryd.ntmps4
  go_upto_region 1 with fail
  generalize (((w.alloc (.cells #[.slice A rules.length cp, .int .i64 pk, .int .i64 pe] 40)).alloc (.cells #[.int .u32 arch, .int .u32 cnr, .int .u64 a0, .int .u64 a1, .int .u64 a2, .int .u64 a3] 44)).alloc (.cells #[.string p0, .int .u32 i0, .int .i64 q0, .string p1, .int .u32 i1, .int .i64 q1, .string p2, .int .u32 i2, .int .i64 q2, .string p3, .int .u32 i3, .int .i64 q3] 48)) = W0 at *
  obtain ⟨hbl, hpp, hcc, hvv⟩ := HIN.out W0 HB0.out
  have HBL := Lib.hid hbl
  obtain ⟨s0, s1, s2⟩ := crow3 hpp
  obtain ⟨t0, t1, t2, t3, t4, t5⟩ := crow6 hcc
  obtain ⟨u0, u1, u2, u3, u4, u5, u6, u7, u8, u9, u10, u11⟩ := crow12 hvv
  clear hbl hpp hcc hvv
  cases LP with
  | false =>
    go_wp2_with (first | (go_at_call 11; refine cargs (by simp [Act.eval]) ((HLP.out _ HBL.out).mono ?_); rintro e w2 ⟨rfl, hb2⟩; have HB2 := Lib.hid (HB0.out.trans (hb2.mono HB0.out.size)); clear hb2; clear s0 s1 s2 t0 t1 t2 t3 t4 t5 u0 u1 u2 u3 u4 u5 u6 u7 u8 u9 u10 u11 HBL; obtain ⟨hbl, hpp, hcc, hvv⟩ := HIN.out w2 HB2.out; have HBL := Lib.hid hbl; obtain ⟨s0, s1, s2⟩ := crow3 hpp; obtain ⟨t0, t1, t2, t3, t4, t5⟩ := crow6 hcc; obtain ⟨u0, u1, u2, u3, u4, u5, u6, u7, u8, u9, u10, u11⟩ := crow12 hvv; clear hbl hpp hcc hvv) | fail)
    go_ret
    exact ⟨rfl, HBL.out⟩
  | true =>
    cases LV with
    | false =>
      go_wp2_with (first | (go_at_call 11; refine cargs (by simp [Act.eval]) ((HLP.out _ HBL.out).mono ?_); rintro e w2 ⟨rfl, hb2⟩; have HB2 := Lib.hid (HB0.out.trans (hb2.mono HB0.out.size)); clear hb2; clear s0 s1 s2 t0 t1 t2 t3 t4 t5 u0 u1 u2 u3 u4 u5 u6 u7 u8 u9 u10 u11 HBL; obtain ⟨hbl, hpp, hcc, hvv⟩ := HIN.out w2 HB2.out; have HBL := Lib.hid hbl; obtain ⟨s0, s1, s2⟩ := crow3 hpp; obtain ⟨t0, t1, t2, t3, t4, t5⟩ := crow6 hcc; obtain ⟨u0, u1, u2, u3, u4, u5, u6, u7, u8, u9, u10, u11⟩ := crow12 hvv; clear hbl hpp hcc hvv) | (go_at_call 12; refine cargs (by simp [Act.eval]) ((HLV.out _).mono ?_); rintro e w3 ⟨rfl, hb3⟩; have HB3 := Lib.hid (HB2.out.trans (hb3.mono HB2.out.size)); clear hb3; clear s0 s1 s2 t0 t1 t2 t3 t4 t5 u0 u1 u2 u3 u4 u5 u6 u7 u8 u9 u10 u11 HBL; obtain ⟨hbl, hpp, hcc, hvv⟩ := HIN.out w3 HB3.out; have HBL := Lib.hid hbl; obtain ⟨s0, s1, s2⟩ := crow3 hpp; obtain ⟨t0, t1, t2, t3, t4, t5⟩ := crow6 hcc; obtain ⟨u0, u1, u2, u3, u4, u5, u6, u7, u8, u9, u10, u11⟩ := crow12 hvv; clear hbl hpp hcc hvv))
      go_ret
      exact ⟨rfl, HBL.out⟩
    | true =>
      obtain ⟨hg4, hl4, hcl4⟩ := HLPT.out (by trivial)
      try simp only at hg4 hl4 hcl4
      have hg5 : ∀ r ∈ (⟨rules, pk, pe⟩ : PolD).rules, ∀ c ∈ r.conds, c.glob.size ≤ 100000 := fun r hr c hc => by have := hg4 r hr c hc; omega
      have hl5 : (⟨rules, pk, pe⟩ : PolD).rules.length ≤ 100000 := by show rules.length ≤ 100000; omega
      have hcl5 : ∀ r ∈ (⟨rules, pk, pe⟩ : PolD).rules, r.conds.length ≤ 100000 := fun r hr => by have := hcl4 r hr; omega
      have HCH : Hid (∀ W, Below w.heap.size w W → Calls Tryd.prog 13 #[(.agg #[.slice A rules.length cp, .int .i64 pk, .int .i64 pe])] W fun e w' => e = .returned (errV (polF ⟨rules, pk, pe⟩)) ∧ Below W.heap.size W w') := fun W hb => polCheck_any _ _ W (HPP.out W hb) hg5 hl5 hcl5
      by_cases hF : polF ⟨rules, pk, pe⟩ ≠ 0
      · rw [errV_pos hF] at HCH
        clear hF hg4 hl4 hcl4 hg5 hl5 hcl5
        generalize polF ⟨rules, pk, pe⟩ = pf at *
        go_wp2_with (first | (go_at_call 11; refine cargs (by simp [Act.eval]) ((HLP.out _ HBL.out).mono ?_); rintro e w2 ⟨rfl, hb2⟩; have HB2 := Lib.hid (HB0.out.trans (hb2.mono HB0.out.size)); clear hb2; clear s0 s1 s2 t0 t1 t2 t3 t4 t5 u0 u1 u2 u3 u4 u5 u6 u7 u8 u9 u10 u11 HBL; obtain ⟨hbl, hpp, hcc, hvv⟩ := HIN.out w2 HB2.out; have HBL := Lib.hid hbl; obtain ⟨s0, s1, s2⟩ := crow3 hpp; obtain ⟨t0, t1, t2, t3, t4, t5⟩ := crow6 hcc; obtain ⟨u0, u1, u2, u3, u4, u5, u6, u7, u8, u9, u10, u11⟩ := crow12 hvv; clear hbl hpp hcc hvv) | (go_at_call 12; refine cargs (by simp [Act.eval]) ((HLV.out _).mono ?_); rintro e w3 ⟨rfl, hb3⟩; have HB3 := Lib.hid (HB2.out.trans (hb3.mono HB2.out.size)); clear hb3; clear s0 s1 s2 t0 t1 t2 t3 t4 t5 u0 u1 u2 u3 u4 u5 u6 u7 u8 u9 u10 u11 HBL; obtain ⟨hbl, hpp, hcc, hvv⟩ := HIN.out w3 HB3.out; have HBL := Lib.hid hbl; obtain ⟨s0, s1, s2⟩ := crow3 hpp; obtain ⟨t0, t1, t2, t3, t4, t5⟩ := crow6 hcc; obtain ⟨u0, u1, u2, u3, u4, u5, u6, u7, u8, u9, u10, u11⟩ := crow12 hvv; clear hbl hpp hcc hvv) | (go_at_call 13; refine cargs (by simp [Act.eval]) ((HCH.out _ HBL.out).mono ?_); rintro e w4 ⟨rfl, hb4⟩; have HB4 := Lib.hid (HB3.out.trans (hb4.mono HB3.out.size)); clear hb4; clear s0 s1 s2 t0 t1 t2 t3 t4 t5 u0 u1 u2 u3 u4 u5 u6 u7 u8 u9 u10 u11 HBL; obtain ⟨hbl, hpp, hcc, hvv⟩ := HIN.out w4 HB4.out; have HBL := Lib.hid hbl; obtain ⟨s0, s1, s2⟩ := crow3 hpp; obtain ⟨t0, t1, t2, t3, t4, t5⟩ := crow6 hcc; obtain ⟨u0, u1, u2, u3, u4, u5, u6, u7, u8, u9, u10, u11⟩ := crow12 hvv; clear hbl hpp hcc hvv))
        go_ret
        exact ⟨rfl, HBL.out⟩
      have hF := Classical.not_not.1 hF
      rw [hF, errV_zero] at HCH
      have HT : Hid (∀ W, Below w.heap.size w W → Calls Tryd.prog 14 #[(.agg #[.slice A rules.length cp, .int .i64 pk, .int .i64 pe])] W fun e w' => e = .returned (.tuple #[.string ⟨(polT ⟨rules, pk, pe⟩).toArray⟩, .nilIface]) ∧ Below W.heap.size W w') := fun W hb => by
        have := polText_any _ _ W (HPP.out W hb) hg5 hl5 hcl5 (HSH.out W hb).tab
        rw [if_pos hF, hF, errV_zero] at this; exact this
      have HPA : Hid (∀ W, Below w.heap.size w W → Calls Tryd.prog 15 #[.string ⟨(polT ⟨rules, pk, pe⟩).toArray⟩] W fun e w' => ∃ (A4 : Option Addr) (c4 : Nat), e = .returned (.tuple #[.agg #[.slice A4 rules.length c4, .int .i64 pk, .int .i64 pe], .nilIface]) ∧ PolAt w' w'.heap.size (.agg #[.slice A4 rules.length c4, .int .i64 pk, .int .i64 pe]) ⟨rules, pk, pe⟩ ∧ Below W.heap.size W w') := fun W hb => parse_text HN _ W HPK.out hF (HSH.out W hb)
      obtain ⟨⟨j1, j2, j3⟩, hJ⟩ : ∃ j, judgeF ⟨rules, pk, pe⟩ ⟨arch, cnr, a0, a1, a2, a3⟩ = j := ⟨_, rfl⟩
      obtain ⟨⟨d1, d2⟩, hD⟩ : ∃ d, decideF ⟨rules, pk, pe⟩ ⟨arch, cnr, a0, a1, a2, a3⟩ ⟨⟨p0, i0, q0⟩, ⟨p1, i1, q1⟩, ⟨p2, i2, q2⟩, ⟨p3, i3, q3⟩⟩ = d := ⟨_, rfl⟩
      have HJ : Hid (∀ W, Below w.heap.size w W → Calls Tryd.prog 16 #[(.agg #[.slice A rules.length cp, .int .i64 pk, .int .i64 pe]), (.agg #[.int .u32 arch, .int .u32 cnr, .int .u64 a0, .int .u64 a1, .int .u64 a2, .int .u64 a3])] W fun e w' => e = .returned (.tuple #[.agg #[.int .i64 j1, .int .i64 j2, .int .i64 j3], .nilIface]) ∧ Below W.heap.size W w') := fun W hb => by
        have := judge_any _ _ ⟨arch, cnr, a0, a1, a2, a3⟩ W (HPP.out W hb) hg5 hl5 hcl5
        rw [hF, hJ] at this; exact this
      have HD : Hid (∀ W, Below w.heap.size w W → Calls Tryd.prog 17 #[(.agg #[.slice A rules.length cp, .int .i64 pk, .int .i64 pe]), (.agg #[.int .u32 arch, .int .u32 cnr, .int .u64 a0, .int .u64 a1, .int .u64 a2, .int .u64 a3]), (.agg #[.string p0, .int .u32 i0, .int .i64 q0, .string p1, .int .u32 i1, .int .i64 q1, .string p2, .int .u32 i2, .int .i64 q2, .string p3, .int .u32 i3, .int .i64 q3])] W fun e w' => e = .returned (.tuple #[.agg #[.int .i64 d1, .int .i64 d2], .nilIface]) ∧ Below W.heap.size W w') := fun W hb => by
        have := decide_any _ _ ⟨arch, cnr, a0, a1, a2, a3⟩ ⟨⟨p0, i0, q0⟩, ⟨p1, i1, q1⟩, ⟨p2, i2, q2⟩, ⟨p3, i3, q3⟩⟩ W (HPP.out W hb) hg4 hl5 hcl5 (HLVT.out (by trivial))
        rw [hF, hD] at this; exact this
      have HSP : Hid (∀ W u, Below w.heap.size w W → PolAt W W.heap.size u ⟨rules, pk, pe⟩ → Calls Tryd.prog 18 #[u, (.agg #[.slice A rules.length cp, .int .i64 pk, .int .i64 pe])] W fun e w' => e = .returned (.bool true) ∧ Below W.heap.size W w') := fun W u hb hu => samePol_any _ _ _ W hu (HPP.out W hb) hl5 hcl5
      have HTELL : Hid (j1 ≠ 4 → d1 = j1 ∧ d2 = j2 ∧ j3 = 0) := fun h => by
        have := judge_tells hF ⟨arch, cnr, a0, a1, a2, a3⟩ ⟨⟨p0, i0, q0⟩, ⟨p1, i1, q1⟩, ⟨p2, i2, q2⟩, ⟨p3, i3, q3⟩⟩ (by rw [hJ]; exact h)
        rw [hJ, hD] at this
        simp only [Prod.mk.injEq] at this
        exact ⟨this.1.1, this.1.2, this.2⟩
      have HDEEP : Hid (j1 = 4 → ∃ j : Nat, j3 = (j : Int) ∧ j < rules.length ∧ d1 ≠ 4 ∧ ∀ W u, PolAt W W.heap.size u ⟨rules.drop j, pk, pe⟩ → Calls Tryd.prog 17 #[u, (.agg #[.int .u32 arch, .int .u32 cnr, .int .u64 a0, .int .u64 a1, .int .u64 a2, .int .u64 a3]), (.agg #[.string p0, .int .u32 i0, .int .i64 q0, .string p1, .int .u32 i1, .int .i64 q1, .string p2, .int .u32 i2, .int .i64 q2, .string p3, .int .u32 i3, .int .i64 q3])] W fun e w' => e = .returned (.tuple #[.agg #[.int .i64 d1, .int .i64 d2], .nilIface]) ∧ Below W.heap.size W w') := fun h => by
        obtain ⟨j, k1, k2, k3, k4⟩ := judge_deep hF ⟨arch, cnr, a0, a1, a2, a3⟩ ⟨⟨p0, i0, q0⟩, ⟨p1, i1, q1⟩, ⟨p2, i2, q2⟩, ⟨p3, i3, q3⟩⟩ (by rw [hJ]; exact h)
        rw [hJ] at k1
        rw [hD] at k3 k4
        refine ⟨j, k1, k2, k3, fun W u hu => ?_⟩
        have := decide_any u ⟨rules.drop j, pk, pe⟩ ⟨arch, cnr, a0, a1, a2, a3⟩ ⟨⟨p0, i0, q0⟩, ⟨p1, i1, q1⟩, ⟨p2, i2, q2⟩, ⟨p3, i3, q3⟩⟩ W hu (fun r hr => hg4 r (List.mem_of_mem_drop hr)) (by simp; omega) (fun r hr => hcl5 r (List.mem_of_mem_drop hr)) (HLVT.out (by trivial))
        have e1 : polF ⟨List.drop j rules, pk, pe⟩ = 0 := polF_drop hF j
        simp only at k4
        rw [e1, k4] at this
        exact this
      have HOW := Lib.hid (HLPO.out (by trivial))
      have HPP2 := HPP
      clear hF hJ hD hg4 hl4 hcl4 hg5 hl5 hcl5 HLPT HLVT HPK HSH HPP HLPO
      generalize (⟨(polT ⟨rules, pk, pe⟩).toArray⟩ : ByteArray) = S at *
      go_upto_region 3 with (first | (go_at_call 11; refine cargs (by simp [Act.eval]) ((HLP.out _ HBL.out).mono ?_); rintro e w2 ⟨rfl, hb2⟩; have HB2 := Lib.hid (HB0.out.trans (hb2.mono HB0.out.size)); clear hb2; clear s0 s1 s2 t0 t1 t2 t3 t4 t5 u0 u1 u2 u3 u4 u5 u6 u7 u8 u9 u10 u11 HBL; obtain ⟨hbl, hpp, hcc, hvv⟩ := HIN.out w2 HB2.out; have HBL := Lib.hid hbl; obtain ⟨s0, s1, s2⟩ := crow3 hpp; obtain ⟨t0, t1, t2, t3, t4, t5⟩ := crow6 hcc; obtain ⟨u0, u1, u2, u3, u4, u5, u6, u7, u8, u9, u10, u11⟩ := crow12 hvv; clear hbl hpp hcc hvv) | (go_at_call 12; refine cargs (by simp [Act.eval]) ((HLV.out _).mono ?_); rintro e w3 ⟨rfl, hb3⟩; have HB3 := Lib.hid (HB2.out.trans (hb3.mono HB2.out.size)); clear hb3; clear s0 s1 s2 t0 t1 t2 t3 t4 t5 u0 u1 u2 u3 u4 u5 u6 u7 u8 u9 u10 u11 HBL; obtain ⟨hbl, hpp, hcc, hvv⟩ := HIN.out w3 HB3.out; have HBL := Lib.hid hbl; obtain ⟨s0, s1, s2⟩ := crow3 hpp; obtain ⟨t0, t1, t2, t3, t4, t5⟩ := crow6 hcc; obtain ⟨u0, u1, u2, u3, u4, u5, u6, u7, u8, u9, u10, u11⟩ := crow12 hvv; clear hbl hpp hcc hvv) | (go_at_call 13; refine cargs (by simp [Act.eval]) ((HCH.out _ HBL.out).mono ?_); rintro e w4 ⟨rfl, hb4⟩; have HB4 := Lib.hid (HB3.out.trans (hb4.mono HB3.out.size)); clear hb4; clear s0 s1 s2 t0 t1 t2 t3 t4 t5 u0 u1 u2 u3 u4 u5 u6 u7 u8 u9 u10 u11 HBL; obtain ⟨hbl, hpp, hcc, hvv⟩ := HIN.out w4 HB4.out; have HBL := Lib.hid hbl; obtain ⟨s0, s1, s2⟩ := crow3 hpp; obtain ⟨t0, t1, t2, t3, t4, t5⟩ := crow6 hcc; obtain ⟨u0, u1, u2, u3, u4, u5, u6, u7, u8, u9, u10, u11⟩ := crow12 hvv; clear hbl hpp hcc hvv))
      clear HLP HLV HCH HB0 HB2 HB3
      go_upto_region 4 with (go_at_call 14; refine cargs (by simp [Act.eval]) ((HT.out _ HBL.out).mono ?_); rintro e w5 ⟨rfl, hb⟩; have HB5 := Lib.hid (HB4.out.trans (hb.mono HB4.out.size)); clear hb; clear s0 s1 s2 t0 t1 t2 t3 t4 t5 u0 u1 u2 u3 u4 u5 u6 u7 u8 u9 u10 u11 HBL; obtain ⟨hbl, hpp, hcc, hvv⟩ := HIN.out w5 HB5.out; have HBL := Lib.hid hbl; obtain ⟨s0, s1, s2⟩ := crow3 hpp; obtain ⟨t0, t1, t2, t3, t4, t5⟩ := crow6 hcc; obtain ⟨u0, u1, u2, u3, u4, u5, u6, u7, u8, u9, u10, u11⟩ := crow12 hvv; clear hbl hpp hcc hvv)
      clear HT HB4
      go_upto_region 5 with (go_at_call 15; refine cargs (by simp [Act.eval]) ((HPA.out _ HBL.out).mono ?_); rintro e w6 ⟨A4, c4, rfl, hp6, hb⟩; have HB6 := Lib.hid (HB5.out.trans (hb.mono HB5.out.size)); have HP6 := Lib.hid hp6; clear hp6; clear hb; clear s0 s1 s2 t0 t1 t2 t3 t4 t5 u0 u1 u2 u3 u4 u5 u6 u7 u8 u9 u10 u11 HBL; obtain ⟨hbl, hpp, hcc, hvv⟩ := HIN.out w6 HB6.out; have HBL := Lib.hid hbl; obtain ⟨s0, s1, s2⟩ := crow3 hpp; obtain ⟨t0, t1, t2, t3, t4, t5⟩ := crow6 hcc; obtain ⟨u0, u1, u2, u3, u4, u5, u6, u7, u8, u9, u10, u11⟩ := crow12 hvv; clear hbl hpp hcc hvv)
      clear HPA HB5
      have HT7 := Lib.hid (cell3 w6 (.slice A4 rules.length c4) (.int .i64 pk) (.int .i64 pe) 40)
      have HP7 : Hid (∀ W, Below (w6.alloc (.cells #[.slice A4 rules.length c4, .int .i64 pk, .int .i64 pe] 40)).heap.size (w6.alloc (.cells #[.slice A4 rules.length c4, .int .i64 pk, .int .i64 pe] 40)) W → PolAt W W.heap.size (.agg #[.slice A4 rules.length c4, .int .i64 pk, .int .i64 pe]) ⟨rules, pk, pe⟩) := fun W hb => polAt_up HP6.out (((Below.refl _ _).alloc (Nat.le_refl _) _).trans (hb.mono (by simp)))
      have HB7 : Hid (Below W0.heap.size W0 (w6.alloc (.cells #[.slice A4 rules.length c4, .int .i64 pk, .int .i64 pe] 40))) := HB6.out.alloc HB6.out.size _
      clear s0 s1 s2 t0 t1 t2 t3 t4 t5 u0 u1 u2 u3 u4 u5 u6 u7 u8 u9 u10 u11 HBL
      clear HB6 HP6
      generalize hn6 : w6.heap.size = n6 at *
      generalize w6.alloc (.cells #[.slice A4 rules.length c4, .int .i64 pk, .int .i64 pe] 40) = W7 at *
      clear hn6
      obtain ⟨hbl, hpp, hcc, hvv⟩ := HIN.out W7 HB7.out; have HBL := Lib.hid hbl; obtain ⟨s0, s1, s2⟩ := crow3 hpp; obtain ⟨t0, t1, t2, t3, t4, t5⟩ := crow6 hcc; obtain ⟨u0, u1, u2, u3, u4, u5, u6, u7, u8, u9, u10, u11⟩ := crow12 hvv; clear hbl hpp hcc hvv
      go_upto_region 6 with (go_at_call 16; refine cargs (by simp [Act.eval]) ((HJ.out _ HBL.out).mono ?_); rintro e w8 ⟨rfl, hb⟩; have HB8 := Lib.hid (HB7.out.trans (hb.mono HB7.out.size)); have HR8 := Lib.hid hb; clear hb; clear s0 s1 s2 t0 t1 t2 t3 t4 t5 u0 u1 u2 u3 u4 u5 u6 u7 u8 u9 u10 u11 HBL; obtain ⟨hbl, hpp, hcc, hvv⟩ := HIN.out w8 HB8.out; have HBL := Lib.hid hbl; obtain ⟨s0, s1, s2⟩ := crow3 hpp; obtain ⟨t0, t1, t2, t3, t4, t5⟩ := crow6 hcc; obtain ⟨u0, u1, u2, u3, u4, u5, u6, u7, u8, u9, u10, u11⟩ := crow12 hvv; clear hbl hpp hcc hvv)
      clear HJ
      have HT9 := Lib.hid (cell3 w8 (.int .i64 j1) (.int .i64 j2) (.int .i64 j3) 56)
      have HB9 : Hid (Below W0.heap.size W0 (w8.alloc (.cells #[.int .i64 j1, .int .i64 j2, .int .i64 j3] 56))) := HB8.out.alloc HB8.out.size _
      have HR9 : Hid (Below W7.heap.size W7 (w8.alloc (.cells #[.int .i64 j1, .int .i64 j2, .int .i64 j3] 56))) := HR8.out.alloc HR8.out.size _
      clear s0 s1 s2 t0 t1 t2 t3 t4 t5 u0 u1 u2 u3 u4 u5 u6 u7 u8 u9 u10 u11 HBL
      clear HB8 HR8
      generalize hn8 : w8.heap.size = n8 at *
      generalize w8.alloc (.cells #[.int .i64 j1, .int .i64 j2, .int .i64 j3] 56) = W9 at *
      clear hn8
      obtain ⟨hbl, hpp, hcc, hvv⟩ := HIN.out W9 HB9.out; have HBL := Lib.hid hbl; obtain ⟨s0, s1, s2⟩ := crow3 hpp; obtain ⟨t0, t1, t2, t3, t4, t5⟩ := crow6 hcc; obtain ⟨u0, u1, u2, u3, u4, u5, u6, u7, u8, u9, u10, u11⟩ := crow12 hvv; clear hbl hpp hcc hvv
      go_upto_region 7 with (go_at_call 17; refine cargs (by simp [Act.eval]) ((HD.out _ HBL.out).mono ?_); rintro e w10 ⟨rfl, hb⟩; have HB10 := Lib.hid (HB9.out.trans (hb.mono HB9.out.size)); have HR10 := Lib.hid hb; clear hb; clear s0 s1 s2 t0 t1 t2 t3 t4 t5 u0 u1 u2 u3 u4 u5 u6 u7 u8 u9 u10 u11 HBL; obtain ⟨hbl, hpp, hcc, hvv⟩ := HIN.out w10 HB10.out; have HBL := Lib.hid hbl; obtain ⟨s0, s1, s2⟩ := crow3 hpp; obtain ⟨t0, t1, t2, t3, t4, t5⟩ := crow6 hcc; obtain ⟨u0, u1, u2, u3, u4, u5, u6, u7, u8, u9, u10, u11⟩ := crow12 hvv; clear hbl hpp hcc hvv)
      clear HD
      have HT11 := Lib.hid (cell2 w10 (.int .i64 d1) (.int .i64 d2) 38)
      have HB11 : Hid (Below W0.heap.size W0 (w10.alloc (.cells #[.int .i64 d1, .int .i64 d2] 38))) := HB10.out.alloc HB10.out.size _
      have HQ11 : Hid (Below W9.heap.size W9 (w10.alloc (.cells #[.int .i64 d1, .int .i64 d2] 38))) := HR10.out.alloc HR10.out.size _
      have HR11 : Hid (Below W7.heap.size W7 (w10.alloc (.cells #[.int .i64 d1, .int .i64 d2] 38))) := HR9.out.trans (HQ11.out.mono HR9.out.size)
      clear s0 s1 s2 t0 t1 t2 t3 t4 t5 u0 u1 u2 u3 u4 u5 u6 u7 u8 u9 u10 u11 HBL
      clear HB10 HR10
      generalize hn10 : w10.heap.size = n10 at *
      generalize w10.alloc (.cells #[.int .i64 d1, .int .i64 d2] 38) = W11 at *
      clear hn10
      obtain ⟨hbl, hpp, hcc, hvv⟩ := HIN.out W11 HB11.out; have HBL := Lib.hid hbl; obtain ⟨s0, s1, s2⟩ := crow3 hpp; obtain ⟨t0, t1, t2, t3, t4, t5⟩ := crow6 hcc; obtain ⟨u0, u1, u2, u3, u4, u5, u6, u7, u8, u9, u10, u11⟩ := crow12 hvv; clear hbl hpp hcc hvv
      obtain ⟨k0, k1, k2⟩ := HT7.out W11 HR11.out
      have HP11 := Lib.hid (HP7.out W11 HR11.out)
      go_upto_region 9 with (go_at_call 18; refine cargs (by simp [Act.eval]) ((HSP.out _ _ HBL.out HP11.out).mono ?_); rintro e w12 ⟨rfl, hb⟩; have HB12 := Lib.hid (HB11.out.trans (hb.mono HB11.out.size)); have HR12 := Lib.hid hb; clear k0 k1 k2; clear hb; clear s0 s1 s2 t0 t1 t2 t3 t4 t5 u0 u1 u2 u3 u4 u5 u6 u7 u8 u9 u10 u11 HBL; obtain ⟨hbl, hpp, hcc, hvv⟩ := HIN.out w12 HB12.out; have HBL := Lib.hid hbl; obtain ⟨s0, s1, s2⟩ := crow3 hpp; obtain ⟨t0, t1, t2, t3, t4, t5⟩ := crow6 hcc; obtain ⟨u0, u1, u2, u3, u4, u5, u6, u7, u8, u9, u10, u11⟩ := crow12 hvv; clear hbl hpp hcc hvv)
      clear HSP HP11 HP7 HT7
      have HQ12 : Hid (Below W9.heap.size W9 w12) := HQ11.out.trans (HR12.out.mono HQ11.out.size)
      obtain ⟨v0, v1, v2⟩ := HT9.out w12 HQ12.out
      obtain ⟨x0, x1⟩ := HT11.out w12 HR12.out
      by_cases h4 : j1 ≠ 4
      · obtain ⟨rfl, rfl, rfl⟩ := HTELL.out h4
        clear HTELL HDEEP
        go_wp2_with fail
        go_ret
        exact ⟨rfl, HBL.out⟩
      · have h4 := Classical.not_not.1 h4
        obtain ⟨j, rfl, hj, hd4, HDJ⟩ := HDEEP.out h4
        have HDJ := Lib.hid HDJ
        subst h4
        clear HTELL HDEEP
        have g1 : (0 : Int) ≤ (j : Int) := by omega
        have g2 : (j : Int) < (rules.length : Int) := by omega
        go_upto_region 13 with fail
        go_upto_region 14 with (go_at_call 19; refine cargs (by simp [Act.eval]) ((HOW.out _ _ (HPP2.out _ HBL.out)).mono ?_); rintro e w13 ⟨u13, rfl, ho13, hb⟩; obtain ⟨g8, c8, rfl, hc8, hp8⟩ := owns_drop ho13 hj; have HB13 := Lib.hid (HB12.out.trans (hb.mono HB12.out.size)); have HQ13 := Lib.hid (HR12.out.trans (hb.mono HR12.out.size)); have HP8 := Lib.hid hp8; clear hb hp8 ho13 v0 v1 v2 x0 x1; clear s0 s1 s2 t0 t1 t2 t3 t4 t5 u0 u1 u2 u3 u4 u5 u6 u7 u8 u9 u10 u11 HBL; obtain ⟨hbl, hpp, hcc, hvv⟩ := HIN.out w13 HB13.out; have HBL := Lib.hid hbl; obtain ⟨s0, s1, s2⟩ := crow3 hpp; obtain ⟨t0, t1, t2, t3, t4, t5⟩ := crow6 hcc; obtain ⟨u0, u1, u2, u3, u4, u5, u6, u7, u8, u9, u10, u11⟩ := crow12 hvv; clear hbl hpp hcc hvv)
        clear HOW HPP2
        have HQV13 : Hid (Below W9.heap.size W9 w13) := HQ11.out.trans (HQ13.out.mono HQ11.out.size)
        have HT14 := Lib.hid (cell3 w13 (.slice (some ⟨g8, 0, none⟩) rules.length c8) (.int .i64 pk) (.int .i64 pe) 40)
        have hb14 : Below w13.heap.size w13 (w13.alloc (.cells #[.slice (some ⟨g8, 0, none⟩) rules.length c8, .int .i64 pk, .int .i64 pe] 40)) := (Below.refl _ _).alloc (Nat.le_refl _) _
        have hrow := heap_alloc_new w13 (.cells #[.slice (some ⟨g8, 0, none⟩) rules.length c8, .int .i64 pk, .int .i64 pe] 40)
        clear s0 s1 s2 t0 t1 t2 t3 t4 t5 u0 u1 u2 u3 u4 u5 u6 u7 u8 u9 u10 u11 HBL
        generalize hn13 : w13.heap.size = n13 at *
        generalize w13.alloc (.cells #[.slice (some ⟨g8, 0, none⟩) rules.length c8, .int .i64 pk, .int .i64 pe] 40) = W14 at *
        obtain ⟨k0, k1, k2⟩ := HT14.out W14 (Below.refl _ _)
        have z0 : W14.frozen? ⟨n13, 0, none⟩ = false := frozen_of_row _ _ _ _ _ hrow
        have HB14 := Lib.hid (HB13.out.trans (hb14.mono (by have := HB13.out.size; omega)))
        have HQV14 := Lib.hid (HQV13.out.trans (hb14.mono (by have := HQV13.out.size; omega)))
        have HQ14 := Lib.hid (HQ13.out.trans (hb14.mono (by have := HQ13.out.size; omega)))
        obtain ⟨v0, v1, v2⟩ := HT9.out W14 HQV14.out
        have HP14 := Lib.hid (polAt_up (w := w13) (by rw [hn13]; exact HP8.out) (by rw [hn13]; exact hb14))
        have hcc : j ≤ c8 := by omega
        have hjl : j ≤ rules.length := by omega
        go_upto_region 15 with fail
        have hr15 := heap_setCell_same W14 n13 0 _ _ (.slice (some ⟨g8, j * 4, none⟩) (rules.length - j) (c8 - j)) hrow
        have hb15 : Below n13 W14 (W14.setCell ⟨n13, 0, none⟩ (.slice (some ⟨g8, j * 4, none⟩) (rules.length - j) (c8 - j))) := (Below.refl _ _).setCell (p := ⟨n13, 0, none⟩) (Nat.le_refl _) _
        have HP15 : Hid (PolAt (W14.setCell ⟨n13, 0, none⟩ (.slice (some ⟨g8, j * 4, none⟩) (rules.length - j) (c8 - j))) (W14.setCell ⟨n13, 0, none⟩ (.slice (some ⟨g8, j * 4, none⟩) (rules.length - j) (c8 - j))).heap.size (.agg #[.slice (some ⟨g8, j * 4, none⟩) (rules.length - j) (c8 - j), .int .i64 pk, .int .i64 pe]) ⟨rules.drop j, pk, pe⟩) := by
          have h1 := HP8.out
          obtain ⟨A', c', e1, hr⟩ := h1
          have hbz := hb14.trans hb15
          exact ⟨A', c', e1, (hr.below hbz (Nat.le_refl _)).mono (by have := hbz.size; omega)⟩
        have HB15 := Lib.hid (HB14.out.trans (hb15.mono (by have := HB13.out.size; omega)))
        have HQ15 := Lib.hid (HQ14.out.trans (hb15.mono (by have := HQ13.out.size; omega)))
        try clear s0 s1 s2 t0 t1 t2 t3 t4 t5 u0 u1 u2 u3 u4 u5 u6 u7 u8 u9 u10 u11 HBL
        generalize W14.setCell ⟨n13, 0, none⟩ (.slice (some ⟨g8, j * 4, none⟩) (rules.length - j) (c8 - j)) = W15 at *
        obtain ⟨m0, m1, m2⟩ := crow3 hr15
        obtain ⟨hbl, hpp, hcc, hvv⟩ := HIN.out W15 HB15.out; have HBL := Lib.hid hbl; obtain ⟨s0, s1, s2⟩ := crow3 hpp; obtain ⟨t0, t1, t2, t3, t4, t5⟩ := crow6 hcc; obtain ⟨u0, u1, u2, u3, u4, u5, u6, u7, u8, u9, u10, u11⟩ := crow12 hvv; clear hbl hpp hcc hvv
        have HDJ15 := Lib.hid (HDJ.out W15 _ HP15.out)
        go_upto_region 16 with (go_at_call 17; refine cargs (by simp [Act.eval]) ((HDJ15.out).mono ?_); rintro e w16 ⟨rfl, hb⟩; have HB16 := Lib.hid (HB15.out.trans (hb.mono HB15.out.size)); have HQ16 := Lib.hid (HQ15.out.trans (hb.mono HQ15.out.size)); clear hb; clear s0 s1 s2 t0 t1 t2 t3 t4 t5 u0 u1 u2 u3 u4 u5 u6 u7 u8 u9 u10 u11 HBL; obtain ⟨hbl, hpp, hcc, hvv⟩ := HIN.out w16 HB16.out; have HBL := Lib.hid hbl; obtain ⟨s0, s1, s2⟩ := crow3 hpp; obtain ⟨t0, t1, t2, t3, t4, t5⟩ := crow6 hcc; obtain ⟨u0, u1, u2, u3, u4, u5, u6, u7, u8, u9, u10, u11⟩ := crow12 hvv; clear hbl hpp hcc hvv)
        have HBX : Hid (Below w.heap.size w (w16.alloc (.cells #[.int .i64 d1, .int .i64 d2] 38))) := HBL.out.alloc HBL.out.size _
        obtain ⟨x0, x1⟩ := HT11.out (w16.alloc (.cells #[.int .i64 d1, .int .i64 d2] 38)) (HQ16.out.alloc HQ16.out.size _)
        obtain ⟨r0, r1⟩ := cell2 w16 (.int .i64 d1) (.int .i64 d2) 38 _ (Below.refl _ _)
        generalize w16.alloc (.cells #[.int .i64 d1, .int .i64 d2] 38) = W17 at *
        go_wp2_with fail
        go_ret
        exact ⟨rfl, HBX.out⟩
end Go.Proofs.YtmgngapkgcofnabDoor
/- For every policy, call and values the law TopPolicy returns true, and they read as they did; the card. The listed tables and errors hold what the program's text lays. No condition. -/
namespace Go.Proofs.YtmgngapkgcofnabDoor.topPolicy
open Go.ChangeShapes Go.WideShapes Go.ChangeAt Go.RowKit
open Go.ChangeMaps (open_string shut_string)

theorem own : ownKnob Tryd.prog.godebug = none := by kernel_rfl
theorem laidOut : laidOutB Tryd.prog = true := by kernel_rfl
/-- The cells that a plain table's datum names, a table of pairs' too. -/
def rowOf : DataW Unit → Array Value
  | .agg ps => (ps.flatMap fun d => match d with | .lit (.int k i) => [Value.int k i] | .agg qs => (qs.map fun d => match d with | .lit (.int k i) => Value.int k i | _ => .nilIface) | _ => [.nilIface]).toArray
  | _ => #[]
def lay (r : Array Value) : Obj → Obj
  | .cells _ t frozen => .cells r t frozen
  | o => o
def args0 : Array Value := #[.agg #[.slice none 0 0, .int .i64 0, .int .i64 0], .agg #[.int .u32 0, .int .u32 0, .int .u64 0, .int .u64 0, .int .u64 0, .int .u64 0], .agg #[.string .empty, .int .u32 0, .int .i64 0, .string .empty, .int .u32 0, .int .i64 0, .string .empty, .int .u32 0, .int .i64 0, .string .empty, .int .u32 0, .int .i64 0]]
def errAt (b : Nat) : Array Value := #[.iface 176 (.pointer (some ⟨b, 0, none⟩))]
/-- A world for the witness: the settled one, the listed variables holding what their initialisers lay. -/
noncomputable def laidWorld (os : Os) : World :=
  { World.holding Tryd.prog os ⟨#[], args0, []⟩ with heap := ((((((((World.holding Tryd.prog os ⟨#[], args0, []⟩).heap.modify 6 (lay (rowOf Rows.laid_math_bits_deBruijn32tab))).modify 7 (lay (rowOf Rows.laid_math_bits_deBruijn64tab))).modify 1 (lay (rowOf Rows.laid_internal_strconv_uint64pow10))).modify 3 (lay (rowOf Rows.laid_unicode_utf8_acceptRanges))).modify 2 (lay (rowOf Rows.laid_unicode_utf8_first))).modify 5 (lay (errAt (World.holding Tryd.prog os ⟨#[], args0, []⟩).heap.size))).modify 4 (lay (errAt ((World.holding Tryd.prog os ⟨#[], args0, []⟩).heap.size + 1)))
    |>.push (.cells #[.string ⟨#[118, 97, 108, 117, 101, 32, 111, 117, 116, 32, 111, 102, 32, 114, 97, 110, 103, 101]⟩] 178) |>.push (.cells #[.string ⟨#[105, 110, 118, 97, 108, 105, 100, 32, 115, 121, 110, 116, 97, 120]⟩] 178)) }
theorem laid_met (os : Os) : laidMet Tryd.prog Rows.topPolicyRow.laid ((laidWorld os).forCall (fun _ _ => 0) ⟨#[], args0, []⟩).memory :=
  laidMet_of_run3 8 (by kernel_rfl) (by kernel_rfl) (by kernel_rfl)
theorem reads (os : Os) {H : Type} (enc : TypeId × Value → H) : ∃ places, DataW.whole enc Tryd.prog ((laidWorld os).forCall (fun _ _ => 0) ⟨#[], args0, []⟩).memory Tryd.f4.params.toList Rows.topPolicySpec.vars false args0.toList 8 = some ([.agg [.nil, .agg [.lit (.int .i64 0), .lit (.int .i64 0)]], .agg [.lit (.int .u32 0), .lit (.int .u32 0), .agg [.lit (.int .u64 0), .lit (.int .u64 0), .lit (.int .u64 0), .lit (.int .u64 0)]], .agg [.agg [.lit (.string []), .lit (.int .u32 0), .lit (.int .i64 0)], .agg [.lit (.string []), .lit (.int .u32 0), .lit (.int .i64 0)], .agg [.lit (.string []), .lit (.int .u32 0), .lit (.int .i64 0)], .agg [.lit (.string []), .lit (.int .u32 0), .lit (.int .i64 0)]]], [], places) :=
  ⟨[], by kernel_rfl⟩
theorem tab_of {W : World} (hL : laidMetH Tryd.prog Rows.topPolicyRow.laid W) : Lib.TabIs Tryd.prog W "internal/strconv.uint64pow10" .u64 Lib.pow10Tab := by
  have h0 : laidMet Tryd.prog Rows.topPolicyRow.laid W := hL
  have h1 := laidMet.tail (laidMet.tail h0)
  have e : (Rows.laid_internal_strconv_uint64pow10 : DataW Unit) = Lib.tabData .u64 Lib.pow10Tab := by kernel_rfl
  rw [e] at h1
  exact Lib.tabIs_of_head (g := 1) (by kernel_rfl) (by kernel_rfl) Tryd.underlying155 Tryd.underlying41 (by kernel_rfl) (by kernel_rfl) h1
theorem star : "*" ++ "errors.errorString" = "*errors.errorString" := by decide
theorem names_err (u : TypeId) (h : Tryd.prog.typeName? 3 u = some "*errors.errorString") : u = 176 :=
  typeName_ptr_named (nm := "errors.errorString") (by rw [star]; kernel_rfl) (by kernel_rfl) (by decide) u (by rw [star]; exact h)
theorem gER : Tryd.prog.globalNamed "strconv.ErrRange" = some 5 := by kernel_rfl
theorem gES : Tryd.prog.globalNamed "strconv.ErrSyntax" = some 4 := by kernel_rfl
theorem gERt : (Tryd.prog.globals[5]?).map (·.type) = some 26 := by kernel_rfl
theorem gESt : (Tryd.prog.globals[4]?).map (·.type) = some 26 := by kernel_rfl
theorem cellsE : Tryd.prog.cellsOf 178 = 1 := by kernel_rfl
theorem cellsS : Tryd.prog.cellsOf 9 = 1 := by kernel_rfl
theorem shelf_of {W : World} (hL : laidMetH Tryd.prog Rows.topPolicyRow.laid W) (hsh : W.ShapedOpen Tryd.prog) : Shelf0 W := by
  have h0 : laidMet Tryd.prog Rows.topPolicyRow.laid W := hL
  have h4 := laidMet.tail (laidMet.tail (laidMet.tail (laidMet.tail h0)))
  obtain ⟨a0, s0, hv0, -, -, -⟩ := laid_sentinel h4 gER gERt Tryd.underlying26 names_err Tryd.underlying176 Tryd.underlying178 rfl rfl Tryd.underlying9 cellsE cellsS
  obtain ⟨a1, s1, hv1, -, -, -⟩ := laid_sentinel (laidMet.tail h4) gES gESt Tryd.underlying26 names_err Tryd.underlying176 Tryd.underlying178 rfl rfl Tryd.underlying9 cellsE cellsS
  exact ⟨⟨⟨_, by have h0 := World.var?_cell gES hv1 0; simpa using h0, Or.inr ⟨_, _, rfl⟩⟩, ⟨_, by have h0 := World.var?_cell gER hv0 0; simpa using h0, Or.inr ⟨_, _, rfl⟩⟩,
    Go.Proofs.cell_of_shapedOpen_int (zero := #[.int .i64 0]) (t := 3) hsh (of_decide_eq_true (by kernel_rfl)) (by kernel_rfl) rfl (by kernel_rfl) (by kernel_rfl) Tryd.underlying3⟩, tab_of hL⟩

set_option maxRecDepth 100000 in
theorem contract (H : Type) (enc : TypeId × Value → H) (W : World) (base : Nat) (args : Array Value) (ds gs : List (DataW H)) (before : List MemPlace)
    (hval0 : ∀ (j : Nat) t v, Tryd.f4.params[j]? = some t → args[j]? = some v → Value.okWide Tryd.prog W .any base t v)
    (hL : laidMetH Tryd.prog Rows.topPolicyRow.laid W) (hsh : W.ShapedOpen Tryd.prog)
    (hW : DataW.Whole enc Tryd.prog Tryd.f4.params.toList Rows.topPolicySpec.vars false W args.toList ds gs before) :
    Calls Tryd.prog 4 args W fun e W' => ∃ v, e = .returned v ∧ Rows.topPolicySpec.post enc Tryd.prog Tryd.f4 false true false false W args v W' := by
  have hval := hval0
  have hW' := hW
  obtain ⟨p, q, hA0, hV, rfl, hfz, hnd⟩ := hW
  have hA : DataW.TrodAll enc Tryd.prog W 0 (fun _ => true) true Tryd.f4.params.toList args.toList ds p := hA0
  rw [Tryd.params4] at hA hval
  obtain ⟨v0, v1, v2, d0, d1, d2, p0, p1, p2, rfl, rfl, rfl, h0, h1, h2⟩ := trodAll_three hA
  obtain ⟨rfl, rfl⟩ := trodVars_none hV
  obtain ⟨pol, hp⟩ := open_policy (hval 0 40 v0 rfl rfl) h0
  obtain ⟨c, rfl, _⟩ := open_call (hval 1 44 v1 rfl rfl) h1
  obtain ⟨vs, rfl, hip⟩ := open_values (hval 2 48 v2 rfl rfl) h2
  refine (topPolicy_walk wordNum_any v0 pol c vs W (shelf_of hL hsh) hp hip).mono fun e W' ⟨he, hb⟩ => ?_
  subst he
  exact ⟨_, rfl, law_post laidOut (by kernel_rfl) Tryd.underlying4 (by kernel_rfl) rfl hW' rfl hb⟩

set_option maxRecDepth 100000 in
theorem lifted (os : Os) (started : os.Started) (H : Type) (enc : TypeId × Value → H) (F : Stop.Interp) :
    ReturnsInHanded {} Tryd.checked os 4 .any ((OpenSpec.ofChange Rows.topPolicySpec).preRow enc Tryd.prog Tryd.f4 Rows.topPolicyRow.domain false Rows.topPolicyRow.laid) (((OpenSpec.ofChange Rows.topPolicySpec).at F).post enc Tryd.prog Tryd.f4 false true false false) := by
  obtain ⟨places, hx⟩ := reads os enc
  refine returnsInHanded_of_row (C := Tryd.checked) (s := OpenSpec.ofChange Rows.topPolicySpec) own started (by kernel_rfl) Tryd.func4
    (witness_row_at (enc := enc) (C := Tryd.checked) false (laidWorld os) args0 rfl (by kernel_rfl) (by kernel_rfl) (by kernel_rfl)
      (OpenSpec.preRow_of_cond 8 hx (by kernel_rfl) (fun k hk => by cases hk) (by kernel_rfl) (laid_met os))) ?_
  intro W base args ds gs before hval hW _ _ _ hL hsh _
  exact contract H enc W base args ds gs before hval hL hsh hW

theorem said : Rows.TopPolicySaid :=
  OpenClaim.holds_of_cond 4 Tryd.f4 rfl rfl rfl rfl rfl rfl rfl ⟨rfl, rfl, rfl, rfl, rfl⟩ rfl rfl rfl rfl rfl (by kernel_rfl) Tryd.func4 (by kernel_rfl)
    (of_decide_eq_true (by kernel_rfl)) (by unfold Func.isWrapper; first | (rw [if_pos (by decide +kernel)]; kernel_rfl) | (rw [if_neg (by decide +kernel)]; exact ⟨rfl, rfl⟩))
    (fun os started H enc _ F => by rw [OpenClaim.pre_eq_preRow]; exact lifted os started H enc F)

theorem plain (f : FuncId) (fn : Func) (hf : Tryd.pinned.checked.prog.funcNamed "doorward/doorwardtop.TopPolicy" = some f) (hfn : Tryd.pinned.checked.prog.funcs[f]? = some fn) :
    true = Tryd.pinned.checked.prog.looks [] ∧ ∀ (j : Nat) t, fn.params[j]? = some t → Tryd.pinned.checked.prog.wantsStandIn t = false := by
  obtain rfl : f = 4 := Option.some.inj ((show Tryd.prog.funcNamed "doorward/doorwardtop.TopPolicy" = some 4 by kernel_rfl).symm.trans hf) |>.symm
  obtain rfl : fn = Tryd.f4 := (Option.some.inj (Tryd.func4.symm.trans hfn)).symm
  refine ⟨by kernel_rfl, fun j t ht => ?_⟩
  rw [Tryd.params4] at ht
  match j, ht with
  | 0, ht =>
    simp at ht
    subst ht
    exact (show Tryd.prog.wantsStandIn 40 = false by kernel_rfl)
  | 1, ht =>
    simp at ht
    subst ht
    exact (show Tryd.prog.wantsStandIn 44 = false by kernel_rfl)
  | 2, ht =>
    simp at ht
    subst ht
    exact (show Tryd.prog.wantsStandIn 48 = false by kernel_rfl)
  | j + 3, ht => simp at ht

/-- THE CARD. -/
theorem card : Rows.TopPolicyCardSaid :=
  Claim7.holds_tied_plain_at .later [] _ _ _ _ said (fun _ h => by cases h) (by kernel_rfl) (fun _ h => by cases h) topPolicy_row_tie rfl ⟨rfl, rfl⟩ (by kernel_rfl) rfl plain (by kernel_rfl)
end Go.Proofs.YtmgngapkgcofnabDoor.topPolicy
