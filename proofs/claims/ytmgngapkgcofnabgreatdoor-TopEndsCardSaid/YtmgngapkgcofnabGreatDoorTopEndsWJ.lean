/- TopEnds, in plain words: a call ends within 86 steps; one line is written of it. -/
import Derived.Test.YtmgngapkgcofnabGreatDoorWardTopJ
namespace Go.Proofs.YtmgngapkgcofnabGreatDoor
open Go.RowKit Go.PlainAid

/-- The first k acts are done. -/
def didsS (p : PolD) (S : WardS) (l : List ActD) : Nat → WardS
  | 0 => S
  | k + 1 => match l[k]? with
    | some a => didS p (didsS p S l k) a
    | none => didsS p S l k
theorem didsS_at {p : PolD} {S : WardS} {l : List ActD} {k : Nat} {a : ActD} (h : l[k]? = some a) : didsS p S l (k + 1) = didS p (didsS p S l k) a := by rw [didsS, h]
theorem good_dids {p : PolD} (hf : polF p = 0) {S : WardS} {L : Nat} (h : GoodS S L) (l : List ActD) : ∀ k, GoodS (didsS p S l k) (L + 90 * k)
  | 0 => h
  | k + 1 => by
    rw [didsS]
    split
    · exact (good_did hf (good_dids hf h l k) _).mono (by omega)
    · exact (good_dids hf h l k).mono (by omega)
def doneB (S : WardS) (n : Nat) : Prop := (S.t n).phase = 0 ∨ (S.t n).phase = 6
instance (S : WardS) (n : Nat) : Decidable (doneB S n) := by unfold doneB; infer_instance
def mineN (n : Nat) (l : List EntD) : Nat := l.countP fun e => decide (e.thr = n)
theorem mineN_append (n : Nat) (a b : List EntD) : mineN n (a ++ b) = mineN n a + mineN n b := by unfold mineN; exact List.countP_append
theorem mineN_none {n : Nat} {l : List EntD} (h : ∀ e ∈ l, e.thr ≠ n) : mineN n l = 0 := by
  unfold mineN
  rw [List.countP_eq_zero]
  intro e he
  simp [h e he]
/-- What is written of thread n's call, since the log was L0. -/
def Seen (n : Nat) (c : CallD) (L0 : List EntD) (S : WardS) : Prop :=
  ∃ ext, S.log = L0 ++ ext ∧ (∀ e ∈ ext, e.thr = n → e.call = c) ∧ (doneB S n → mineN n ext = 1) ∧ (¬ doneB S n → (S.t n).asked = c ∧ mineN n ext = 0)
theorem seen_enter {S : WardS} {n : Nat} (hn : n < 3) (c : CallD) (h0 : (S.t n).phase = 0) : enterE S n = 0 ∧ Seen n c S.log (enterS S n c) ∧ leftT ((enterS S n c).t n) ≤ 86 := by
  have e0 : enterE S n = 0 := by unfold enterE; rw [if_neg (by omega), if_pos (by simpa using h0)]
  have e1 : enterS S n c = S.setT n ⟨1, c, c, 0, [], zeroVals, []⟩ := by unfold enterS; rw [if_pos e0]; simp
  have e2 : (S.setT n ⟨1, c, c, 0, [], zeroVals, []⟩).t n = ⟨1, c, c, 0, [], zeroVals, []⟩ := if_pos rfl
  refine ⟨e0, ⟨[], ?_, (fun e he => by cases he), ?_, ?_⟩, ?_⟩
  · rw [e1]; simp [WardS.setT]
  · rw [e1]; unfold doneB; rw [e2]; intro h; simp at h
  · rw [e1]; unfold doneB; rw [e2]; intro _; exact ⟨rfl, rfl⟩
  · rw [e1, e2]; simp [leftT]
theorem seen_step {p : PolD} (hf : polF p = 0) {S : WardS} {n : Nat} {c : CallD} {L0 : List EntD} (h : Seen n c L0 S) (hg : GoodT (S.t n)) (hd : ¬ doneB S n) : Seen n c L0 (stepT p S n) ∧ leftT ((stepT p S n).t n) < leftT (S.t n) := by
  obtain ⟨ext, h1, h2, _, h4⟩ := h
  obtain ⟨k1, k2⟩ := h4 hd
  obtain ⟨_, _, g3, g4⟩ := goes_step hf S n hg (fun e => hd (.inl e)) (fun e => hd (.inr e))
  refine ⟨?_, g3⟩
  rcases g4 with ⟨a1, a2, a3, a4⟩ | ⟨e, a1, a2, a3, a4, _⟩
  · exact ⟨ext, a1.trans h1, h2, (fun hd2 => absurd hd2 (by unfold doneB; omega)), fun _ => ⟨a2.trans k1, k2⟩⟩
  · refine ⟨ext ++ [e], by rw [a1, h1, List.append_assoc], ?_, fun _ => ?_, fun hd2 => absurd a4 hd2⟩
    · intro x hx
      rcases List.mem_append.1 hx with hx | hx
      · exact h2 x hx
      · rw [List.mem_singleton] at hx
        subst hx
        exact fun _ => a3.trans k1
    · rw [mineN_append, k2]
      unfold mineN
      simp [a2]
/-- What others do leaves a thread alone. -/
def Aside (n : Nat) (S S' : WardS) : Prop := S'.t n = S.t n ∧ ∃ ext, S'.log = S.log ++ ext ∧ ∀ e ∈ ext, e.thr ≠ n
theorem Aside.refl (n : Nat) (S : WardS) : Aside n S S := ⟨rfl, [], by simp, fun _ h => by cases h⟩
theorem Aside.trans {n : Nat} {S S' S'' : WardS} (h : Aside n S S') (k : Aside n S' S'') : Aside n S S'' := by
  obtain ⟨h1, x, h2, h3⟩ := h
  obtain ⟨k1, y, k2, k3⟩ := k
  refine ⟨k1.trans h1, x ++ y, by rw [k2, h2, List.append_assoc], fun e he => ?_⟩
  rcases List.mem_append.1 he with he | he
  · exact h3 e he
  · exact k3 e he
theorem aside_step {p : PolD} (hf : polF p = 0) {S : WardS} (hG : ∀ k, GoodT (S.t k)) {n : Nat} {m : Int} (hm : m ≠ (n : Int)) : Aside n S (stepS p S m) := by
  unfold stepS
  split
  · exact Aside.refl n S
  · rename_i hr
    have hne : n ≠ m.toNat := by clear hG hf; omega
    by_cases h0 : (S.t m.toNat).phase = 0 ∨ (S.t m.toNat).phase = 6
    · rw [stepT_rest h0]; exact Aside.refl n S
    · obtain ⟨k1, _, _, k4⟩ := goes_step hf S m.toNat (hG _) (fun e => h0 (.inl e)) (fun e => h0 (.inr e))
      refine ⟨k1 n hne, ?_⟩
      rcases k4 with ⟨e, _⟩ | ⟨e, he, ht, _⟩
      · exact ⟨[], by rw [e]; simp, fun _ h => by cases h⟩
      · refine ⟨[e], he, fun x hx => ?_⟩
        rw [List.mem_singleton] at hx
        subst hx
        rw [ht]; exact fun h => hne h.symm
theorem aside_steps {p : PolD} (hf : polF p = 0) {S : WardS} {L : Nat} (hG : GoodS S L) {n : Nat} {m : Int} (hm : m ≠ (n : Int)) : ∀ k, Aside n S (stepsS p S m k)
  | 0 => Aside.refl n S
  | k + 1 => (aside_steps hf hG hm k).trans (aside_step hf (good_steps hf hG m k).thr hm)
theorem aside_did {p : PolD} (hf : polF p = 0) {S : WardS} {L : Nat} (hG : GoodS S L) {n : Nat} {a : ActD} (hm : a.n ≠ (n : Int)) (hk : (a.kind.toList == ([101, 110, 116, 101, 114] : List UInt8)) = false) : Aside n S (didS p S a) := by
  have hM : ∀ M, Aside n S (S.setM M) := fun M => ⟨rfl, [], by simp [WardS.setM], fun _ h => by cases h⟩
  unfold didS
  rw [hk]
  split
  · exact hM _
  · split
    · exact hM _
    · split
      · exact hM _
      · rw [if_neg (by simp)]
        split
        · exact aside_steps hf hG hm _
        · exact aside_step hf hG.thr hm
theorem seen_aside {n : Nat} {c : CallD} {L0 : List EntD} {S S' : WardS} (h : Seen n c L0 S) (ha : Aside n S S') : Seen n c L0 S' := by
  obtain ⟨ext, h1, h2, h3, h4⟩ := h
  obtain ⟨a1, x, a2, a3⟩ := ha
  have e : doneB S' n ↔ doneB S n := by unfold doneB; rw [a1]
  have m0 : mineN n (ext ++ x) = mineN n ext := by rw [mineN_append, mineN_none a3]; rfl
  refine ⟨ext ++ x, by rw [a2, h1, List.append_assoc], fun y hy => ?_, fun hd => ?_, fun hd => ?_⟩
  · rcases List.mem_append.1 hy with hy | hy
    · exact h2 y hy
    · exact fun ht => absurd ht (a3 y hy)
  · rw [m0]; exact h3 (e.1 hd)
  · rw [m0, a1]; exact h4 (fun h => hd (e.2 h))
/-- What stands at round k of the call. -/
structure EndR (n : Nat) (c : CallD) (L0 : List EntD) (M : Nat) (S : WardS) (k : Nat) : Prop where
  good : GoodS S (M + 91 * k)
  left : leftT (S.t n) + k ≤ 86 ∨ doneB S n
  seen : Seen n c L0 S
theorem end_stop {n : Nat} {c : CallD} {L0 : List EntD} {M : Nat} {S : WardS} (h : EndR n c L0 M S 86) : doneB S n := by
  rcases h.left with hl | hl
  · exact leftT_zero (h.good.thr n) (by omega)
  · exact hl
theorem end_step {p : PolD} (hf : polF p = 0) {n : Nat} {c : CallD} {L0 : List EntD} {M : Nat} {S : WardS} {k : Nat} (hn : n < 3) (h : EndR n c L0 M S k) (hd : ¬ doneB S n) :
    stepE S n = 0 ∧ EndR n c L0 M (stepS p S n) (k + 1) := by
  have h2 : stepS p S n = stepT p S n := by unfold stepS; rw [if_neg (by omega)]; simp
  obtain ⟨s1, s2⟩ := seen_step hf h.seen (h.good.thr n) hd
  refine ⟨?_, ?_, ?_, ?_⟩
  · unfold stepE; rw [if_neg (by omega), if_neg]
    intro e; exact hd (.inr (by simpa using e))
  · exact (good_step hf h.good n).mono (by omega)
  · rw [h2]
    rcases h.left with hl | hl
    · left; omega
    · exact absurd hl hd
  · rw [h2]; exact s1
/-- A round: a step, and what another does. -/
theorem end_round {p : PolD} (hf : polF p = 0) {n : Nat} {c : CallD} {L0 : List EntD} {M : Nat} {S : WardS} {k : Nat} (hn : n < 3) (h : EndR n c L0 M S k) (hd : ¬ doneB S n) {a : ActD} (hm : a.n ≠ (n : Int)) (hk : (a.kind.toList == ([101, 110, 116, 101, 114] : List UInt8)) = false) :
    EndR n c L0 M (didS p (stepS p S n) a) (k + 1) := by
  obtain ⟨_, h1⟩ := end_step hf hn h hd
  have hG := good_step hf h.good n
  have hA := aside_did hf hG hm hk
  refine ⟨(good_did hf hG a).mono (by omega), ?_, seen_aside h1.seen hA⟩
  unfold doneB
  rw [hA.1]
  exact h1.left
theorem logCells_get : ∀ (l : List EntD) (j : Nat) (e : EntD) (i : Nat), l[j]? = some e → i < 21 → (logCells l)[j * 21 + i]? = (entCells e)[i]?
  | [], j, e, i, h, _ => by simp at h
  | x :: r, 0, e, i, h, hi => by
    simp only [List.getElem?_cons_zero, Option.some.injEq] at h
    subst h
    have e1 : logCells (x :: r) = entCells x ++ logCells r := by unfold logCells; rw [List.flatMap_cons]
    rw [e1, List.getElem?_append_left (by rw [entCells_len]; omega)]
    simp
  | x :: r, j + 1, e, i, h, hi => by
    simp only [List.getElem?_cons_succ] at h
    have e1 : logCells (x :: r) = entCells x ++ logCells r := by unfold logCells; rw [List.flatMap_cons]
    rw [e1, List.getElem?_append_right (by rw [entCells_len]; omega), entCells_len, show (j + 1) * 21 + i - 21 = j * 21 + i from by omega]
    exact logCells_get r j e i h hi
theorem logSl_at {w : World} {H : Nat} {A : Option Addr} {c : Nat} {l : List EntD} (h : LogSl w H (.slice A l.length c) l) {j : Nat} {e : EntD} (hj : l[j]? = some e) :
    ∃ b, A = some ⟨b, 0, none⟩ ∧ w.cell? ⟨b, j * 21 + 0, none⟩ = some (.int .i64 e.kind) ∧ w.cell? ⟨b, j * 21 + 1, none⟩ = some (.int .i64 e.thr) ∧ w.cell? ⟨b, j * 21 + 2, none⟩ = some (.int .u32 e.call.arch) ∧ w.cell? ⟨b, j * 21 + 3, none⟩ = some (.int .u32 e.call.nr) ∧ w.cell? ⟨b, j * 21 + 4, none⟩ = some (.int .u64 e.call.a0) ∧ w.cell? ⟨b, j * 21 + 5, none⟩ = some (.int .u64 e.call.a1) ∧ w.cell? ⟨b, j * 21 + 6, none⟩ = some (.int .u64 e.call.a2) ∧ w.cell? ⟨b, j * 21 + 7, none⟩ = some (.int .u64 e.call.a3) := by
  have hr := Reads.of_own h
  have hlt : j < l.length := by
    rcases Nat.lt_or_ge j l.length with h1 | h1
    · exact h1
    · rw [List.getElem?_eq_none h1] at hj; cases hj
  obtain ⟨ad, ha, _, hc⟩ := hr.2 (by omega)
  rcases h.2 with ⟨h1, _⟩ | ⟨g, cap, cur, hv, _⟩
  · rw [ha] at h1; simp at h1
  · rw [ha] at hv
    simp only [Value.slice.injEq, Option.some.injEq] at hv
    obtain ⟨rfl, _⟩ := hv
    have key : ∀ i u, i < 21 → (entCells e)[i]? = some u → w.cell? ⟨g, j * 21 + i, none⟩ = some u := fun i u hi hu => by
      have := hc (j * 21 + i) u ((logCells_get l j e i hj hi).trans hu)
      rw [show (⟨g, 0, none⟩ : Addr).add (j * 21 + i) = ⟨g, j * 21 + i, none⟩ from by unfold Addr.add; split <;> simp] at this
      exact this
    exact ⟨g, ha, key 0 _ (by omega) rfl, key 1 _ (by omega) rfl, key 2 _ (by omega) rfl, key 3 _ (by omega) rfl, key 4 _ (by omega) rfl, key 5 _ (by omega) rfl, key 6 _ (by omega) rfl, key 7 _ (by omega) rfl⟩
/-- Two words of four registers that are one. -/
theorem eq_regs (a0 a1 a2 a3 : Int) (w : World) : (Op.equalIn 9999 50 (.agg #[.int .u64 a0, .int .u64 a1, .int .u64 a2, .int .u64 a3]) (.agg #[.int .u64 a0, .int .u64 a1, .int .u64 a2, .int .u64 a3])).run Tryz.prog w = .ok true w := by
  have u3 := Tryz.underlying42
  have a3 := Tryz.isAgg42
  have z3 := Tryz.sizeOf42
  rw [show (9999 : Nat) = 9998 + 1 from rfl, Op.equalIn]
  simp only [Sem.run_bind, run_underlying Tryz.underlying50, Result.andThen_ok]
  simp only [Std.Legacy.Range.forIn_eq_forIn_range', Std.Legacy.Range.size, Nat.sub_zero, Nat.add_sub_cancel, Nat.div_one, List.range'_succ, List.range'_zero, List.forIn_cons, List.forIn_nil]
  go_simp
theorem mineN_take {n : Nat} {l : List EntD} {j : Nat} {e : EntD} (h : l[j]? = some e) : mineN n (l.take (j + 1)) = mineN n (l.take j) + if e.thr = n then 1 else 0 := by
  rw [List.take_add_one, h, mineN_append]
  unfold mineN
  simp
end Go.Proofs.YtmgngapkgcofnabGreatDoor
/- TopEnds: the walk. Printed by gentopends.py. -/
namespace Go.Proofs.YtmgngapkgcofnabGreatDoor
open Go.RowKit Go.PlainAid

theorem heaps2 (w : World) (o1 o2 : Obj) (W : World) (h : Below ((w.alloc o1).alloc o2).heap.size ((w.alloc o1).alloc o2) W) :
    Below w.heap.size w W ∧ W.heap[w.heap.size]? = some o1 ∧ W.heap[w.heap.size + 1]? = some o2 := by
  obtain ⟨h3, h4⟩ : Below (w.alloc o1).heap.size (w.alloc o1) W ∧ W.heap[w.heap.size + 1]? = some o2 := by
    refine ⟨((Below.refl _ _).alloc (Nat.le_refl _) o2).trans (h.mono (by simp)), ?_⟩
    have := heap_alloc_new (w.alloc o1) o2
    have e : (w.alloc o1).heap.size = w.heap.size + 1 := by simp
    rw [e] at this
    exact (h.block _ (by simp)).trans this
  exact ⟨((Below.refl _ _).alloc (Nat.le_refl _) o1).trans (h3.mono (by simp)), (h3.block _ (by simp)).trans (heap_alloc_new w o1), h4⟩
theorem tcrow3 {W : World} {b : Nat} {t : TypeId} {a0 a1 a2 : Value} (h : W.heap[b]? = some (.cells #[a0, a1, a2] t (0, 0))) : W.cell? ⟨b, 0, none⟩ = some a0 ∧ W.cell? ⟨b, 1, none⟩ = some a1 ∧ W.cell? ⟨b, 2, none⟩ = some a2 :=
  ⟨(cell_of_row _ _ _ _ _ _ h).trans rfl, (cell_of_row _ _ _ _ _ _ h).trans rfl, (cell_of_row _ _ _ _ _ _ h).trans rfl⟩
theorem tcrow6 {W : World} {b : Nat} {t : TypeId} {a0 a1 a2 a3 a4 a5 : Value} (h : W.heap[b]? = some (.cells #[a0, a1, a2, a3, a4, a5] t (0, 0))) : W.cell? ⟨b, 0, none⟩ = some a0 ∧ W.cell? ⟨b, 1, none⟩ = some a1 ∧ W.cell? ⟨b, 2, none⟩ = some a2 ∧ W.cell? ⟨b, 3, none⟩ = some a3 ∧ W.cell? ⟨b, 4, none⟩ = some a4 ∧ W.cell? ⟨b, 5, none⟩ = some a5 :=
  ⟨(cell_of_row _ _ _ _ _ _ h).trans rfl, (cell_of_row _ _ _ _ _ _ h).trans rfl, (cell_of_row _ _ _ _ _ _ h).trans rfl, (cell_of_row _ _ _ _ _ _ h).trans rfl, (cell_of_row _ _ _ _ _ _ h).trans rfl, (cell_of_row _ _ _ _ _ _ h).trans rfl⟩
theorem tlight_bounds {p : PolD} (h : lightP p = true) : (∀ r ∈ p.rules, ∀ c ∈ r.conds, c.glob.size ≤ 4096) ∧ p.rules.length ≤ 4096 ∧ ∀ r ∈ p.rules, r.conds.length ≤ 4096 := by
  obtain ⟨h1, h2⟩ := (lightP_iff p).1 h
  exact ⟨fun r hr c hc => by have := (h2 r hr).2 c hc; omega, by omega, fun r hr => by have := (h2 r hr).1; omega⟩
theorem tact_info : (Tryz.prog.info? 54).map (·.size) = some 11 := by kernel_rfl
/-- A word of acts that lie below. -/
theorem acts_at {w : World} {H : Nat} {v : Value} {l : List ActD} (h : ActsSl w H v l) : ∃ A c, v = .slice A l.length c ∧ (∀ x ∈ l, x.ok) ∧ ∀ i x, l[i]? = some x → ∃ b o, A = some ⟨b, o, none⟩ ∧ ∀ W, Below H w W → W.rangeAt b (o + i * 11) x.row := by
  obtain ⟨h0, A, c, rfl, h2⟩ := h
  refine ⟨A, c, rfl, h0, fun i x hx => ?_⟩
  rcases h2 with h2 | ⟨b, o, ha, hB, hr⟩
  · rw [h2] at hx; simp at hx
  · exact ⟨b, o, ha, fun W hb => hr.below hb hB i x hx⟩
attribute [local go_sem ↓] eq_regs
def rx (m : Int) (x y : Bool) : Bool := if m = 30 then x else y
set_option linter.unusedSimpArgs false in
set_option maxRecDepth 100000 in
set_option maxHeartbeats 16000000 in
theorem topEnds_walk (HN : NumSaid) (v0 v1 v4 : Value) (p : PolD) (l1 l4 : List ActD) (n : Int) (c : CallD) (w : World) (hS : Shelf0 w) (h0 : PolAt w w.heap.size v0 p) (h1 : ActsSl w w.heap.size v1 l1) (h4 : ActsSl w w.heap.size v4 l4) (hc : c.ok) :
    Calls Tryz.prog 5 #[v0, v1, .int .i64 n, c.v, v4] w fun e w' => e = .returned (.bool true) ∧ Below w.heap.size w w' := by
  have hpol := h0
  obtain ⟨A, cp, rfl, _⟩ := h0
  obtain ⟨A1, c1, rfl, hok1, hat1⟩ := acts_at h1
  obtain ⟨A4, c4, rfl, hok4, hat4⟩ := acts_at h4
  obtain ⟨b0, hb0⟩ : ∃ b0, lightP p = b0 := ⟨_, rfl⟩
  obtain ⟨b1, hb1⟩ : ∃ b1, lightF l1 30 = b1 := ⟨_, rfl⟩
  obtain ⟨b2, hb2⟩ : ∃ b2, lightF l4 40 = b2 := ⟨_, rfl⟩
  have HLP : Hid (∀ W, Below w.heap.size w W → Calls Tryz.prog 9 #[.agg #[.slice A p.rules.length cp, .int .i64 p.kind, .int .i64 p.errno]] W fun e w' => e = .returned (.bool b0) ∧ Below W.heap.size W w') := fun W hb => by rw [← hb0]; exact lightPolicy_any _ _ W (polAt_up hpol hb)
  have HL1 : Hid (∀ W, Below w.heap.size w W → Calls Tryz.prog 10 #[.slice A1 l1.length c1, .int .i64 30] W fun e w' => e = .returned (.bool b1) ∧ W = w') := fun W hb => by rw [← hb1]; exact light_any _ _ _ W ((h1.below hb).mono hb.size) (by omega)
  have HL4 : Hid (∀ W, Below w.heap.size w W → Calls Tryz.prog 10 #[.slice A4 l4.length c4, .int .i64 40] W fun e w' => e = .returned (.bool b2) ∧ W = w') := fun W hb => by rw [← hb2]; exact light_any _ _ _ W ((h4.below hb).mono hb.size) (by omega)
  have HLX : Hid (∀ W v (m : Int), Below w.heap.size w W → ((v = .slice A1 l1.length c1 ∧ m = 30) ∨ (v = .slice A4 l4.length c4 ∧ m = 40)) → Calls Tryz.prog 10 #[v, .int .i64 m] W fun e w' => e = .returned (.bool (rx m b1 b2)) ∧ W = w') := by
    rintro W v m hb (⟨rfl, rfl⟩ | ⟨rfl, rfl⟩)
    · exact HL1.out W hb
    · exact HL4.out W hb
  have RX : ∀ x y, rx 30 x y = x ∧ rx 40 x y = y := fun _ _ => ⟨rfl, rfl⟩
  clear HL1 HL4
  have HNW : Hid (∀ W, Below w.heap.size w W → b0 = true → Calls Tryz.prog 12 #[.agg #[.slice A p.rules.length cp, .int .i64 p.kind, .int .i64 p.errno]] W fun e w' => Below W.heap.size W w' ∧ ((polF p ≠ 0 ∧ e = .returned (.tuple #[.pointer none, errV (polF p)])) ∨ (polF p = 0 ∧ ∃ g H, e = .returned (.tuple #[.pointer (some ⟨g, 0, none⟩), .nilIface]) ∧ W.heap.size ≤ H ∧ WardAt w' H (fun k => H ≤ k) g p WardS.new))) := fun W hb hb2 => by
    obtain ⟨g1, g2, g3⟩ := tlight_bounds (hb0.trans hb2)
    exact wardNew_any HN _ p W (polAt_up hpol hb) (hS.up hb) g1 g2 g3
  have HLL : Hid (b1 = true → b2 = true → l1.length ≤ 30 ∧ l4.length ≤ 40 ∧ (∀ x ∈ l1, x.s.size ≤ 200) ∧ ∀ x ∈ l4, x.s.size ≤ 200) := fun k1 k2 => by
    obtain ⟨q1, q2⟩ := lightF_len (hb1.trans k1)
    obtain ⟨q3, q4⟩ := lightF_len (hb2.trans k2)
    exact ⟨by omega, by omega, q2, q4⟩
  have HAT1 := Lib.hid hat1
  have HAT4 := Lib.hid hat4
  have HOK1 := Lib.hid hok1
  have HOK4 := Lib.hid hok4
  have HC := Lib.hid hc
  clear hpol h1 h4 hS hb0 hb1 hb2 hat1 hat4 hok1 hok4 hc
  obtain ⟨arch, cnr, a0, a1, a2, a3⟩ := c
  unfold CallD.v
  simp only
  have HIN := Lib.hid (heaps2 w (.cells #[.slice A p.rules.length cp, .int .i64 p.kind, .int .i64 p.errno] 26) (.cells #[.int .u32 arch, .int .u32 cnr, .int .u64 a0, .int .u64 a1, .int .u64 a2, .int .u64 a3] 52))
  have HB0 : Hid (Below ((w.alloc (.cells #[.slice A p.rules.length cp, .int .i64 p.kind, .int .i64 p.errno] 26)).alloc (.cells #[.int .u32 arch, .int .u32 cnr, .int .u64 a0, .int .u64 a1, .int .u64 a2, .int .u64 a3] 52)).heap.size ((w.alloc (.cells #[.slice A p.rules.length cp, .int .i64 p.kind, .int .i64 p.errno] 26)).alloc (.cells #[.int .u32 arch, .int .u32 cnr, .int .u64 a0, .int .u64 a1, .int .u64 a2, .int .u64 a3] 52)) ((w.alloc (.cells #[.slice A p.rules.length cp, .int .i64 p.kind, .int .i64 p.errno] 26)).alloc (.cells #[.int .u32 arch, .int .u32 cnr, .int .u64 a0, .int .u64 a1, .int .u64 a2, .int .u64 a3] 52))) := Below.refl _ _
  have HSZ : Hid (((w.alloc (.cells #[.slice A p.rules.length cp, .int .i64 p.kind, .int .i64 p.errno] 26)).alloc (.cells #[.int .u32 arch, .int .u32 cnr, .int .u64 a0, .int .u64 a1, .int .u64 a2, .int .u64 a3] 52)).heap.size = w.heap.size + 2) := by show _ = _; simp

  cases b0 with
  | false =>
    as_aux_lemma =>
      clear HLX HNW HLL HAT1 HAT4 HOK1 HOK4 HC
      go_enter Tryz.func5, Tryz.ntmps5
      go_upto_region 1 with fail
      generalize ((w.alloc (.cells #[.slice A p.rules.length cp, .int .i64 p.kind, .int .i64 p.errno] 26)).alloc (.cells #[.int .u32 arch, .int .u32 cnr, .int .u64 a0, .int .u64 a1, .int .u64 a2, .int .u64 a3] 52)) = W0 at *
      obtain ⟨hbl, hpp, hcc⟩ := HIN.out W0 HB0.out
      have HBL := Lib.hid hbl
      obtain ⟨s0, s1, s2⟩ := tcrow3 hpp
      clear hpp hcc hbl
      go_wp2_with (first | (go_at_call 9; refine cargs (by simp [Act.eval]) ((HLP.out _ HBL.out).mono ?_); rintro e w1 ⟨rfl, hq⟩; have HB1 := Lib.hid (HB0.out.trans hq); have HBL1 := Lib.hid (HBL.out.trans (hq.mono HBL.out.size)); clear hq) | fail)
      go_ret
      exact ⟨rfl, HBL1.out⟩
  | true =>
    cases b1 with
    | false =>
      as_aux_lemma =>
        clear HNW HLL HAT1 HAT4 HOK1 HOK4 HC
        go_enter Tryz.func5, Tryz.ntmps5
        go_upto_region 1 with fail
        generalize ((w.alloc (.cells #[.slice A p.rules.length cp, .int .i64 p.kind, .int .i64 p.errno] 26)).alloc (.cells #[.int .u32 arch, .int .u32 cnr, .int .u64 a0, .int .u64 a1, .int .u64 a2, .int .u64 a3] 52)) = W0 at *
        obtain ⟨hbl, hpp, hcc⟩ := HIN.out W0 HB0.out
        have HBL := Lib.hid hbl
        obtain ⟨s0, s1, s2⟩ := tcrow3 hpp
        clear hpp hcc hbl
        go_wp2_with (first | (go_at_call 9; refine cargs (by simp [Act.eval]) ((HLP.out _ HBL.out).mono ?_); rintro e w1 ⟨rfl, hq⟩; have HB1 := Lib.hid (HB0.out.trans hq); have HBL1 := Lib.hid (HBL.out.trans (hq.mono HBL.out.size)); clear hq) | (go_at_call 10; refine (HLX.out _ _ _ HBL1.out (by simp [Act.eval])).mono ?_; rintro e w2 ⟨rfl, rfl⟩; simp only [RX]) | fail)
        go_ret
        exact ⟨rfl, HBL1.out⟩
    | true =>
      cases b2 with
      | false =>
        as_aux_lemma =>
          clear HNW HLL HAT1 HAT4 HOK1 HOK4 HC
          go_enter Tryz.func5, Tryz.ntmps5
          go_upto_region 1 with fail
          generalize ((w.alloc (.cells #[.slice A p.rules.length cp, .int .i64 p.kind, .int .i64 p.errno] 26)).alloc (.cells #[.int .u32 arch, .int .u32 cnr, .int .u64 a0, .int .u64 a1, .int .u64 a2, .int .u64 a3] 52)) = W0 at *
          obtain ⟨hbl, hpp, hcc⟩ := HIN.out W0 HB0.out
          have HBL := Lib.hid hbl
          obtain ⟨s0, s1, s2⟩ := tcrow3 hpp
          clear hpp hcc hbl
          go_wp2_with (first | (go_at_call 9; refine cargs (by simp [Act.eval]) ((HLP.out _ HBL.out).mono ?_); rintro e w1 ⟨rfl, hq⟩; have HB1 := Lib.hid (HB0.out.trans hq); have HBL1 := Lib.hid (HBL.out.trans (hq.mono HBL.out.size)); clear hq) | (go_at_call 10; refine (HLX.out _ _ _ HBL1.out (by simp [Act.eval])).mono ?_; rintro e w2 ⟨rfl, rfl⟩; simp only [RX]) | fail)
          go_ret
          exact ⟨rfl, HBL1.out⟩
      | true =>
        as_aux_lemma =>
          obtain ⟨n1, n4, sm1, sm4⟩ := HLL.out rfl rfl
          by_cases hf : polF p = 0
          · have HFP := Lib.hid hf
            clear hf HLL
            go_enter Tryz.func5, Tryz.ntmps5
            go_upto_region 1 with fail
            generalize ((w.alloc (.cells #[.slice A p.rules.length cp, .int .i64 p.kind, .int .i64 p.errno] 26)).alloc (.cells #[.int .u32 arch, .int .u32 cnr, .int .u64 a0, .int .u64 a1, .int .u64 a2, .int .u64 a3] 52)) = W0 at *
            obtain ⟨hbl, hpp, hcc⟩ := HIN.out W0 HB0.out
            have HBL := Lib.hid hbl
            obtain ⟨s0, s1, s2⟩ := tcrow3 hpp
            clear hpp hcc hbl
            go_upto_region 3 with (first | (go_at_call 9; refine cargs (by simp [Act.eval]) ((HLP.out _ HBL.out).mono ?_); rintro e w1 ⟨rfl, hq⟩; have HB1 := Lib.hid (HB0.out.trans hq); have HBL1 := Lib.hid (HBL.out.trans (hq.mono HBL.out.size)); clear hq) | (go_at_call 10; refine (HLX.out _ _ _ HBL1.out (by simp [Act.eval])).mono ?_; rintro e w2 ⟨rfl, rfl⟩; simp only [RX]) | fail)
            obtain ⟨_, hpp1, hcc1⟩ := HIN.out _ HB1.out
            obtain ⟨p0, p1, p2⟩ := tcrow3 hpp1
            clear hpp1 hcc1 HLP HLX s0 s1 s2
            have HNW1 := Lib.hid (HNW.out _ HBL1.out (by trivial))
            clear HNW
            go_upto_region 8 with (first | (go_at_call 12; refine cargs (by simp [Act.eval]) (HNW1.out.mono ?_); rintro e w3 ⟨hq, hr⟩; obtain ⟨hp0, g, H, rfl, hH, hW⟩ := hr.resolve_left (fun hh => hh.1 HFP.out); have HB3 := Lib.hid (HB1.out.trans (hq.mono HB1.out.size)); have HHH := Lib.hid (Nat.le_trans HB1.out.size hH); have HWA := Lib.hid hW; clear hq hr hp0 hH hW) | fail)
            clear HNW1 p0 p1 p2
            go_wp2_with fail
            go_loopw [13] (fun iv wr => ∃ i : Nat, i ≤ l1.length ∧ iv = .int .i64 i ∧ Hid (WardAt wr H (fun k => H ≤ k) g p (didsS p WardS.new l1 i)) ∧ Hid (Below W0.heap.size W0 wr)) (fun iv _ => l1.length - (intOf iv).toNat)
            case atStart => exact ⟨0, Nat.zero_le _, rfl, HWA, HB3⟩
            case round =>
              obtain ⟨i, hi, rfl, HI, HBI⟩ := hrel
              clear HWA HB3 HBL1 HB1 HBL HB0
              by_cases hlt : i < l1.length
              · have x1 : (i : Int) < (l1.length : Int) := by omega
                have x2 : (0 : Int) ≤ (i : Int) := by omega
                have hl : l1[i]? = some l1[i] := by simp
                obtain ⟨b, o, rfl, hra⟩ := HAT1.out i _ hl
                have HRA := Lib.hid (hra wr ((HIN.out wr HBI.out).1))
                have HDID := Lib.hid (did_any H (fun k => H ≤ k) g p (didsS p WardS.new l1 i) (90 * i) l1[i] wr HI.out HFP.out ((good_dids HFP.out good_new l1 i).mono (by omega)) (by omega) (fun k hk => Nat.le_trans HI.out.few hk) (HOK1.out _ (by simp)) (by have := sm1 _ (List.getElem_mem hlt); omega))
                have HNX : Hid (∀ w', WardAt w' H (fun k => H ≤ k) g p (didS p (didsS p WardS.new l1 i) l1[i]) → Frame (fun k => H ≤ k) wr w' → Hid (WardAt w' H (fun k => H ≤ k) g p (didsS p WardS.new l1 (i + 1))) ∧ Hid (Below W0.heap.size W0 w')) := fun w' k1 k2 => ⟨by rw [didsS_at hl]; exact k1, HBI.out.trans ((k2.below (fun k hk => hk) HI.out.few).mono HHH.out)⟩
                have HRL : Hid (l1[i].row.length = 11) := rfl
                generalize didS p (didsS p WardS.new l1 i) l1[i] = S2 at *
                generalize l1[i].row = R at *
                clear hl hra HAT1 HAT4 HOK1 HOK4 sm1 sm4
                go_wp2_with (first
                  | (refine wpList_load_mid rfl 54 (.tmp 54) rfl b (o + i * 11) (by simp [Act.eval, Act.put]) R _ HRA.out Tryz.underlying54 rfl (by rw [HRL.out]; exact tact_info) ?_)
                  | (go_at_call 27; refine cargs (by simp [Act.eval]) (HDID.out.mono ?_); rintro e w5 ⟨rfl, hx⟩; have HX := Lib.hid (HNX.out _ hx.1 hx.2); clear hx)
                  | fail)
                go_roundw
                case rel => exact ⟨i + 1, by omega, by go_num, HX.out.1, HX.out.2⟩
                case measure => simp [intOf]; omega
              · obtain rfl : i = l1.length := by omega
                have HG0 : Hid (GoodS (didsS p WardS.new l1 l1.length) 2700) := (good_dids HFP.out good_new l1 _).mono (by omega)
                generalize didsS p WardS.new l1 l1.length = S at *
                clear HAT1 HOK1 sm1 hlt hi
                have HEN := Lib.hid (wardEnter_any H (fun k => H ≤ k) g p S n ⟨arch, cnr, a0, a1, a2, a3⟩ wr HI.out HC.out)
                unfold CallD.v at HEN
                simp only at HEN
                obtain ⟨hbw, _, hcc⟩ := HIN.out wr HBI.out
                obtain ⟨t0, t1, t2, t3, t4, t5⟩ := tcrow6 hcc
                have HBW := Lib.hid hbw
                clear hbw hcc
                by_cases hr : n < 0 ∨ 3 ≤ n
                · clear HEN HG0 HI HAT4 HOK4 sm4 HC t0 t1 t2 t3 t4 t5
                  by_cases h0 : n < 0
                  · clear hr
                    go_wp2_with fail
                    go_ret
                    exact ⟨rfl, HBW.out⟩
                  · have h3 : 3 ≤ n := by omega
                    clear hr
                    go_wp2_with fail
                    go_ret
                    exact ⟨rfl, HBW.out⟩
                · obtain ⟨m, rfl⟩ : ∃ m : Nat, n = m := ⟨n.toNat, by omega⟩
                  have hm : m < 3 := by omega
                  have y1 : ¬ (m : Int) < 0 := by omega
                  have y2 : ¬ (3 : Int) ≤ (m : Int) := by omega
                  clear hr
                  by_cases hph : (S.t m).phase = 0
                  · obtain ⟨e1, e2, e3⟩ := seen_enter hm ⟨arch, cnr, a0, a1, a2, a3⟩ hph
                    have HL0 : Hid ((enterS S m ⟨arch, cnr, a0, a1, a2, a3⟩).log.length = S.log.length) := by
                      show _ = _
                      unfold enterS
                      rw [if_pos e1]; rfl
                    have HED : Hid (EndR m ⟨arch, cnr, a0, a1, a2, a3⟩ S.log 2700 (enterS S m ⟨arch, cnr, a0, a1, a2, a3⟩) 0) := ⟨(good_enterS HG0.out m _).mono (by omega), .inl (by omega), e2⟩
                    rw [e1, errV_zero] at HEN
                    have HNX : Hid (∀ w', WardAt w' H (fun k => H ≤ k) g p (enterS S m ⟨arch, cnr, a0, a1, a2, a3⟩) → Frame (fun k => H ≤ k) wr w' → Hid (Below W0.heap.size W0 w')) := fun w' k1 k2 => HBI.out.trans ((k2.below (fun k hk => hk) HI.out.few).mono HHH.out)
                    clear hph e1 e2 e3 HG0
                    generalize S.log = L0 at *
                    generalize enterS S m ⟨arch, cnr, a0, a1, a2, a3⟩ = S2 at *
                    go_upto_region 14 with (first
                      | (go_at_call 18; refine cargs (by simp [Act.eval]) (HEN.out.mono ?_); rintro e w5 ⟨rfl, h5, f5⟩; have HB5 := HNX.out _ h5 f5; have HW5 := Lib.hid h5; clear h5 f5)
                      | fail)
                    clear HEN HNX HI HBI HBW t0 t1 t2 t3 t4 t5
                    have HLG := Lib.hid (wardLog_any H (fun k => H ≤ k) g p S2 w5 HW5.out)
                    rw [HL0.out] at HLG
                    go_wp2_with (first
                      | (go_at_call 28; refine cargs (by simp [Act.eval]) (HLG.out.mono ?_); rintro e w6 ⟨AL, cL, rfl, -, hb6⟩; have HB6 := Lib.hid (HB5.out.trans (hb6.mono HB5.out.size)); have HW6 := Lib.hid (HW5.out.below hb6); clear hb6)
                      | fail)
                    go_loopw [15] (fun kv wr => ∃ (k : Nat) (S : WardS), k ≤ 86 ∧ kv = .int .i64 k ∧ Hid (WardAt wr H (fun k => H ≤ k) g p S) ∧ Hid (EndR m ⟨arch, cnr, a0, a1, a2, a3⟩ L0 2700 S k) ∧ Hid (Below W0.heap.size W0 wr)) (fun kv _ => 86 - (intOf kv).toNat)
                    case atStart => exact ⟨0, S2, Nat.zero_le _, rfl, HW6, HED, HB6⟩
                    case round =>
                      clear HLG HW5 HB5 HW6 HB6 HED HL0
                      obtain ⟨k, S, hk, rfl, HW, HE, HBK⟩ := hrel
                      have hpr := (HE.out.good.thr m).ph
                      obtain ⟨hbw, _, hcc⟩ := HIN.out wr HBK.out
                      have HBW := Lib.hid hbw
                      have HPF : phaseF S m = (S.t m).phase := by unfold phaseF; rw [if_neg (by omega)]; simp
                      have HPW : Hid (∀ W, Below wr.heap.size wr W → Calls Tryz.prog 29 #[.pointer (some ⟨g, 0, none⟩), .int .i64 (m : Int)] W fun e w' => e = .returned (.int .i64 (S.t m).phase) ∧ W = w') := fun W hb => by
                        have := wardPhase_any H (fun k => H ≤ k) g p S m W (HW.out.below hb)
                        rw [HPF] at this; exact this
                      obtain ⟨ph, hpe⟩ : ∃ ph, (S.t m).phase = ph := ⟨_, rfl⟩
                      rw [hpe] at HPW hpr
                      clear HPF hbw hcc
                      have z1 : (0 : Int) ≤ (k : Int) := by omega
                      by_cases hd : ph = 0 ∨ ph = 6
                      · have hdn : doneB S m := by unfold doneB; rw [hpe]; exact hd
                        obtain ⟨ext, hx1, hx2, hx3, _⟩ := HE.out.seen
                        have HMN := Lib.hid (hx3 hdn)
                        have HCL := Lib.hid hx2
                        have HLL := Lib.hid hx1
                        have HLN : Hid (S.log.length = L0.length + ext.length) := by show _ = _; rw [hx1, List.length_append]
                        have HFEW : Hid (S.log.length ≤ 100000) := by show _ ≤ _; have := HE.out.good.few; omega
                        have HLG : Hid (∀ W, Below wr.heap.size wr W → Calls Tryz.prog 28 #[.pointer (some ⟨g, 0, none⟩)] W fun e w' => ∃ A c, e = .returned (.slice A S.log.length c) ∧ LogSl w' W.heap.size (.slice A S.log.length c) S.log ∧ Below W.heap.size W w') := fun W hb => wardLog_any H (fun k => H ≤ k) g p S W (HW.out.below hb)
                        clear hx1 hx2 hx3 hdn hpe hpr HE HAT4 HOK4 sm4
                        rcases hd with rfl | rfl
                        · by_cases hk6 : (k : Int) < 86
                          · as_aux_lemma =>
                              go_upto_region 23 with (first | (go_at_call 29; refine cargs (by simp [Act.eval]) ((HPW.out _ (Below.refl _ _)).mono ?_); rintro e w8 ⟨rfl, rfl⟩) | fail)
                              go_upto_region 24 with (first | (go_at_call 28; refine cargs (by simp [Act.eval]) ((HLG.out _ (Below.refl _ _)).mono ?_); rintro e w7 ⟨AL, cL, rfl, hls, hb7⟩; have HLS := Lib.hid hls; have HB7 := Lib.hid hb7; clear hls hb7) | fail)
                              have HCE : Hid (∀ W, Below w7.heap.size w7 W → ∀ J e, L0.length ≤ J → ext[J - L0.length]? = some e → ∃ b, AL = some ⟨b, 0, none⟩ ∧ W.cell? ⟨b, J * 21 + 0, none⟩ = some (.int .i64 e.kind) ∧ W.cell? ⟨b, J * 21 + 1, none⟩ = some (.int .i64 e.thr) ∧ W.cell? ⟨b, J * 21 + 2, none⟩ = some (.int .u32 e.call.arch) ∧ W.cell? ⟨b, J * 21 + 3, none⟩ = some (.int .u32 e.call.nr) ∧ W.cell? ⟨b, J * 21 + 4, none⟩ = some (.int .u64 e.call.a0) ∧ W.cell? ⟨b, J * 21 + 5, none⟩ = some (.int .u64 e.call.a1) ∧ W.cell? ⟨b, J * 21 + 6, none⟩ = some (.int .u64 e.call.a2) ∧ W.cell? ⟨b, J * 21 + 7, none⟩ = some (.int .u64 e.call.a3)) := fun W hbW J e hJ he => by
                                obtain ⟨b, hA, k0, k1, k2, k3, k4, k5, k6, k7⟩ := logSl_at HLS.out (by rw [HLL.out, List.getElem?_append_right hJ]; exact he)
                                have hlt : b < w7.heap.size := World.block_lt_of_cell? w7 ⟨b, J * 21 + 0, none⟩ k0
                                exact ⟨b, hA, (hbW.cell (p := ⟨b, _, none⟩) hlt).trans k0, (hbW.cell (p := ⟨b, _, none⟩) hlt).trans k1, (hbW.cell (p := ⟨b, _, none⟩) hlt).trans k2, (hbW.cell (p := ⟨b, _, none⟩) hlt).trans k3, (hbW.cell (p := ⟨b, _, none⟩) hlt).trans k4, (hbW.cell (p := ⟨b, _, none⟩) hlt).trans k5, (hbW.cell (p := ⟨b, _, none⟩) hlt).trans k6, (hbW.cell (p := ⟨b, _, none⟩) hlt).trans k7⟩
                              have HB70 : Hid (Below w7.heap.size w7 w7) := Below.refl _ _
                              clear HLS HLL HLG
                              have hnt := HLN.out
                              have hfw := HFEW.out
                              clear HLN HFEW
                              generalize S.log.length = NT at *
                              generalize L0.length = N0 at *
                              go_wp2_with fail
                              go_loopw [19, 20] (fun mv iv wl => ∃ J MM : Nat, N0 ≤ J ∧ J ≤ NT ∧ iv = .int .i64 (J : Int) ∧ mv = .int .i64 (MM : Int) ∧ MM ≤ J ∧ Hid (MM = mineN m (ext.take (J - N0))) ∧ Hid (Below w7.heap.size w7 wl)) (fun _ iv _ => NT - (intOf iv).toNat)
                              case atStart => exact ⟨N0, 0, Nat.le_refl _, by omega, rfl, rfl, Nat.zero_le _, by show _ = _; simp [mineN], HB70⟩
                              case round =>
                                obtain ⟨J, MM, hJ1, hJ2, rfl, rfl, hMJ, HMM, HB8⟩ := hrel
                                obtain ⟨hbw8, _, hcc8⟩ := HIN.out wr (HBK.out.trans ((HB7.out.trans (HB8.out.mono HB7.out.size)).mono HBK.out.size))
                                obtain ⟨t0, t1, t2, t3, t4, t5⟩ := tcrow6 hcc8
                                have HBW8 := Lib.hid hbw8
                                clear hbw8 hcc8
                                have u1 : (0 : Int) ≤ (J : Int) := by omega
                                by_cases hlt : J < NT
                                · have x1 : (J : Int) < (NT : Int) := by omega
                                  have hlx : J - N0 < ext.length := by omega
                                  have hx : ext[J - N0]? = some ext[J - N0] := by simp
                                  obtain ⟨b, rfl, q0, q1, q2, q3, q4, q5, q6, q7⟩ := HCE.out _ HB8.out J _ hJ1 hx
                                  have hmn := mineN_take (n := m) hx
                                  have hJs : J + 1 - N0 = J - N0 + 1 := by omega
                                  by_cases ht : ext[J - N0].thr = m
                                  · have hcl := HCL.out _ (List.getElem_mem hlx) ht
                                    rw [ht] at q1
                                    rw [hcl] at q2 q3 q4 q5 q6 q7
                                    simp only at q2 q3 q4 q5 q6 q7
                                    rw [if_pos ht, ← HMM.out, ← hJs] at hmn
                                    have HM2 : Hid (MM + 1 = mineN m (ext.take (J + 1 - N0))) := hmn.symm
                                    clear hmn hJs hcl ht hx hlx HCE HMM q0
                                    go_upto_region 30 with fail
                                    go_quiet (fail)
                                    go_wp2_with fail
                                    go_roundw
                                    case rel => exact ⟨J + 1, MM + 1, by omega, by omega, by go_num, by go_num, by omega, HM2, by first | exact HB8.out.drew | exact HB8.out.trans ⟨rfl, rfl, rfl, Nat.le_refl _, fun _ _ => rfl⟩⟩
                                    case measure => simp [intOf]; omega
                                  · have y7 : ¬ ((ext[J - N0].thr : Nat) : Int) = (m : Int) := by omega
                                    rw [if_neg ht, ← HMM.out, ← hJs] at hmn
                                    have HM2 : Hid (MM = mineN m (ext.take (J + 1 - N0))) := hmn.symm
                                    clear hmn hJs ht hx HCE HMM q0 q2 q3 q4 q5 q6 q7
                                    generalize ext[J - N0].thr = th at *
                                    clear hlx
                                    go_wp2_with fail
                                    go_roundw
                                    case rel => exact ⟨J + 1, MM, by omega, by omega, by go_num, rfl, by omega, HM2, HB8⟩
                                    case measure => simp [intOf]; omega
                                · have x1 : ¬ (J : Int) < (NT : Int) := by omega
                                  obtain rfl : J = NT := by omega
                                  have hM1 : MM = 1 := by
                                    rw [HMM.out, show J - N0 = ext.length from by omega, List.take_length]; exact HMN.out
                                  subst hM1
                                  clear HMM HCE t0 t1 t2 t3 t4 t5
                                  go_wp2_with (first | (go_at_call 29; refine cargs (by simp [Act.eval]) ((HPW.out _ (HB7.out.trans (HB8.out.mono HB7.out.size))).mono ?_); rintro e w8 ⟨rfl, rfl⟩) | fail)
                                  go_ret
                                  exact ⟨rfl, HBW8.out⟩
                          · as_aux_lemma =>
                              go_upto_region 23 with (first | (go_at_call 29; refine cargs (by simp [Act.eval]) ((HPW.out _ (Below.refl _ _)).mono ?_); rintro e w8 ⟨rfl, rfl⟩) | fail)
                              go_upto_region 24 with (first | (go_at_call 28; refine cargs (by simp [Act.eval]) ((HLG.out _ (Below.refl _ _)).mono ?_); rintro e w7 ⟨AL, cL, rfl, hls, hb7⟩; have HLS := Lib.hid hls; have HB7 := Lib.hid hb7; clear hls hb7) | fail)
                              have HCE : Hid (∀ W, Below w7.heap.size w7 W → ∀ J e, L0.length ≤ J → ext[J - L0.length]? = some e → ∃ b, AL = some ⟨b, 0, none⟩ ∧ W.cell? ⟨b, J * 21 + 0, none⟩ = some (.int .i64 e.kind) ∧ W.cell? ⟨b, J * 21 + 1, none⟩ = some (.int .i64 e.thr) ∧ W.cell? ⟨b, J * 21 + 2, none⟩ = some (.int .u32 e.call.arch) ∧ W.cell? ⟨b, J * 21 + 3, none⟩ = some (.int .u32 e.call.nr) ∧ W.cell? ⟨b, J * 21 + 4, none⟩ = some (.int .u64 e.call.a0) ∧ W.cell? ⟨b, J * 21 + 5, none⟩ = some (.int .u64 e.call.a1) ∧ W.cell? ⟨b, J * 21 + 6, none⟩ = some (.int .u64 e.call.a2) ∧ W.cell? ⟨b, J * 21 + 7, none⟩ = some (.int .u64 e.call.a3)) := fun W hbW J e hJ he => by
                                obtain ⟨b, hA, k0, k1, k2, k3, k4, k5, k6, k7⟩ := logSl_at HLS.out (by rw [HLL.out, List.getElem?_append_right hJ]; exact he)
                                have hlt : b < w7.heap.size := World.block_lt_of_cell? w7 ⟨b, J * 21 + 0, none⟩ k0
                                exact ⟨b, hA, (hbW.cell (p := ⟨b, _, none⟩) hlt).trans k0, (hbW.cell (p := ⟨b, _, none⟩) hlt).trans k1, (hbW.cell (p := ⟨b, _, none⟩) hlt).trans k2, (hbW.cell (p := ⟨b, _, none⟩) hlt).trans k3, (hbW.cell (p := ⟨b, _, none⟩) hlt).trans k4, (hbW.cell (p := ⟨b, _, none⟩) hlt).trans k5, (hbW.cell (p := ⟨b, _, none⟩) hlt).trans k6, (hbW.cell (p := ⟨b, _, none⟩) hlt).trans k7⟩
                              have HB70 : Hid (Below w7.heap.size w7 w7) := Below.refl _ _
                              clear HLS HLL HLG
                              have hnt := HLN.out
                              have hfw := HFEW.out
                              clear HLN HFEW
                              generalize S.log.length = NT at *
                              generalize L0.length = N0 at *
                              go_wp2_with fail
                              go_loopw [19, 20] (fun mv iv wl => ∃ J MM : Nat, N0 ≤ J ∧ J ≤ NT ∧ iv = .int .i64 (J : Int) ∧ mv = .int .i64 (MM : Int) ∧ MM ≤ J ∧ Hid (MM = mineN m (ext.take (J - N0))) ∧ Hid (Below w7.heap.size w7 wl)) (fun _ iv _ => NT - (intOf iv).toNat)
                              case atStart => exact ⟨N0, 0, Nat.le_refl _, by omega, rfl, rfl, Nat.zero_le _, by show _ = _; simp [mineN], HB70⟩
                              case round =>
                                obtain ⟨J, MM, hJ1, hJ2, rfl, rfl, hMJ, HMM, HB8⟩ := hrel
                                obtain ⟨hbw8, _, hcc8⟩ := HIN.out wr (HBK.out.trans ((HB7.out.trans (HB8.out.mono HB7.out.size)).mono HBK.out.size))
                                obtain ⟨t0, t1, t2, t3, t4, t5⟩ := tcrow6 hcc8
                                have HBW8 := Lib.hid hbw8
                                clear hbw8 hcc8
                                have u1 : (0 : Int) ≤ (J : Int) := by omega
                                by_cases hlt : J < NT
                                · have x1 : (J : Int) < (NT : Int) := by omega
                                  have hlx : J - N0 < ext.length := by omega
                                  have hx : ext[J - N0]? = some ext[J - N0] := by simp
                                  obtain ⟨b, rfl, q0, q1, q2, q3, q4, q5, q6, q7⟩ := HCE.out _ HB8.out J _ hJ1 hx
                                  have hmn := mineN_take (n := m) hx
                                  have hJs : J + 1 - N0 = J - N0 + 1 := by omega
                                  by_cases ht : ext[J - N0].thr = m
                                  · have hcl := HCL.out _ (List.getElem_mem hlx) ht
                                    rw [ht] at q1
                                    rw [hcl] at q2 q3 q4 q5 q6 q7
                                    simp only at q2 q3 q4 q5 q6 q7
                                    rw [if_pos ht, ← HMM.out, ← hJs] at hmn
                                    have HM2 : Hid (MM + 1 = mineN m (ext.take (J + 1 - N0))) := hmn.symm
                                    clear hmn hJs hcl ht hx hlx HCE HMM q0
                                    go_upto_region 30 with fail
                                    go_quiet (fail)
                                    go_wp2_with fail
                                    go_roundw
                                    case rel => exact ⟨J + 1, MM + 1, by omega, by omega, by go_num, by go_num, by omega, HM2, by first | exact HB8.out.drew | exact HB8.out.trans ⟨rfl, rfl, rfl, Nat.le_refl _, fun _ _ => rfl⟩⟩
                                    case measure => simp [intOf]; omega
                                  · have y7 : ¬ ((ext[J - N0].thr : Nat) : Int) = (m : Int) := by omega
                                    rw [if_neg ht, ← HMM.out, ← hJs] at hmn
                                    have HM2 : Hid (MM = mineN m (ext.take (J + 1 - N0))) := hmn.symm
                                    clear hmn hJs ht hx HCE HMM q0 q2 q3 q4 q5 q6 q7
                                    generalize ext[J - N0].thr = th at *
                                    clear hlx
                                    go_wp2_with fail
                                    go_roundw
                                    case rel => exact ⟨J + 1, MM, by omega, by omega, by go_num, rfl, by omega, HM2, HB8⟩
                                    case measure => simp [intOf]; omega
                                · have x1 : ¬ (J : Int) < (NT : Int) := by omega
                                  obtain rfl : J = NT := by omega
                                  have hM1 : MM = 1 := by
                                    rw [HMM.out, show J - N0 = ext.length from by omega, List.take_length]; exact HMN.out
                                  subst hM1
                                  clear HMM HCE t0 t1 t2 t3 t4 t5
                                  go_wp2_with (first | (go_at_call 29; refine cargs (by simp [Act.eval]) ((HPW.out _ (HB7.out.trans (HB8.out.mono HB7.out.size))).mono ?_); rintro e w8 ⟨rfl, rfl⟩) | fail)
                                  go_ret
                                  exact ⟨rfl, HBW8.out⟩
                        · by_cases hk6 : (k : Int) < 86
                          · as_aux_lemma =>
                              go_upto_region 23 with (first | (go_at_call 29; refine cargs (by simp [Act.eval]) ((HPW.out _ (Below.refl _ _)).mono ?_); rintro e w8 ⟨rfl, rfl⟩) | fail)
                              go_upto_region 24 with (first | (go_at_call 28; refine cargs (by simp [Act.eval]) ((HLG.out _ (Below.refl _ _)).mono ?_); rintro e w7 ⟨AL, cL, rfl, hls, hb7⟩; have HLS := Lib.hid hls; have HB7 := Lib.hid hb7; clear hls hb7) | fail)
                              have HCE : Hid (∀ W, Below w7.heap.size w7 W → ∀ J e, L0.length ≤ J → ext[J - L0.length]? = some e → ∃ b, AL = some ⟨b, 0, none⟩ ∧ W.cell? ⟨b, J * 21 + 0, none⟩ = some (.int .i64 e.kind) ∧ W.cell? ⟨b, J * 21 + 1, none⟩ = some (.int .i64 e.thr) ∧ W.cell? ⟨b, J * 21 + 2, none⟩ = some (.int .u32 e.call.arch) ∧ W.cell? ⟨b, J * 21 + 3, none⟩ = some (.int .u32 e.call.nr) ∧ W.cell? ⟨b, J * 21 + 4, none⟩ = some (.int .u64 e.call.a0) ∧ W.cell? ⟨b, J * 21 + 5, none⟩ = some (.int .u64 e.call.a1) ∧ W.cell? ⟨b, J * 21 + 6, none⟩ = some (.int .u64 e.call.a2) ∧ W.cell? ⟨b, J * 21 + 7, none⟩ = some (.int .u64 e.call.a3)) := fun W hbW J e hJ he => by
                                obtain ⟨b, hA, k0, k1, k2, k3, k4, k5, k6, k7⟩ := logSl_at HLS.out (by rw [HLL.out, List.getElem?_append_right hJ]; exact he)
                                have hlt : b < w7.heap.size := World.block_lt_of_cell? w7 ⟨b, J * 21 + 0, none⟩ k0
                                exact ⟨b, hA, (hbW.cell (p := ⟨b, _, none⟩) hlt).trans k0, (hbW.cell (p := ⟨b, _, none⟩) hlt).trans k1, (hbW.cell (p := ⟨b, _, none⟩) hlt).trans k2, (hbW.cell (p := ⟨b, _, none⟩) hlt).trans k3, (hbW.cell (p := ⟨b, _, none⟩) hlt).trans k4, (hbW.cell (p := ⟨b, _, none⟩) hlt).trans k5, (hbW.cell (p := ⟨b, _, none⟩) hlt).trans k6, (hbW.cell (p := ⟨b, _, none⟩) hlt).trans k7⟩
                              have HB70 : Hid (Below w7.heap.size w7 w7) := Below.refl _ _
                              clear HLS HLL HLG
                              have hnt := HLN.out
                              have hfw := HFEW.out
                              clear HLN HFEW
                              generalize S.log.length = NT at *
                              generalize L0.length = N0 at *
                              go_wp2_with fail
                              go_loopw [19, 20] (fun mv iv wl => ∃ J MM : Nat, N0 ≤ J ∧ J ≤ NT ∧ iv = .int .i64 (J : Int) ∧ mv = .int .i64 (MM : Int) ∧ MM ≤ J ∧ Hid (MM = mineN m (ext.take (J - N0))) ∧ Hid (Below w7.heap.size w7 wl)) (fun _ iv _ => NT - (intOf iv).toNat)
                              case atStart => exact ⟨N0, 0, Nat.le_refl _, by omega, rfl, rfl, Nat.zero_le _, by show _ = _; simp [mineN], HB70⟩
                              case round =>
                                obtain ⟨J, MM, hJ1, hJ2, rfl, rfl, hMJ, HMM, HB8⟩ := hrel
                                obtain ⟨hbw8, _, hcc8⟩ := HIN.out wr (HBK.out.trans ((HB7.out.trans (HB8.out.mono HB7.out.size)).mono HBK.out.size))
                                obtain ⟨t0, t1, t2, t3, t4, t5⟩ := tcrow6 hcc8
                                have HBW8 := Lib.hid hbw8
                                clear hbw8 hcc8
                                have u1 : (0 : Int) ≤ (J : Int) := by omega
                                by_cases hlt : J < NT
                                · have x1 : (J : Int) < (NT : Int) := by omega
                                  have hlx : J - N0 < ext.length := by omega
                                  have hx : ext[J - N0]? = some ext[J - N0] := by simp
                                  obtain ⟨b, rfl, q0, q1, q2, q3, q4, q5, q6, q7⟩ := HCE.out _ HB8.out J _ hJ1 hx
                                  have hmn := mineN_take (n := m) hx
                                  have hJs : J + 1 - N0 = J - N0 + 1 := by omega
                                  by_cases ht : ext[J - N0].thr = m
                                  · have hcl := HCL.out _ (List.getElem_mem hlx) ht
                                    rw [ht] at q1
                                    rw [hcl] at q2 q3 q4 q5 q6 q7
                                    simp only at q2 q3 q4 q5 q6 q7
                                    rw [if_pos ht, ← HMM.out, ← hJs] at hmn
                                    have HM2 : Hid (MM + 1 = mineN m (ext.take (J + 1 - N0))) := hmn.symm
                                    clear hmn hJs hcl ht hx hlx HCE HMM q0
                                    go_upto_region 30 with fail
                                    go_quiet (fail)
                                    go_wp2_with fail
                                    go_roundw
                                    case rel => exact ⟨J + 1, MM + 1, by omega, by omega, by go_num, by go_num, by omega, HM2, by first | exact HB8.out.drew | exact HB8.out.trans ⟨rfl, rfl, rfl, Nat.le_refl _, fun _ _ => rfl⟩⟩
                                    case measure => simp [intOf]; omega
                                  · have y7 : ¬ ((ext[J - N0].thr : Nat) : Int) = (m : Int) := by omega
                                    rw [if_neg ht, ← HMM.out, ← hJs] at hmn
                                    have HM2 : Hid (MM = mineN m (ext.take (J + 1 - N0))) := hmn.symm
                                    clear hmn hJs ht hx HCE HMM q0 q2 q3 q4 q5 q6 q7
                                    generalize ext[J - N0].thr = th at *
                                    clear hlx
                                    go_wp2_with fail
                                    go_roundw
                                    case rel => exact ⟨J + 1, MM, by omega, by omega, by go_num, rfl, by omega, HM2, HB8⟩
                                    case measure => simp [intOf]; omega
                                · have x1 : ¬ (J : Int) < (NT : Int) := by omega
                                  obtain rfl : J = NT := by omega
                                  have hM1 : MM = 1 := by
                                    rw [HMM.out, show J - N0 = ext.length from by omega, List.take_length]; exact HMN.out
                                  subst hM1
                                  clear HMM HCE t0 t1 t2 t3 t4 t5
                                  go_wp2_with (first | (go_at_call 29; refine cargs (by simp [Act.eval]) ((HPW.out _ (HB7.out.trans (HB8.out.mono HB7.out.size))).mono ?_); rintro e w8 ⟨rfl, rfl⟩) | fail)
                                  go_ret
                                  exact ⟨rfl, HBW8.out⟩
                          · as_aux_lemma =>
                              go_upto_region 23 with (first | (go_at_call 29; refine cargs (by simp [Act.eval]) ((HPW.out _ (Below.refl _ _)).mono ?_); rintro e w8 ⟨rfl, rfl⟩) | fail)
                              go_upto_region 24 with (first | (go_at_call 28; refine cargs (by simp [Act.eval]) ((HLG.out _ (Below.refl _ _)).mono ?_); rintro e w7 ⟨AL, cL, rfl, hls, hb7⟩; have HLS := Lib.hid hls; have HB7 := Lib.hid hb7; clear hls hb7) | fail)
                              have HCE : Hid (∀ W, Below w7.heap.size w7 W → ∀ J e, L0.length ≤ J → ext[J - L0.length]? = some e → ∃ b, AL = some ⟨b, 0, none⟩ ∧ W.cell? ⟨b, J * 21 + 0, none⟩ = some (.int .i64 e.kind) ∧ W.cell? ⟨b, J * 21 + 1, none⟩ = some (.int .i64 e.thr) ∧ W.cell? ⟨b, J * 21 + 2, none⟩ = some (.int .u32 e.call.arch) ∧ W.cell? ⟨b, J * 21 + 3, none⟩ = some (.int .u32 e.call.nr) ∧ W.cell? ⟨b, J * 21 + 4, none⟩ = some (.int .u64 e.call.a0) ∧ W.cell? ⟨b, J * 21 + 5, none⟩ = some (.int .u64 e.call.a1) ∧ W.cell? ⟨b, J * 21 + 6, none⟩ = some (.int .u64 e.call.a2) ∧ W.cell? ⟨b, J * 21 + 7, none⟩ = some (.int .u64 e.call.a3)) := fun W hbW J e hJ he => by
                                obtain ⟨b, hA, k0, k1, k2, k3, k4, k5, k6, k7⟩ := logSl_at HLS.out (by rw [HLL.out, List.getElem?_append_right hJ]; exact he)
                                have hlt : b < w7.heap.size := World.block_lt_of_cell? w7 ⟨b, J * 21 + 0, none⟩ k0
                                exact ⟨b, hA, (hbW.cell (p := ⟨b, _, none⟩) hlt).trans k0, (hbW.cell (p := ⟨b, _, none⟩) hlt).trans k1, (hbW.cell (p := ⟨b, _, none⟩) hlt).trans k2, (hbW.cell (p := ⟨b, _, none⟩) hlt).trans k3, (hbW.cell (p := ⟨b, _, none⟩) hlt).trans k4, (hbW.cell (p := ⟨b, _, none⟩) hlt).trans k5, (hbW.cell (p := ⟨b, _, none⟩) hlt).trans k6, (hbW.cell (p := ⟨b, _, none⟩) hlt).trans k7⟩
                              have HB70 : Hid (Below w7.heap.size w7 w7) := Below.refl _ _
                              clear HLS HLL HLG
                              have hnt := HLN.out
                              have hfw := HFEW.out
                              clear HLN HFEW
                              generalize S.log.length = NT at *
                              generalize L0.length = N0 at *
                              go_wp2_with fail
                              go_loopw [19, 20] (fun mv iv wl => ∃ J MM : Nat, N0 ≤ J ∧ J ≤ NT ∧ iv = .int .i64 (J : Int) ∧ mv = .int .i64 (MM : Int) ∧ MM ≤ J ∧ Hid (MM = mineN m (ext.take (J - N0))) ∧ Hid (Below w7.heap.size w7 wl)) (fun _ iv _ => NT - (intOf iv).toNat)
                              case atStart => exact ⟨N0, 0, Nat.le_refl _, by omega, rfl, rfl, Nat.zero_le _, by show _ = _; simp [mineN], HB70⟩
                              case round =>
                                obtain ⟨J, MM, hJ1, hJ2, rfl, rfl, hMJ, HMM, HB8⟩ := hrel
                                obtain ⟨hbw8, _, hcc8⟩ := HIN.out wr (HBK.out.trans ((HB7.out.trans (HB8.out.mono HB7.out.size)).mono HBK.out.size))
                                obtain ⟨t0, t1, t2, t3, t4, t5⟩ := tcrow6 hcc8
                                have HBW8 := Lib.hid hbw8
                                clear hbw8 hcc8
                                have u1 : (0 : Int) ≤ (J : Int) := by omega
                                by_cases hlt : J < NT
                                · have x1 : (J : Int) < (NT : Int) := by omega
                                  have hlx : J - N0 < ext.length := by omega
                                  have hx : ext[J - N0]? = some ext[J - N0] := by simp
                                  obtain ⟨b, rfl, q0, q1, q2, q3, q4, q5, q6, q7⟩ := HCE.out _ HB8.out J _ hJ1 hx
                                  have hmn := mineN_take (n := m) hx
                                  have hJs : J + 1 - N0 = J - N0 + 1 := by omega
                                  by_cases ht : ext[J - N0].thr = m
                                  · have hcl := HCL.out _ (List.getElem_mem hlx) ht
                                    rw [ht] at q1
                                    rw [hcl] at q2 q3 q4 q5 q6 q7
                                    simp only at q2 q3 q4 q5 q6 q7
                                    rw [if_pos ht, ← HMM.out, ← hJs] at hmn
                                    have HM2 : Hid (MM + 1 = mineN m (ext.take (J + 1 - N0))) := hmn.symm
                                    clear hmn hJs hcl ht hx hlx HCE HMM q0
                                    go_upto_region 30 with fail
                                    go_quiet (fail)
                                    go_wp2_with fail
                                    go_roundw
                                    case rel => exact ⟨J + 1, MM + 1, by omega, by omega, by go_num, by go_num, by omega, HM2, by first | exact HB8.out.drew | exact HB8.out.trans ⟨rfl, rfl, rfl, Nat.le_refl _, fun _ _ => rfl⟩⟩
                                    case measure => simp [intOf]; omega
                                  · have y7 : ¬ ((ext[J - N0].thr : Nat) : Int) = (m : Int) := by omega
                                    rw [if_neg ht, ← HMM.out, ← hJs] at hmn
                                    have HM2 : Hid (MM = mineN m (ext.take (J + 1 - N0))) := hmn.symm
                                    clear hmn hJs ht hx HCE HMM q0 q2 q3 q4 q5 q6 q7
                                    generalize ext[J - N0].thr = th at *
                                    clear hlx
                                    go_wp2_with fail
                                    go_roundw
                                    case rel => exact ⟨J + 1, MM, by omega, by omega, by go_num, rfl, by omega, HM2, HB8⟩
                                    case measure => simp [intOf]; omega
                                · have x1 : ¬ (J : Int) < (NT : Int) := by omega
                                  obtain rfl : J = NT := by omega
                                  have hM1 : MM = 1 := by
                                    rw [HMM.out, show J - N0 = ext.length from by omega, List.take_length]; exact HMN.out
                                  subst hM1
                                  clear HMM HCE t0 t1 t2 t3 t4 t5
                                  go_wp2_with (first | (go_at_call 29; refine cargs (by simp [Act.eval]) ((HPW.out _ (HB7.out.trans (HB8.out.mono HB7.out.size))).mono ?_); rintro e w8 ⟨rfl, rfl⟩) | fail)
                                  go_ret
                                  exact ⟨rfl, HBW8.out⟩
                      · have hdn : ¬ doneB S m := by unfold doneB; rw [hpe]; exact hd
                        have hk6 : k < 86 := by
                          rcases Nat.lt_or_ge k 86 with h | h
                          · exact h
                          · obtain rfl : k = 86 := by omega
                            exact absurd (end_stop HE.out) hdn
                        as_aux_lemma =>
                          obtain ⟨s1, s2⟩ := end_step HFP.out hm HE.out hdn
                          have HE1 := Lib.hid s2
                          have HST := Lib.hid (wardStep_any H (fun k => H ≤ k) g p S m wr HW.out HFP.out HE.out.good.inv (fun k hk => Nat.le_trans HW.out.few hk) (by have := HE.out.good.few; omega))
                          rw [s1, errV_zero] at HST
                          have HNX : Hid (∀ w', WardAt w' H (fun k => H ≤ k) g p (stepS p S m) → Frame (fun k => H ≤ k) wr w' → Hid (Below W0.heap.size W0 w')) := fun w' k1 k2 => HBK.out.trans ((k2.below (fun k hk => hk) HW.out.few).mono HHH.out)
                          generalize stepB S m = bv at *
                          have y3 : ¬ ph = 0 := fun e => hd (.inl e)
                          have y4 : ¬ ph = 6 := fun e => hd (.inr e)
                          have y5 : (k : Int) < 86 := by omega
                          have HDN := Lib.hid hdn
                          clear hd hpe hdn s1 s2 hpr
                          by_cases hk4 : k < l4.length
                          · have y6 : (k : Int) < (l4.length : Int) := by omega
                            have hl : l4[k]? = some l4[k] := by simp
                            obtain ⟨b, o, rfl, hra⟩ := HAT4.out k _ hl
                            have HRA := Lib.hid (fun W hb => hra W hb)
                            have hak := HOK4.out _ (List.getElem_mem hk4)
                            have has := sm4 _ (List.getElem_mem hk4)
                            have HAK := Lib.hid (And.intro hak has)
                            have HCC : Hid (∀ W, Below w.heap.size w W → W.cell? ⟨b, o + k * 11 + 1, none⟩ = some (.int .i64 l4[k].n) ∧ W.cell? ⟨b, o + k * 11, none⟩ = some (.string l4[k].kind)) := fun W hb => ⟨hra W hb 1 _ rfl, by simpa using hra W hb 0 _ rfl⟩
                            clear hl hra HAT4 HOK4 sm4 hak has
                            go_upto_region 18 with (first | (go_at_call 29; refine cargs (by simp [Act.eval]) ((HPW.out _ (Below.refl _ _)).mono ?_); rintro e w8 ⟨rfl, rfl⟩) | fail)
                            go_upto_region 21 with (first | (go_at_call 19; refine cargs (by simp [Act.eval]) (HST.out.mono ?_); rintro e w5 ⟨rfl, h5, f5⟩; have HB5 := HNX.out _ h5 f5; have HW5 := Lib.hid h5; clear h5 f5) | fail)
                            obtain ⟨d1, d0⟩ := HCC.out w5 (HIN.out w5 HB5.out).1
                            by_cases hnm : l4[k].n = (m : Int)
                            · rw [hnm] at d1
                              clear HCC HRA HAK d0 hnm
                              go_wp2_with fail
                              go_roundw
                              case rel => exact ⟨k + 1, stepS p S m, by omega, by go_num, HW5, HE1, HB5⟩
                              case measure => simp [intOf]; omega
                            · cases q0 : (l4[k].kind.toList == ([101, 110, 116, 101, 114] : List UInt8)) with
                              | true =>
                                clear HCC HRA HAK
                                generalize l4[k].n = an at *
                                generalize l4[k].kind = ak at *
                                go_wp2_with fail
                                go_roundw
                                case rel => exact ⟨k + 1, stepS p S m, by omega, by go_num, HW5, HE1, HB5⟩
                                case measure => simp [intOf]; omega
                              | false =>
                                have HE2 := Lib.hid (end_round HFP.out hm HE.out HDN.out hnm q0)
                                have HR2 := Lib.hid (HRA.out w5 (HIN.out w5 HB5.out).1)
                                have HDID := Lib.hid (did_any H (fun k => H ≤ k) g p (stepS p S m) (2700 + 91 * (k + 1)) l4[k] w5 HW5.out HFP.out HE1.out.good (by omega) (fun k hk => Nat.le_trans HW5.out.few hk) HAK.out.1 (by have := HAK.out.2; omega))
                                have HNY : Hid (∀ w', WardAt w' H (fun k => H ≤ k) g p (didS p (stepS p S m) l4[k]) → Frame (fun k => H ≤ k) w5 w' → Hid (WardAt w' H (fun k => H ≤ k) g p (didS p (stepS p S m) l4[k])) ∧ Hid (Below W0.heap.size W0 w')) := fun w' k1 k2 => ⟨k1, HB5.out.trans ((k2.below (fun k hk => hk) HW5.out.few).mono HHH.out)⟩
                                have HRL : Hid (l4[k].row.length = 11) := rfl
                                clear HCC HRA HAK
                                generalize didS p (stepS p S m) l4[k] = S3 at *
                                generalize l4[k].row = R at *
                                generalize l4[k].n = an at *
                                generalize l4[k].kind = ak at *
                                go_wp2_with (first
                                  | (refine wpList_load_mid rfl 54 (.tmp 121) rfl b (o + k * 11) (by simp [Act.eval, Act.put]) R _ HR2.out Tryz.underlying54 rfl (by rw [HRL.out]; exact tact_info) ?_)
                                  | (go_at_call 27; refine cargs (by simp [Act.eval]) (HDID.out.mono ?_); rintro e w6 ⟨rfl, hx⟩; have HX := Lib.hid (HNY.out _ hx.1 hx.2); clear hx)
                                  | fail)
                                go_roundw
                                case rel => exact ⟨k + 1, S3, by omega, by go_num, HX.out.1, HE2, HX.out.2⟩
                                case measure => simp [intOf]; omega
                          · have y6 : ¬ (k : Int) < (l4.length : Int) := by omega
                            clear HAT4 HOK4 sm4
                            go_upto_region 18 with (first | (go_at_call 29; refine cargs (by simp [Act.eval]) ((HPW.out _ (Below.refl _ _)).mono ?_); rintro e w8 ⟨rfl, rfl⟩) | fail)
                            go_wp2_with (first | (go_at_call 19; refine cargs (by simp [Act.eval]) (HST.out.mono ?_); rintro e w5 ⟨rfl, h5, f5⟩; have HB5 := HNX.out _ h5 f5; have HW5 := Lib.hid h5; clear h5 f5) | fail)
                            go_roundw
                            case rel => exact ⟨k + 1, stepS p S m, by omega, by go_num, HW5, HE1, HB5⟩
                            case measure => simp [intOf]; omega
                  · obtain ⟨f, hfv⟩ : ∃ f, errV (enterE S m) = .iface 105 (.int .i64 f) := ⟨enterE S m, errV_pos (by
                      unfold enterE
                      rw [if_neg (by omega), if_neg (by simpa using hph)]
                      split <;> omega)⟩
                    rw [hfv] at HEN
                    have HNX : Hid (∀ w', Frame (fun k => H ≤ k) wr w' → Hid (Below w.heap.size w w')) := fun w' k2 => (HIN.out w' (HBI.out.trans ((k2.below (fun k hk => hk) HI.out.few).mono HHH.out))).1
                    clear hfv hph HG0 HAT4 HOK4 sm4
                    go_wp2_with (first
                      | (go_at_call 18; refine cargs (by simp [Act.eval]) (HEN.out.mono ?_); rintro e w5 ⟨rfl, h5, f5⟩; have HB5 := HNX.out _ f5; clear h5 f5)
                      | fail)
                    go_ret
                    exact ⟨rfl, HB5.out⟩
          · have HFP := Lib.hid hf
            clear hf HLL HAT1 HAT4 HOK1 HOK4 sm1 sm4 HC
            go_enter Tryz.func5, Tryz.ntmps5
            go_upto_region 1 with fail
            generalize ((w.alloc (.cells #[.slice A p.rules.length cp, .int .i64 p.kind, .int .i64 p.errno] 26)).alloc (.cells #[.int .u32 arch, .int .u32 cnr, .int .u64 a0, .int .u64 a1, .int .u64 a2, .int .u64 a3] 52)) = W0 at *
            obtain ⟨hbl, hpp, hcc⟩ := HIN.out W0 HB0.out
            have HBL := Lib.hid hbl
            obtain ⟨s0, s1, s2⟩ := tcrow3 hpp
            clear hpp hcc hbl
            go_upto_region 3 with (first | (go_at_call 9; refine cargs (by simp [Act.eval]) ((HLP.out _ HBL.out).mono ?_); rintro e w1 ⟨rfl, hq⟩; have HB1 := Lib.hid (HB0.out.trans hq); have HBL1 := Lib.hid (HBL.out.trans (hq.mono HBL.out.size)); clear hq) | (go_at_call 10; refine (HLX.out _ _ _ HBL1.out (by simp [Act.eval])).mono ?_; rintro e w2 ⟨rfl, rfl⟩; simp only [RX]) | fail)
            obtain ⟨_, hpp1, hcc1⟩ := HIN.out _ HB1.out
            obtain ⟨p0, p1, p2⟩ := tcrow3 hpp1
            clear hpp1 hcc1 HLP HLX s0 s1 s2
            have HNW1 := Lib.hid (HNW.out _ HBL1.out (by trivial))
            rw [errV_pos HFP.out] at HNW1
            clear HNW
            go_wp2_with (first | (go_at_call 12; refine cargs (by simp [Act.eval]) (HNW1.out.mono ?_); rintro e w3 ⟨hq, hr⟩; obtain ⟨_, rfl⟩ := hr.resolve_right (fun hh => HFP.out hh.1); have HBL3 := Lib.hid (HBL1.out.trans (hq.mono HBL1.out.size)); clear hq hr) | fail)
            go_ret
            exact ⟨rfl, HBL3.out⟩
end Go.Proofs.YtmgngapkgcofnabGreatDoor
