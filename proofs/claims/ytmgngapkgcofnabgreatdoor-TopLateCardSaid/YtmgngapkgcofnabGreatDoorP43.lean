/- A line's rule: the walk. -/
import Derived.Test.YtmgngapkgcofnabGreatDoorP28
import Derived.Test.YtmgngapkgcofnabGreatDoorP42
namespace Go.Proofs.YtmgngapkgcofnabGreatDoor
open Go.RowKit
theorem step_call {P : Program} {ops : Array Oper} {o : Oper} {a : Act} {w : World} {K : Act → World → Prop} {Q : Exit → Act → World → Prop} {E : Prop} (hgd : o.guard = none) (f : FuncId) {F : Func} (hF : P.funcs[f]? = some F) (hn : (F.name == "runtime.NumGoroutine") = false) (hb : F.body.isNone = false) (args : Array Operand) (ats : Array TypeId)
  (ho : o.op = .call { callee := .value (.func f), args := args, argTypes := ats }) (A : Array Value) (hA : args.map a.eval = A) (R : Value → World → Prop)
  (hc : Calls P f A w fun e w' => ∃ v, e = .returned v ∧ R v w') (hK : ∀ v w', R v w' → K (a.put o.dst v) w') :
  if Region.wanted o (yielded ops a.tmps) = true then Oper.wp P o a w K Q else E := by
 have hw : Region.wanted o (yielded ops a.tmps) = true := by simp [Region.wanted, hgd]
 rw [if_pos hw]; subst hA
 have hrun : (execOp a.eval o).run P w = .ok (.enter f (args.map a.eval)) w := by
  unfold execOp; have hn' : F.name ≠ "runtime.NumGoroutine" := by simpa using hn
  have hb' : F.body ≠ none := by intro e; rw [e] at hb; simp at hb
  simp [ho, resolve, invoke, callFunc, hF, hn', hb', go_sem]
 unfold Oper.wp; rw [hrun, Oper.upon_enter]; refine hc.mono ?_; rintro e w' ⟨v, rfl, hR⟩; exact hK v w' hR
theorem step_append_cond {w : World} {ops : Array Oper} {o : Oper} {a : Act} {K : Act → World → Prop} {Q : Exit → Act → World → Prop} {E : Prop} (hgd : o.guard = none) (s x : Operand)
  (ho : o.op = .call { callee := .builtin .append, args := #[s, x], argTypes := #[39, 39] })
  (base bs : Nat) (v1 : Value) (l : List CondD) (y : CondD) (hs : a.eval s = v1) (hx : a.eval x = .slice (some ⟨bs, 0, none⟩) 1 1)
  (hown : w.ownsRow base 47 9 v1 l.length (flatC l))
  (hb : w.heap[bs]? = some (.cells #[.int .i64 y.arg, .int .i64 y.op, .int .u64 y.v, .int .u64 y.m, .string y.glob, .int .u32 y.net.ip, .int .i64 y.net.bits, .int .i64 y.net.lo, .int .i64 y.net.hi] 47 (0, 0))) (hl : l.length ≤ 1000000) (hbase : base ≤ w.heap.size)
  (h : ∀ g cap w', w'.ownsRow base 47 9 (.slice (some ⟨g, 0, none⟩) (l.length + 1) cap) (l.length + 1) (flatC (l ++ [y])) → w.grownBy w' v1.ownBlock → K (a.put o.dst (.slice (some ⟨g, 0, none⟩) (l.length + 1) cap)) w') :
  if Region.wanted o (yielded ops a.tmps) = true then Oper.wp Tryz.prog o a w K Q else E := by
 obtain ⟨z, hinf, hz2⟩ := condInfo; obtain ⟨i0, hi, hz0, hz1, hz3⟩ := info_parts hinf; refine step_append_lies w hgd s x _ ho base 47 i0 z 9 80 Tryz.underlying39 hi hz0 hz1 hz3 hz2 (by omega) v1 l.length (flatC l) hs hown ⟨bs, 0, none⟩ 1 1 y.row hx rfl (World.news_of_block hb) (by simp [CondD.row, Value.oneCell']) (by omega) (by unfold maxLen; omega) (by omega) hbase _ rfl ?_
 intro g cap w' h2 h3 _ _; exact h g cap w' (by rw [show flatC (l ++ [y]) = flatC l ++ y.row from by simp [flatC]]; exact h2) h3
theorem condsOwn_all {w : World} {base : Nat} {v : Value} {l : List CondD} (hok : ∀ x ∈ l, x.ok) (h : w.ownsRow base 47 9 v l.length (flatC l)) : CondsOwn w v l := by
 rcases h.2 with ⟨h0, h1⟩ | ⟨g, cap, cur, hv, _, hg, _, _, _, ht⟩
 ·obtain rfl : l = [] := List.eq_nil_of_length_eq_zero h1; exact ⟨hok, none, 0, h0, .inl rfl⟩
 ·refine ⟨hok, _, _, hv, .inr ⟨g, cur, _, rfl, hg, fun k u hu => ?_⟩⟩; rw [← ht, List.getElem?_take] at hu; split at hu
  ·simpa using hu
  ·cases hu
theorem own_at {w w' : World} {base n s : Nat} {e : TypeId} {v : Value} {xs : List Value} (h : w.ownsRow base e s v n xs) (hk : ∀ g cur, base ≤ g → w.heap[g]? = some (.cells cur e (0, 0)) → w'.heap[g]? = some (.cells cur e (0, 0))) : w'.ownsRow base e s v n xs := by
 refine ⟨h.1, ?_⟩; rcases h.2 with hn | ⟨g, cap, cur, h1, h2, h3, h4⟩
 ·exact .inl hn
 ·exact .inr ⟨g, cap, cur, h1, h2, hk g cur h2 h3, h4⟩
theorem own_block {w : World} {base n s : Nat} {e : TypeId} {v : Value} {xs : List Value} (h : w.ownsRow base e s v n xs) : v.ownBlock = none ∨ ∃ g cur, v.ownBlock = some g ∧ base ≤ g ∧ w.heap[g]? = some (.cells cur e (0, 0)) := by
 rcases h.2 with ⟨hn, _⟩ | ⟨g, cap, cur, h1, h2, h3, _⟩
 ·exact .inl (by rw [hn]; rfl)
 ·exact .inr ⟨g, cur, by rw [h1]; rfl, h2, h3⟩
def CondsFrom (B : Nat) (v : Value) : Prop := v = .slice none 0 0 ∨ ∃ g n c, v = .slice (some ⟨g, 0, none⟩) n c ∧ B ≤ g
theorem condsFrom_of {w : World} {base n s : Nat} {e : TypeId} {v : Value} {xs : List Value} (h : w.ownsRow base e s v n xs) : CondsFrom base v := by
 rcases h.2 with ⟨hn, _⟩ | ⟨g, cap, cur, h1, h2, _⟩
 ·exact .inl hn
 ·exact .inr ⟨g, n, cap, h1, h2⟩
def zero4 : Array Value := #[.int .i64 0, .slice none 0 0, .int .i64 0, .int .i64 0]
structure RS (w0 w : World) (H b q : Nat) (W : World) (ws : List ByteArray) (bad : Bool) (nr : Int) (sv : Value) (k x : Int) (cs : List CondD) : Prop where
 bel0 : Below w0.heap.size w0 w
 b0 : w0.heap.size ≤ b
 hH : H ≤ w.heap.size
 hq : w.heap.size < q
 hqW : q < W.heap.size
 wat : WordsAt W H b ws bad
 grw : w.grownBy W (some b)
 res : W.heap[w.heap.size]? = some (.cells zero4 41 (0, 0))
 rul : W.heap[q]? = some (.cells #[.int .i64 nr, sv, .int .i64 k, .int .i64 x] 41 (0, 0))
 own : W.ownsRow w.heap.size 47 9 sv cs.length (flatC cs)
 oks : ∀ c ∈ cs, c.ok
section
variable {w0 w : World} {H b q : Nat} {W W' : World} {ws ws' : List ByteArray} {bad bad' : Bool} {nr : Int} {sv : Value} {k x : Int} {cs : List CondD}
theorem RS.bw (h : RS w0 w H b q W ws bad nr sv k x cs) : b < w.heap.size := Nat.lt_of_lt_of_le h.wat.1 h.hH
theorem RS.bel (h : RS w0 w H b q W ws bad nr sv k x cs) : Below w0.heap.size w0 W := below_of_grown h.bel0 h.grw h.b0 h.bel0.size
theorem RS.call (h : RS w0 w H b q W ws bad nr sv k x cs) (hg : W.grownBy W' (some b)) (hw : WordsAt W' H b ws' bad') : RS w0 w H b q W' ws' bad' nr sv k x cs := by
 have hbw := h.bw; have hq := h.hq; have hqW := h.hqW; refine ⟨h.bel0, h.b0, h.hH, h.hq, Nat.lt_of_lt_of_le hqW hg.size, hw, grown_trans h.grw hg, (hg.block _ (by omega) (by simp; omega)).trans h.res, (hg.block _ hqW (by simp; omega)).trans h.rul, ?_, h.oks⟩; exact own_at h.own (fun g cur hbg hgc => (hg.block g (lt_of_block hgc) (by simp; omega)).trans hgc)
theorem RS.below (h : RS w0 w H b q W ws bad nr sv k x cs) (hb : Below W.heap.size W W') : RS w0 w H b q W' ws bad nr sv k x cs :=
 h.call (grown_of_below hb) (h.wat.below hb (Nat.le_trans h.hH h.grw.size))
theorem RS.drew (h : RS w0 w H b q W ws bad nr sv k x cs) : RS w0 w H b q W.drew ws bad nr sv k x cs := h.below ((Below.refl _ _).drew)
theorem RS.setNr (h : RS w0 w H b q W ws bad nr sv k x cs) (n : Int) : RS w0 w H b q (W.setCell ⟨q, 0, none⟩ (.int .i64 n)) ws bad n sv k x cs := by
 have hbw := h.bw; have hq := h.hq; have hH := h.hH; have hb : Below w.heap.size W (W.setCell ⟨q, 0, none⟩ (.int .i64 n)) := (Below.refl w.heap.size W).setCell (p := ⟨q, 0, none⟩) (by show w.heap.size ≤ q; omega) _; refine ⟨h.bel0, h.b0, h.hH, h.hq, Nat.lt_of_lt_of_le h.hqW hb.size, h.wat.below hb hH, growB h.grw hb, ?_, ?_, ?_, h.oks⟩
 ·exact (heap_setCell_other W ⟨q, 0, none⟩ w.heap.size _ (fun e => by simp at e; omega)).trans h.res
 ·have := heap_setCell_same W q 0 _ _ (.int .i64 n) h.rul; simpa using this
 ·refine own_at h.own (fun g cur hbg hgc => (heap_setCell_other W ⟨q, 0, none⟩ g _ (fun e => ?_)).trans hgc); simp only at e; subst e; rw [h.rul] at hgc; simp at hgc
theorem RS.append (h : RS w0 w H b q W ws bad nr sv k x cs) {y : CondD} (hy : y.ok) {o : Obj} {W1 : World} {v' : Value} (ho : W1.ownsRow w.heap.size 47 9 v' (cs.length + 1) (flatC (cs ++ [y]))) (hg : (W.alloc o).grownBy W1 sv.ownBlock) :
  RS w0 w H b q (W1.setCell ⟨q, 1, none⟩ v') ws bad nr v' k x (cs ++ [y]) := by
 have hbw := h.bw; have hq := h.hq; have hqW := h.hqW; have hH := h.hH; have hsz : W.heap.size < (W.alloc o).heap.size := by simp
 have hk : ∀ (i : Nat) (ob : Obj), W.heap[i]? = some ob → (∀ cur, ob ≠ .cells cur 47 (0, 0)) → W1.heap[i]? = some ob := fun i ob hi hne => by
  have hlt := lt_of_block hi; have h1 : (W.alloc o).heap[i]? = some ob := (((Below.refl W.heap.size W).alloc (Nat.le_refl _) o).block i hlt).trans hi; refine (hg.block i (by omega) (fun e => ?_)).trans h1; rcases own_block h.own with h0 | ⟨g, cur, h0, _, h3⟩
  ·rw [h0] at e; simp at e
  ·rw [h0] at e; simp only [Option.some.injEq] at e; subst e; rw [h3] at hi; simp only [Option.some.injEq] at hi; exact hne cur hi.symm
 have hlow : Below w.heap.size W W1 := by
  refine ⟨hg.os, hg.tape, hg.output, Nat.le_trans (by omega) hg.size, fun i hi => ?_⟩; have hlt : i < W.heap.size := Nat.lt_of_lt_of_le hi h.grw.size; refine (hg.block i (by omega) (fun e => ?_)).trans (((Below.refl W.heap.size W).alloc (Nat.le_refl _) o).block i hlt); rcases own_block h.own with h0 | ⟨g, cur, h0, h2, _⟩
  ·rw [h0] at e; simp at e
  ·rw [h0] at e; simp only [Option.some.injEq] at e; omega
 have hb : Below w.heap.size W (W1.setCell ⟨q, 1, none⟩ v') := hlow.setCell (p := ⟨q, 1, none⟩) (by show w.heap.size ≤ q; omega) _; have hr1 := hk q _ h.rul (by simp); refine ⟨h.bel0, h.b0, h.hH, h.hq, Nat.lt_of_lt_of_le h.hqW hb.size, h.wat.below hb hH, growB h.grw hb, ?_, ?_, ?_, ?_⟩
 ·exact (heap_setCell_other W1 ⟨q, 1, none⟩ w.heap.size _ (fun e => by simp at e; omega)).trans (hk _ _ h.res (by simp))
 ·have := heap_setCell_same W1 q 1 _ _ v' hr1; simpa using this
 ·rw [List.length_append, List.length_singleton]; refine own_at ho (fun g cur hbg hgc => (heap_setCell_other W1 ⟨q, 1, none⟩ g _ (fun e => ?_)).trans hgc); simp only at e; subst e; rw [hr1] at hgc; simp at hgc
 ·intro c hc; rcases List.mem_append.1 hc with hc | hc
  ·exact h.oks c hc
  ·obtain rfl := List.mem_singleton.1 hc; exact hy
theorem RS.rul_grown (h : RS w0 w H b q W ws bad nr sv k x cs) {o : Obj} {W1 : World} (hg : (W.alloc o).grownBy W1 sv.ownBlock) : W1.heap[q]? = some (.cells #[.int .i64 nr, sv, .int .i64 k, .int .i64 x] 41 (0, 0)) := by
 have hqW := h.hqW; have h1 : (W.alloc o).heap[q]? = _ := (((Below.refl W.heap.size W).alloc (Nat.le_refl _) o).block q hqW).trans h.rul; refine (hg.block q (by simp; omega) (fun e => ?_)).trans h1; rcases own_block h.own with h0 | ⟨g, cur, h0, _, h3⟩
 ·rw [h0] at e; simp at e
 ·rw [h0] at e; simp only [Option.some.injEq] at e; subst e; have h4 := h.rul; rw [h3] at h4; simp at h4
theorem rs_next (h : RS w0 w H b q W ws bad nr sv k x cs) (hl : ws.length ≤ 1000000) :
  Calls Tryz.prog 86 #[.pointer (some ⟨b, 0, none⟩)] W fun e W' => e = .returned (.string (ws.headD ByteArray.empty)) ∧ RS w0 w H b q W' ws.tail (bad || ws.isEmpty) nr sv k x cs :=
 (next_any H b ws bad W h.wat hl).mono fun _ _ ⟨h1, h2, h3⟩ => ⟨h1, h.call h3 h2⟩
theorem RS.fin (h : RS w0 w H b q W ws bad nr sv k x cs) :
  WordsAt ((((W.setCell ⟨w.heap.size, 0, none⟩ (.int .i64 nr)).setCell ⟨w.heap.size, 1, none⟩ sv).setCell ⟨w.heap.size, 2, none⟩ (.int .i64 k)).setCell ⟨w.heap.size, 3, none⟩ (.int .i64 x)) H b ws bad ∧ w.grownBy ((((W.setCell ⟨w.heap.size, 0, none⟩ (.int .i64 nr)).setCell ⟨w.heap.size, 1, none⟩ sv).setCell ⟨w.heap.size, 2, none⟩ (.int .i64 k)).setCell ⟨w.heap.size, 3, none⟩ (.int .i64 x)) (some b) ∧
   ((((W.setCell ⟨w.heap.size, 0, none⟩ (.int .i64 nr)).setCell ⟨w.heap.size, 1, none⟩ sv).setCell ⟨w.heap.size, 2, none⟩ (.int .i64 k)).setCell ⟨w.heap.size, 3, none⟩ (.int .i64 x)).heap[w.heap.size]? = some (.cells #[.int .i64 nr, sv, .int .i64 k, .int .i64 x] 41 (0, 0)) ∧
   CondsOwn ((((W.setCell ⟨w.heap.size, 0, none⟩ (.int .i64 nr)).setCell ⟨w.heap.size, 1, none⟩ sv).setCell ⟨w.heap.size, 2, none⟩ (.int .i64 k)).setCell ⟨w.heap.size, 3, none⟩ (.int .i64 x)) sv cs := by
 have hne : 41 ≠ 47 := by decide
 have e0 := h.res
 have e1 : (W.setCell ⟨w.heap.size, 0, none⟩ (.int .i64 nr)).heap[w.heap.size]? = some (.cells #[.int .i64 nr, .slice none 0 0, .int .i64 0, .int .i64 0] 41 (0, 0)) := by
  have := heap_setCell_same W w.heap.size 0 _ _ (.int .i64 nr) e0; simpa [zero4] using this
 have e2 : ((W.setCell ⟨w.heap.size, 0, none⟩ (.int .i64 nr)).setCell ⟨w.heap.size, 1, none⟩ sv).heap[w.heap.size]? = some (.cells #[.int .i64 nr, sv, .int .i64 0, .int .i64 0] 41 (0, 0)) := by
  have := heap_setCell_same _ w.heap.size 1 _ _ sv e1; simpa using this
 have e3 : (((W.setCell ⟨w.heap.size, 0, none⟩ (.int .i64 nr)).setCell ⟨w.heap.size, 1, none⟩ sv).setCell ⟨w.heap.size, 2, none⟩ (.int .i64 k)).heap[w.heap.size]? = some (.cells #[.int .i64 nr, sv, .int .i64 k, .int .i64 0] 41 (0, 0)) := by
  have := heap_setCell_same _ w.heap.size 2 _ _ (.int .i64 k) e2; simpa using this
 have e4 : ((((W.setCell ⟨w.heap.size, 0, none⟩ (.int .i64 nr)).setCell ⟨w.heap.size, 1, none⟩ sv).setCell ⟨w.heap.size, 2, none⟩ (.int .i64 k)).setCell ⟨w.heap.size, 3, none⟩ (.int .i64 x)).heap[w.heap.size]? = some (.cells #[.int .i64 nr, sv, .int .i64 k, .int .i64 x] 41 (0, 0)) := by
  have := heap_setCell_same _ w.heap.size 3 _ _ (.int .i64 x) e3; simpa using this
 have b1 := (Below.refl w.heap.size W).setCell (p := ⟨w.heap.size, 0, none⟩) (Nat.le_refl _) (.int .i64 nr); have b2 := b1.setCell (p := ⟨w.heap.size, 1, none⟩) (Nat.le_refl _) sv; have b3 := b2.setCell (p := ⟨w.heap.size, 2, none⟩) (Nat.le_refl _) (.int .i64 k); have b4 := b3.setCell (p := ⟨w.heap.size, 3, none⟩) (Nat.le_refl _) (.int .i64 x); refine ⟨h.wat.below b4 h.hH, growB h.grw b4, e4, ?_⟩
 exact (condsOwn_all h.oks h.own).kept ((((keptC_set e0 hne).trans (keptC_set e1 hne)).trans (keptC_set e2 hne)).trans (keptC_set e3 hne))
def RCnd (w0 w : World) (H b q : Nat) (ws : List ByteArray) (bad : Bool) (nr : Int) (sv : Value) (k x : Int) (cs : List CondD) (v : Value) (W' : World) : Prop :=
 ∃ (c : CondD) (j : Nat) (bad' : Bool), v = .agg #[.int .i64 c.arg, .int .i64 c.op, .int .u64 c.v, .int .u64 c.m, .string c.glob, .int .u32 c.net.ip, .int .i64 c.net.bits, .int .i64 c.net.lo, .int .i64 c.net.hi] ∧ c.ok ∧ RS w0 w H b q W' (ws.drop j) bad' nr sv k x cs ∧ (∀ B : Nat, (∀ x ∈ ws, x.size ≤ B) → c.glob.size ≤ B) ∧
  (∀ (c0 : CondD) (r : List (List UInt8)), bad = false → CondRd c0 → ws.map bL = condW c0 ++ r → c = c0 ∧ bad' = false ∧ (ws.drop j).map bL = r)
theorem rs_cond (HN : NumSaid) (hG : Grd w0) (h : RS w0 w H b q W ws bad nr sv k x cs) (hl : ws.length ≤ 1000000) (hs : ∀ x ∈ ws, x.size ≤ 1000000) :
  Calls Tryz.prog 140 #[.pointer (some ⟨b, 0, none⟩)] W fun e W' => ∃ v, e = .returned v ∧ RCnd w0 w H b q ws bad nr sv k x cs v W' :=
 (cond_any HN w0 H b ws bad W hG h.bel h.b0 (Nat.le_trans h.hH h.grw.size) h.wat hl hs).mono fun _ _ ⟨c, j, bad', h1, h2, h3, h4, h6, h5⟩ => ⟨_, h1, c, j, bad', rfl, h2, h.call h4 h3, h6, h5⟩
theorem RS.start (hB : Below w0.heap.size w0 w) (hb : w0.heap.size ≤ b) (hH : H ≤ w.heap.size) {w1 : World} (hg : (w.alloc (.cells zero4 41)).grownBy w1 (some b)) (hw : WordsAt w1 H b ws bad) (nr k x : Int) :
  RS w0 w H b w1.heap.size (w1.alloc (.cells #[.int .i64 nr, .slice none 0 0, .int .i64 k, .int .i64 x] 41)) ws bad nr (.slice none 0 0) k x [] := by
 have hbw : b < w.heap.size := Nat.lt_of_lt_of_le hw.1 hH; have h0 : Below w.heap.size w (w.alloc (.cells zero4 41)) := (Below.refl _ _).alloc (Nat.le_refl _) _; have h1 : Below w1.heap.size w1 (w1.alloc (.cells #[.int .i64 nr, .slice none 0 0, .int .i64 k, .int .i64 x] 41)) := (Below.refl _ _).alloc (Nat.le_refl _) _; have hs : w.heap.size < w1.heap.size := Nat.lt_of_lt_of_le (by simp) hg.size
 refine ⟨hB, hb, hH, hs, by simp, hw.below h1 (Nat.le_of_lt (Nat.lt_of_le_of_lt hH hs)), grown_trans (grown_of_below h0) (grown_trans hg (grown_of_below h1)), ?_, heap_alloc_new _ _, World.ownsRow_nil _ _ _ _, by simp⟩; exact (h1.block _ hs).trans ((hg.block _ (by simp) (by simp; omega)).trans (heap_alloc_new _ _))
end
theorem rrow4 {w : World} {b : Nat} {t : TypeId} {a0 a1 a2 a3 : Value} (h : w.heap[b]? = some (.cells #[a0, a1, a2, a3] t (0, 0))) :
  w.cell? ⟨b, 0, none⟩ = some a0 ∧ w.cell? ⟨b, 1, none⟩ = some a1 ∧ w.cell? ⟨b, 2, none⟩ = some a2 ∧ w.cell? ⟨b, 3, none⟩ = some a3 ∧ w.frozen? ⟨b, 0, none⟩ = false ∧ w.frozen? ⟨b, 1, none⟩ = false ∧ w.frozen? ⟨b, 2, none⟩ = false ∧ w.frozen? ⟨b, 3, none⟩ = false :=
 ⟨(cell_of_row _ _ _ _ _ _ h).trans rfl, (cell_of_row _ _ _ _ _ _ h).trans rfl, (cell_of_row _ _ _ _ _ _ h).trans rfl, (cell_of_row _ _ _ _ _ _ h).trans rfl, frozen_of_row _ _ _ _ _ h, frozen_of_row _ _ _ _ _ h, frozen_of_row _ _ _ _ _ h, frozen_of_row _ _ _ _ _ h⟩
def nameIx (S : ByteArray) : Nat → Int
 | 0 => -1
 | k + 1 => if formName k = S then k else nameIx S k
theorem nameIx_of {S : ByteArray} {n : Nat} (h : n ≤ 8) (hs : bL S = nameW n) : nameIx S 9 = n := by
 have h1 : S = formName n := ba_ext (by rw [show S.data.toList = bL S from rfl, hs]; rfl); subst h1; have : n = 0 ∨ n = 1 ∨ n = 2 ∨ n = 3 ∨ n = 4 ∨ n = 5 ∨ n = 6 ∨ n = 7 ∨ n = 8 := by omega
 rcases this with rfl | rfl | rfl | rfl | rfl | rfl | rfl | rfl | rfl <;> decide
def RuleA (w : World) (H b : Nat) (ws : List ByteArray) (bad : Bool) (e : Ending) (w' : World) : Prop :=
 ∃ (r : RuleD) (A : Option Addr) (c j : Nat) (bad' : Bool), e = .returned (.agg #[.int .i64 r.nr, .slice A r.conds.length c, .int .i64 r.kind, .int .i64 r.errno]) ∧ CondsOwn w' (.slice A r.conds.length c) r.conds ∧ WordsAt w' H b (ws.drop j) bad' ∧ w.grownBy w' (some b) ∧ r.conds.length ≤ ws.length ∧ (∀ B : Nat, (∀ x ∈ ws, x.size ≤ B) → ∀ c ∈ r.conds, c.glob.size ≤ B) ∧ CondsFrom w.heap.size (.slice A r.conds.length c) ∧
  (∀ r0 : RuleD, bad = false → RuleRd r0 → r0.errno ≤ 255 → ws.map bL = ruleW r0 → r = r0 ∧ bad' = false ∧ ws.drop j = [])
def RLoop (w0 w : World) (H b q : Nat) (ws : List ByteArray) (bad : Bool) (NR k x : Int) (wr : World) : Prop :=
 ∃ (ws' : List ByteArray) (bad' : Bool) (sv : Value) (cs : List CondD), Hid (RS w0 w H b q wr ws' bad' NR sv k x cs) ∧ Hid (∃ i, ws' = ws.drop i) ∧ Hid (cs.length + ws'.length ≤ ws.length) ∧ Hid (∀ B : Nat, (∀ x ∈ ws, x.size ≤ B) → ∀ c ∈ cs, c.glob.size ≤ B) ∧ Hid (∀ r0 : RuleD, bad = false → RuleRd r0 → r0.errno ≤ 255 → ws.map bL = ruleW r0 → bad' = false ∧ ∃ ds, r0.conds = cs ++ ds ∧ ws'.map bL = condsW cs.length ds)
def wordsLeft (wr : World) (b : Nat) : Nat := match wr.cell? ⟨b, 0, none⟩ with
 | some (.slice _ n _) => n
 | _ => 0
set_option linter.unusedSimpArgs false in
set_option maxRecDepth 100000 in
set_option maxHeartbeats 4000000 in
theorem rule_any (HN : NumSaid) (w0 : World) (H b : Nat) (ws : List ByteArray) (bad : Bool) (w : World) (hG : Grd w0) (hB : Below w0.heap.size w0 w) (hb : w0.heap.size ≤ b) (hH : H ≤ w.heap.size) (h : WordsAt w H b ws bad) (hl : ws.length ≤ 100000) (hs : ∀ x ∈ ws, x.size ≤ 1000000) :
  Calls Tryz.prog 88 #[.pointer (some ⟨b, 0, none⟩)] w (RuleA w H b ws bad) := by
 obtain ⟨W0, hW0⟩ : ∃ W0, W0 = w.alloc (.cells #[.int .i64 0, .slice none 0 0, .int .i64 0, .int .i64 0] 41) := ⟨_, rfl⟩
 have hb0 : Below w.heap.size w W0 := by rw [hW0]; exact (Below.refl _ _).alloc (Nat.le_refl _) _
 have hs0 : W0.heap.size = w.heap.size + 1 := by rw [hW0]; simp
 have HAC := Lib.hid (action_any HN w0 H b ws bad W0 hG (hB.trans (hb0.mono hB.size)) hb (by omega) (h.below hb0 hH) (by omega) hs)
 have HST := Lib.hid (fun (w1 : World) (ws1 : List ByteArray) (bad1 : Bool) (nr k x : Int) (hg : W0.grownBy w1 (some b)) (hw : WordsAt w1 H b ws1 bad1) => RS.start hB hb hH (show (w.alloc (.cells zero4 41)).grownBy w1 (some b) from by rw [hW0] at hg; exact hg) hw nr k x); have HLS := Lib.hid (And.intro hl hs); go_enter Tryz.func88, Tryz.ntmps88
 go_upto_region 2 with (go_at_call 87; rw [← hW0]; refine cargs (by simp [Act.eval]) (HAC.out.mono ?_); rintro e w1 ⟨k, x, j1, bad1, rfl, hw1, hg1, hf1⟩; have HW1 := Lib.hid hw1; have HG1 := Lib.hid hg1; have HF1 := Lib.hid hf1; clear hw1 hg1 hf1)
 have HS2 := Lib.hid (HST.out w1 _ bad1 (-1) k x HG1.out HW1.out); clear HAC HST hb0 HW1 HG1 hW0; generalize w1.alloc (.cells #[.int .i64 (-1), .slice none 0 0, .int .i64 k, .int .i64 x] 41) = W2 at *
 generalize w1.heap.size = q at *
 obtain ⟨T0, hT0⟩ : ∃ T0, T0 = ws.drop j1 := ⟨_, rfl⟩
 rw [← hT0] at HS2 HF1; have hT0l : T0.length ≤ ws.length := by rw [hT0]; simp
 have HD0 : Hid (T0.tail = ws.drop (j1 + 1)) := by show _ = _; rw [hT0, List.tail_drop]
 have HM0 : Hid (∀ y ∈ T0.tail, y.size ≤ 1000000) := fun y hy => HLS.out.2 y (by rw [HD0.out] at hy; exact List.mem_of_mem_drop hy); have HNX := Lib.hid (rs_next HS2.out (by have := HLS.out.1; omega))
 have HFW : Hid (∀ r0 : RuleD, bad = false → RuleRd r0 → r0.errno ≤ 255 → ws.map bL = ruleW r0 → k = r0.kind ∧ x = r0.errno ∧ (bad1 || T0.isEmpty) = false ∧ bL (T0.headD ByteArray.empty) = nameW r0.nr.toNat ∧ T0.tail.map bL = condsW 0 r0.conds) := fun r0 h1 h2 h3 h4 => by
  obtain ⟨a1, a2, a3, a4⟩ := HF1.out r0.kind r0.errno _ h1 h2.act h3 h4
  cases T0 with
  | nil => simp at a4
  | cons y t =>
   simp only [List.map_cons, List.cons.injEq] at a4; exact ⟨a1, a2, by rw [a3]; rfl, a4.1, a4.2⟩
 have hTl : T0.tail.length ≤ ws.length := by simp only [List.length_tail]; omega
 clear HF1 hT0 hT0l; generalize T0.headD ByteArray.empty = S at *
 generalize (bad1 || T0.isEmpty) = bad2 at *
 generalize T0.tail = T at *
 go_upto_region 3 with (go_at_call 86; refine cargs (by simp [Act.eval]) (HNX.out.mono ?_); rintro e w3 ⟨rfl, hs3⟩; have HS3 := Lib.hid hs3; clear hs3)
 clear HNX HS2; have HFM := Lib.hid (fun W : World => forms_any W); have HIX := Lib.hid (fun n (hn : n < 9) (w : World) => formIdx n hn w); have HOF : Hid (∀ n, formName n = S → nameIx S (n + 1) = n) := fun n h1 => by rw [nameIx, if_pos h1]
 have HOE : Hid (∀ n, ¬ formName n = S → nameIx S (n + 1) = nameIx S n) := fun n h1 => by rw [nameIx, if_neg h1]
 have HO9 : Hid (∀ n : Nat, n ≤ 8 → bL S = nameW n → nameIx S 9 = n) := fun n h1 h2 => nameIx_of h1 h2; have HS4' : Hid (RS w0 w H b q w3 T bad2 (nameIx S 0) (.slice none 0 0) k x []) := HS3.out; obtain ⟨FN, hFN⟩ : ∃ FN : Nat → ByteArray, FN = formName := ⟨_, rfl⟩
 obtain ⟨OP, hOP⟩ : ∃ OP : Nat → Int, OP = nameIx S := ⟨_, rfl⟩
 rw [← hFN] at HIX HOF HOE; rw [← hOP] at HOF HOE HO9 HS4'; clear hFN hOP HS3
 go_upto_region 4 with (go_at_call 82; refine cargs (by simp [Act.eval]) ((HFM.out _).mono ?_); rintro e w4 ⟨rfl, hb4⟩; have HS4 := Lib.hid (HS4'.out.below hb4); clear hb4)
 clear HS4' HFM
 go_wp2_with fail
 go_loopw [13] (fun iv wr => ∃ n : Nat, n ≤ 9 ∧ iv = .int .i64 n ∧ Hid (RS w0 w H b q wr T bad2 (OP n) (.slice none 0 0) k x [])) (fun iv _ => 9 - (intOf iv).toNat)
 case atStart => exact ⟨0, by omega, rfl, HS4⟩
 case round =>
  clear HS4; obtain ⟨n, hn, rfl, HS5⟩ := hrel
  by_cases hn9 : n < 9
  ·have z1 : (n : Int) < 9 := by omega
   have z2 : (0 : Int) ≤ (n : Int) := by omega
   have hix := fun w : World => HIX.out n (by omega) w; have HOF1 := Lib.hid (HOF.out n); have HOE1 := Lib.hid (HOE.out n); clear HIX HOF HOE HO9; generalize FN n = Y at *
   have HS6 := Lib.hid (fun o => HS5.out.below ((Below.refl _ _).alloc (Nat.le_refl _) o)); have HFC : Hid (∀ a c d f : Int, (wr.alloc (.cells #[.string Y, .int .i64 a, .int .i64 c, .int .i64 d, .int .i64 f] 180)).cell? ⟨wr.heap.size, 0, none⟩ = some (.string Y)) := fun a c d f => (cell_of_row _ _ _ _ _ _ (heap_alloc_new _ _)).trans rfl; go_upto_region 6 with fail
   generalize hW6 : wr.alloc (.cells #[.string Y, .int .i64 (kindF n 0), .int .i64 (kindF n 1), .int .i64 (kindF n 2), .int .i64 (kindF n 3)] 180) = W6 at *
   have f0 : W6.cell? ⟨wr.heap.size, 0, none⟩ = some (.string Y) := by rw [← hW6]; exact HFC.out _ _ _ _
   have HS7 : Hid (RS w0 w H b q W6 T bad2 (OP n) (.slice none 0 0) k x []) := by rw [← hW6]; exact HS6.out _
   clear HS6 HFC hW6 HS5; generalize wr.heap.size = g at *
   by_cases hY : Y = S
   ·subst hY; obtain ⟨d0, d1, d2, d3, dz0, dz1, dz2, dz3⟩ := rrow4 HS7.out.rul; have HS8 : Hid (RS w0 w H b q (W6.setCell ⟨q, 0, none⟩ (.int .i64 (n : Int))) T bad2 (OP (n + 1)) (.slice none 0 0) k x []) := by rw [HOF1.out rfl]; exact HS7.out.setNr n
    clear HS7
    go_wp2_with fail; go_roundw
    case rel => exact ⟨n + 1, by omega, by go_num, HS8⟩
    case measure => simp [intOf]; omega
   ·have z3 : (Y.toList == S.toList) = false := beq_eq_false_iff_ne.2 (fun e => hY (by rw [tl_eq, tl_eq] at e; exact ba_ext e)); have HS8 : Hid (RS w0 w H b q W6 T bad2 (OP (n + 1)) (.slice none 0 0) k x []) := by rw [HOE1.out hY]; exact HS7.out
    clear HS7 hY
    go_wp2_with fail; go_roundw
    case rel => exact ⟨n + 1, by omega, by go_num, HS8⟩
    case measure => simp [intOf]; omega
  ·obtain rfl : n = 9 := by omega
   have HO9' := Lib.hid HO9.out; clear HIX HOF HOE HO9; generalize hNR : OP 9 = NR at *
   clear hNR; obtain ⟨wo, rfl⟩ : ∃ wo : World, wo = wr := ⟨_, rfl⟩
   have HFW2 : Hid (∀ r0 : RuleD, bad = false → RuleRd r0 → r0.errno ≤ 255 → ws.map bL = ruleW r0 → bad2 = false ∧ ∃ ds, r0.conds = [] ++ ds ∧ T.map bL = condsW ([] : List CondD).length ds) := fun r0 h1 h2 h3 h4 => by
    obtain ⟨_, _, a3, _, a5⟩ := HFW.out r0 h1 h2 h3 h4; exact ⟨a3, r0.conds, rfl, a5⟩
   go_wp2_with fail
   go_loopw [24] (fun _ wr => RLoop w0 w H b q ws bad NR k x wr) (fun _ wr => wordsLeft wr b)
   case atStart => exact ⟨T, bad2, _, [], HS5, ⟨j1 + 1, HD0.out⟩, by show _ ≤ _; simpa using hTl, fun B _ c hc => by simp at hc, HFW2⟩
   case round =>
    clear HS5 HFW2; obtain ⟨ws', bad', sv, cs, HS6, HI6, HL6, HGB, HF6⟩ := hrel; obtain ⟨A6, c6, l0, l1, lz0, lz1⟩ := HS6.out.wat.cells
    cases hbd : ws' with
    | nil =>
     subst hbd; have z1 : ¬ (0 : Int) < (0 : Int) := by omega
     obtain ⟨hfw1, hfg1, hfr1, hfc1⟩ := HS6.out.fin; have HFN1 := Lib.hid (And.intro hfw1 (And.intro hfg1 hfc1)); obtain ⟨y0, y1, y2, y3, _⟩ := rrow4 hfr1; obtain ⟨r0, r1, r2, r3, rz0, rz1, rz2, rz3⟩ := rrow4 HS6.out.res; obtain ⟨d0, d1, d2, d3, dz0, dz1, dz2, dz3⟩ := rrow4 HS6.out.rul; obtain ⟨A9, c9, rfl⟩ := own_form2 HS6.out.own; have HFR := Lib.hid (condsFrom_of HS6.out.own)
     have HLE : Hid (cs.length ≤ ws.length) := by show _ ≤ _; have := HL6.out; omega
     have HI9 := Lib.hid HI6.out; clear hfw1 hfg1 hfr1 hfc1 HS6 HI6 HL6
     go_wp2_with fail
     try simp only [Exit.inBlock, Exit.then]
     refine bodyPost_ret (by simp [results, Tryz.results88, go_sem, y0, y1, y2, y3]; try rfl) rfl ?_; obtain ⟨i9, hi9⟩ := HI9.out; refine ⟨⟨NR, cs, k, x⟩, A9, c9, i9, _, rfl, HFN1.out.2.2, by rw [← hi9]; exact HFN1.out.1, HFN1.out.2.1, HLE.out, HGB.out, HFR.out, fun r0 h1 h2 h3 h4 => ?_⟩; obtain ⟨q1, ds, q2, q3⟩ := HF6.out r0 h1 h2 h3 h4
     have q4 : ds = [] := by
      cases ds with
      | nil => rfl
      | cons d ds => simp [condsW] at q3
     obtain ⟨a1, a2, _, a4, _⟩ := HFW.out r0 h1 h2 h3 h4; have hn8 := h2.nr; have a5 := HO9'.out r0.nr.toNat (by omega) a4; refine ⟨?_, q1, hi9.symm⟩; rw [q4, List.append_nil] at q2; obtain ⟨n0, c0, k0, x0⟩ := r0; simp only at a1 a2 a5 q2 hn8; rw [a1, a2, a5, ← q2, Int.toNat_of_nonneg hn8.1]
    | cons y t =>
     subst hbd; have z1 : (0 : Int) < ((y :: t).length : Int) := by simp only [List.length_cons]; omega
     cases bad' with
     | true =>
      obtain ⟨hfw1, hfg1, hfr1, hfc1⟩ := HS6.out.fin; have HFN1 := Lib.hid (And.intro hfw1 (And.intro hfg1 hfc1)); obtain ⟨y0, y1, y2, y3, _⟩ := rrow4 hfr1; obtain ⟨r0, r1, r2, r3, rz0, rz1, rz2, rz3⟩ := rrow4 HS6.out.res; obtain ⟨d0, d1, d2, d3, dz0, dz1, dz2, dz3⟩ := rrow4 HS6.out.rul; obtain ⟨A9, c9, rfl⟩ := own_form2 HS6.out.own; have HFR := Lib.hid (condsFrom_of HS6.out.own)
      have HLE : Hid (cs.length ≤ ws.length) := by show _ ≤ _; have := HL6.out; omega
      have HI9 := Lib.hid HI6.out; clear hfw1 hfg1 hfr1 hfc1 HS6 HI6 HL6
      go_wp2_with fail
      try simp only [Exit.inBlock, Exit.then]
      refine bodyPost_ret (by simp [results, Tryz.results88, go_sem, y0, y1, y2, y3]; try rfl) rfl ?_; obtain ⟨i9, hi9⟩ := HI9.out; refine ⟨⟨NR, cs, k, x⟩, A9, c9, i9, _, rfl, HFN1.out.2.2, by rw [← hi9]; exact HFN1.out.1, HFN1.out.2.1, HLE.out, HGB.out, HFR.out, fun r0 h1 h2 h3 h4 => ?_⟩; obtain ⟨q1, _⟩ := HF6.out r0 h1 h2 h3 h4; cases q1
     | false =>
      obtain ⟨A9, c9, rfl⟩ := own_form2 HS6.out.own; have hlt := HL6.out; simp only [List.length_cons] at hlt; have hl0 := HLS.out.1
      have HSZ : Hid (∀ u ∈ t, u.size ≤ 1000000) := fun u hu => HLS.out.2 u (by
       obtain ⟨i9, h9⟩ := HI6.out; exact List.mem_of_mem_drop (i := i9) (by rw [← h9]; simp [hu]))
      have HNX : Hid (Calls Tryz.prog 86 #[.pointer (some ⟨b, 0, none⟩)] wr fun e W' => e = .returned (.string y) ∧ RS w0 w H b q W' t false NR (.slice A9 cs.length c9) k x cs) := rs_next HS6.out (by simp only [List.length_cons]; omega); have HCN := Lib.hid (fun W (hW : RS w0 w H b q W t false NR (.slice A9 cs.length c9) k x cs) => rs_cond HN hG hW (by omega) HSZ.out)
      have HIT : Hid (∃ i, t = ws.drop i) := by
       obtain ⟨i9, h9⟩ := HI6.out; exact ⟨i9 + 1, by rw [← List.tail_drop, ← h9]; rfl⟩
      have HL7 : Hid (cs.length + t.length + 1 ≤ ws.length) := by show _ ≤ _; omega
      have hcl : cs.length ≤ 1000000 := by omega
      have HGA : Hid (∀ c : CondD, (∀ B : Nat, (∀ x ∈ t, x.size ≤ B) → c.glob.size ≤ B) → ∀ B : Nat, (∀ x ∈ ws, x.size ≤ B) → ∀ y ∈ cs ++ [c], y.glob.size ≤ B) := fun c hc B hB y hy => by
       rcases List.mem_append.1 hy with hy | hy
       ·exact HGB.out B hB y hy
       ·obtain rfl := List.mem_singleton.1 hy
        exact hc B (fun u hu => hB u (by
         obtain ⟨i9, h9⟩ := HIT.out; rw [h9] at hu; exact List.mem_of_mem_drop hu))
      have HF7 : Hid (∀ (c : CondD) (j : Nat) (bad' : Bool), (∀ (c0 : CondD) (r : List (List UInt8)), CondRd c0 → t.map bL = condW c0 ++ r → c = c0 ∧ bad' = false ∧ (t.drop j).map bL = r) → ∀ r0 : RuleD, bad = false → RuleRd r0 → r0.errno ≤ 255 → ws.map bL = ruleW r0 → bad' = false ∧ ∃ ds, r0.conds = (cs ++ [c]) ++ ds ∧ (t.drop j).map bL = condsW (cs ++ [c]).length ds) := fun c j bad' hc r0 h1 h2 h3 h4 => by
       obtain ⟨_, ds, q2, q3⟩ := HF6.out r0 h1 h2 h3 h4
       cases ds with
       | nil => simp [condsW] at q3
       | cons d ds =>
        simp only [List.map_cons, condsW, List.cons.injEq] at q3; obtain ⟨k1, k2, k3⟩ := hc d _ (h2.con d (by rw [q2]; simp)) q3.2; exact ⟨k2, ds, by rw [q2, k1]; simp, by rw [k3]; simp⟩
      go_upto_region 11 with (go_at_call 86; refine cargs (by simp [Act.eval]) (HNX.out.mono ?_); rintro e w7 ⟨rfl, hs7⟩; have HS7 := Lib.hid hs7; clear hs7)
      have HSD := Lib.hid HS7.out.drew; obtain ⟨d0, d1, d2, d3, dz0, dz1, dz2, dz3⟩ := rrow4 HS7.out.rul; have HL0 := Lib.hid l0; clear HNX HS6 HI6 HL6 HF6 l0 l1 lz0 lz1 hlt
      go_region_law (first
       | (refine step_call rfl 140 Tryz.func140 (by kernel_rfl) (by kernel_rfl) #[.tmp 41] _ rfl #[.pointer (some ⟨b, 0, none⟩)] (by simp [Act.eval, Act.put]) (RCnd w0 w H b q t false NR (.slice A9 cs.length c9) k x cs) (HCN.out _ HSD.out) ?_; rintro v w8 ⟨c, j, bad8, rfl, hok8, hs8, hgb8, hf8⟩; have HGB8 : Hid (∀ B : Nat, (∀ x ∈ ws, x.size ≤ B) → ∀ y ∈ cs ++ [c], y.glob.size ≤ B) := HGA.out c hgb8; have HOK8 := Lib.hid hok8; have HS8 := Lib.hid hs8; have HF8 := Lib.hid (HF7.out c j bad8 (fun c0 r => hf8 c0 r rfl)); obtain ⟨e0, e1, e2, e3, ez0, ez1, ez2, ez3⟩ := rrow4 hs8.rul; have hq8 := hs8.hqW; clear hok8 hs8 hf8 hgb8)
       | (refine step_append_cond rfl (.tmp 40) (.tmp 43) rfl w.heap.size w8.heap.size (.slice A9 cs.length c9) cs c (by simp [Act.eval, Act.put]) (by simp [Act.eval, Act.put]) (HS8.out.own.alloc _) (heap_alloc_new _ _) hcl (by have := HS8.out.grw.size; simp; omega) ?_; intro g9 cap9 w9 ho9 hg9; have HS9 := Lib.hid (HS8.out.append HOK8.out ho9 hg9); obtain ⟨n0, n1, n2, n3, nz0, nz1, nz2, nz3⟩ := rrow4 (HS8.out.rul_grown hg9); clear ho9 hg9))
      all_goals
       obtain ⟨A10, c10, m0, _, _, _⟩ := HS9.out.wat.cells
       have HMS : Hid (wordsLeft (w9.setCell ⟨q, 1, none⟩ (.slice (some ⟨g9, 0, none⟩) (cs.length + 1) cap9)) b < wordsLeft wr b) := by
        show _ < _; unfold wordsLeft; rw [m0, HL0.out]; simp; omega
       have HI10 : Hid (∃ i, t.drop j = ws.drop i) := by
        obtain ⟨i9, h9⟩ := HIT.out; exact ⟨i9 + j, by rw [h9, List.drop_drop]⟩
       have HL10 : Hid ((cs ++ [c]).length + (t.drop j).length ≤ ws.length) := by
        show _ ≤ _; have := HL7.out; simp only [List.length_append, List.length_cons, List.length_nil, List.length_drop]; omega
       clear m0 n0 n1 n2 n3 nz0 nz1 nz2 nz3
       go_wp2_with fail; go_roundw
       case rel =>
        repeat apply Exists.intro
        refine (and_comm).mp ⟨rfl, ?_⟩; exact ⟨t.drop j, bad8, _, cs ++ [c], HS9, HI10, HL10, HGB8, HF8⟩
       case measure => exact HMS.out
end Go.Proofs.YtmgngapkgcofnabGreatDoor
