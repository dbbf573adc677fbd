/- The reference's rule of a line: what it holds while it is read. -/
import Derived.Test.YtmgngapkgcofnaaGreatDoorM32
import Derived.Test.YtmgngapkgcofnaaGreatDoorM20
import Derived.Test.YtmgngapkgcofnaaGreatDoorM31
import Derived.Test.YtmgngapkgcofnaaGreatDoorM41
import Derived.BigQuiet
import Derived.Lib.QuietBelow
import Derived.StillTailTactics
namespace Go.Proofs.YtmgngapkgcofnaaGreatDoor
open Go.RowKit Go.PlainAid

/-- A slice of a block of words. -/
def WIn (S : Array Value) (g : Nat) (v : Value) (ws : List ByteArray) : Prop := ∃ A c, v = .slice A ws.length c ∧ ws.length ≤ c ∧ (ws = [] ∨ ∃ o, A = some ⟨g, o, none⟩ ∧ ∀ (i : Nat) (x : ByteArray), ws[i]? = some x → S[o + i]? = some (.string x))
def sliceLen : Value → Nat
  | .slice _ n _ => n
  | _ => 0
structure RO (w : World) (g : Nat) (S : Array Value) (q : Nat) (W : World) (nr : Int) (sv : Value) (k x : Int) (cs : List CondD) : Prop where
  bel : Below w.heap.size w W
  hg : w.heap.size < g
  hgq : g < q
  hqW : q < W.heap.size
  res : W.heap[w.heap.size]? = some (.cells zero4 73 (0, 0))
  str : W.heap[g]? = some (.cells S 9 (0, 0))
  rul : W.heap[q]? = some (.cells #[.int .i64 nr, sv, .int .i64 k, .int .i64 x] 73 (0, 0))
  own : W.ownsRow w.heap.size 84 9 sv cs.length (flatC cs)
  oks : ∀ c ∈ cs, c.ok
section
variable {w : World} {g : Nat} {S : Array Value} {q : Nat} {W W' : World} {nr : Int} {sv : Value} {k x : Int} {cs : List CondD}
theorem RO.below (h : RO w g S q W nr sv k x cs) (hb : Below W.heap.size W W') : RO w g S q W' nr sv k x cs := by
  have h1 := h.hg
  have h2 := h.hgq
  have h3 := h.hqW
  refine ⟨h.bel.trans (hb.mono h.bel.size), h1, h2, Nat.lt_of_lt_of_le h3 hb.size, (hb.block _ (by omega)).trans h.res, (hb.block _ (by omega)).trans h.str, (hb.block _ h3).trans h.rul, ?_, h.oks⟩
  exact own_at h.own (fun g cur _ hgc => (hb.block g (lt_of_block hgc)).trans hgc)
theorem RO.drew (h : RO w g S q W nr sv k x cs) : RO w g S q W.drew nr sv k x cs := h.below ((Below.refl _ _).drew)
theorem RO.alloc (h : RO w g S q W nr sv k x cs) (o : Obj) : RO w g S q (W.alloc o) nr sv k x cs := h.below ((Below.refl _ _).alloc (Nat.le_refl _) o)
theorem RO.setNr (h : RO w g S q W nr sv k x cs) (n : Int) : RO w g S q (W.setCell ⟨q, 0, none⟩ (.int .i64 n)) n sv k x cs := by
  have h1 := h.hg
  have h2 := h.hgq
  refine ⟨h.bel.setCell (p := ⟨q, 0, none⟩) (by show w.heap.size ≤ q; omega) _, h1, h2, by simpa [World.setCell] using h.hqW, ?_, ?_, ?_, ?_, h.oks⟩
  · exact (heap_setCell_other W ⟨q, 0, none⟩ w.heap.size _ (fun e => by simp at e; omega)).trans h.res
  · exact (heap_setCell_other W ⟨q, 0, none⟩ g _ (fun e => by simp at e; omega)).trans h.str
  · have := heap_setCell_same W q 0 _ _ (.int .i64 n) h.rul; simpa using this
  · refine own_at h.own (fun g cur hbg hgc => (heap_setCell_other W ⟨q, 0, none⟩ g _ (fun e => ?_)).trans hgc)
    simp only at e
    subst e
    rw [h.rul] at hgc
    simp at hgc
theorem RO.setAct (h : RO w g S q W nr sv k x cs) (k' x' : Int) : RO w g S q ((W.setCell ⟨q, 2, none⟩ (.int .i64 k')).setCell ⟨q, 3, none⟩ (.int .i64 x')) nr sv k' x' cs := by
  have h1 := h.hg
  have h2 := h.hgq
  have hr := heap_setCell_same W q 2 _ _ (.int .i64 k') h.rul
  have hr2 := heap_setCell_same _ q 3 _ _ (.int .i64 x') hr
  refine ⟨(h.bel.setCell (p := ⟨q, 2, none⟩) (by show w.heap.size ≤ q; omega) _).setCell (p := ⟨q, 3, none⟩) (by show w.heap.size ≤ q; omega) _, h1, h2, by simpa [World.setCell] using h.hqW, ?_, ?_, ?_, ?_, h.oks⟩
  · exact (heap_setCell_other _ ⟨q, 3, none⟩ w.heap.size _ (fun e => by simp at e; omega)).trans ((heap_setCell_other W ⟨q, 2, none⟩ w.heap.size _ (fun e => by simp at e; omega)).trans h.res)
  · exact (heap_setCell_other _ ⟨q, 3, none⟩ g _ (fun e => by simp at e; omega)).trans ((heap_setCell_other W ⟨q, 2, none⟩ g _ (fun e => by simp at e; omega)).trans h.str)
  · simpa using hr2
  · refine own_at h.own (fun g cur hbg hgc => ?_)
    have hne : g ≠ q := fun e => by
      subst e
      rw [h.rul] at hgc
      simp at hgc
    exact (heap_setCell_other _ ⟨q, 3, none⟩ g _ hne).trans ((heap_setCell_other W ⟨q, 2, none⟩ g _ hne).trans hgc)
theorem RO.kept (h : RO w g S q W nr sv k x cs) {o : Obj} {W1 : World} (hg : (W.alloc o).grownBy W1 sv.ownBlock) :
    (∀ (i : Nat) (ob : Obj), W.heap[i]? = some ob → (∀ cur, ob ≠ .cells cur 84 (0, 0)) → W1.heap[i]? = some ob) ∧ Below w.heap.size W W1 ∧ W.heap.size < W1.heap.size := by
  have hsz : W.heap.size < (W.alloc o).heap.size := by simp
  refine ⟨fun i ob hi hne => ?_, ⟨hg.os, hg.tape, hg.output, Nat.le_trans (by omega) hg.size, fun i hi => ?_⟩, Nat.lt_of_lt_of_le hsz hg.size⟩
  · have hlt := lt_of_block hi
    have h1 : (W.alloc o).heap[i]? = some ob := (((Below.refl W.heap.size W).alloc (Nat.le_refl _) o).block i hlt).trans hi
    refine (hg.block i (by omega) (fun e => ?_)).trans h1
    rcases own_block h.own with h0 | ⟨g, cur, h0, _, h3⟩
    · rw [h0] at e; simp at e
    · rw [h0] at e
      simp only [Option.some.injEq] at e
      subst e
      rw [h3] at hi
      simp only [Option.some.injEq] at hi
      exact hne cur hi.symm
  · have hlt : i < W.heap.size := Nat.lt_of_lt_of_le hi h.bel.size
    refine (hg.block i (by omega) (fun e => ?_)).trans (((Below.refl W.heap.size W).alloc (Nat.le_refl _) o).block i hlt)
    rcases own_block h.own with h0 | ⟨g, cur, h0, h2, _⟩
    · rw [h0] at e; simp at e
    · rw [h0] at e; simp only [Option.some.injEq] at e; omega
theorem RO.append (h : RO w g S q W nr sv k x cs) {y : CondD} (hy : y.ok) {o : Obj} {W1 : World} {v' : Value} (ho : W1.ownsRow w.heap.size 84 9 v' (cs.length + 1) (flatC (cs ++ [y]))) (hgr : (W.alloc o).grownBy W1 sv.ownBlock) :
    RO w g S q (W1.setCell ⟨q, 1, none⟩ v') nr v' k x (cs ++ [y]) := by
  have hg := h.hg
  have hgq := h.hgq
  have hqW := h.hqW
  obtain ⟨hk, hlow, hsz⟩ := h.kept hgr
  have hr1 := hk q _ h.rul (by simp)
  refine ⟨(h.bel.trans hlow).setCell (p := ⟨q, 1, none⟩) (by show w.heap.size ≤ q; omega) _, hg, hgq, ?_, ?_, ?_, ?_, ?_, ?_⟩
  · simp only [World.setCell]
    have : q < W1.heap.size := by omega
    simpa using this
  · exact (heap_setCell_other W1 ⟨q, 1, none⟩ w.heap.size _ (fun e => by simp at e; omega)).trans (hk _ _ h.res (by simp))
  · exact (heap_setCell_other W1 ⟨q, 1, none⟩ g _ (fun e => by simp at e; omega)).trans (hk _ _ h.str (by simp))
  · have := heap_setCell_same W1 q 1 _ _ v' hr1; simpa using this
  · rw [List.length_append, List.length_singleton]
    refine own_at ho (fun g cur hbg hgc => (heap_setCell_other W1 ⟨q, 1, none⟩ g _ (fun e => ?_)).trans hgc)
    simp only at e
    subst e
    rw [hr1] at hgc
    simp at hgc
  · intro c hc
    rcases List.mem_append.1 hc with hc | hc
    · exact h.oks c hc
    · obtain rfl := List.mem_singleton.1 hc; exact hy
theorem RO.fin (h : RO w g S q W nr sv k x cs) :
    Below w.heap.size w ((((W.setCell ⟨w.heap.size, 0, none⟩ (.int .i64 nr)).setCell ⟨w.heap.size, 1, none⟩ sv).setCell ⟨w.heap.size, 2, none⟩ (.int .i64 k)).setCell ⟨w.heap.size, 3, none⟩ (.int .i64 x)) ∧
      ((((W.setCell ⟨w.heap.size, 0, none⟩ (.int .i64 nr)).setCell ⟨w.heap.size, 1, none⟩ sv).setCell ⟨w.heap.size, 2, none⟩ (.int .i64 k)).setCell ⟨w.heap.size, 3, none⟩ (.int .i64 x)).heap[w.heap.size]? = some (.cells #[.int .i64 nr, sv, .int .i64 k, .int .i64 x] 73 (0, 0)) ∧
      CondsOwn ((((W.setCell ⟨w.heap.size, 0, none⟩ (.int .i64 nr)).setCell ⟨w.heap.size, 1, none⟩ sv).setCell ⟨w.heap.size, 2, none⟩ (.int .i64 k)).setCell ⟨w.heap.size, 3, none⟩ (.int .i64 x)) sv cs := by
  have hne : 73 ≠ 84 := by decide
  have e0 := h.res
  have e1 : (W.setCell ⟨w.heap.size, 0, none⟩ (.int .i64 nr)).heap[w.heap.size]? = some (.cells #[.int .i64 nr, .slice none 0 0, .int .i64 0, .int .i64 0] 73 (0, 0)) := by
    have := heap_setCell_same W w.heap.size 0 _ _ (.int .i64 nr) e0; simpa [zero4] using this
  have e2 : ((W.setCell ⟨w.heap.size, 0, none⟩ (.int .i64 nr)).setCell ⟨w.heap.size, 1, none⟩ sv).heap[w.heap.size]? = some (.cells #[.int .i64 nr, sv, .int .i64 0, .int .i64 0] 73 (0, 0)) := by
    have := heap_setCell_same _ w.heap.size 1 _ _ sv e1; simpa using this
  have e3 : (((W.setCell ⟨w.heap.size, 0, none⟩ (.int .i64 nr)).setCell ⟨w.heap.size, 1, none⟩ sv).setCell ⟨w.heap.size, 2, none⟩ (.int .i64 k)).heap[w.heap.size]? = some (.cells #[.int .i64 nr, sv, .int .i64 k, .int .i64 0] 73 (0, 0)) := by
    have := heap_setCell_same _ w.heap.size 2 _ _ (.int .i64 k) e2; simpa using this
  have e4 : ((((W.setCell ⟨w.heap.size, 0, none⟩ (.int .i64 nr)).setCell ⟨w.heap.size, 1, none⟩ sv).setCell ⟨w.heap.size, 2, none⟩ (.int .i64 k)).setCell ⟨w.heap.size, 3, none⟩ (.int .i64 x)).heap[w.heap.size]? = some (.cells #[.int .i64 nr, sv, .int .i64 k, .int .i64 x] 73 (0, 0)) := by
    have := heap_setCell_same _ w.heap.size 3 _ _ (.int .i64 x) e3; simpa using this
  refine ⟨(((h.bel.setCell (p := ⟨w.heap.size, 0, none⟩) (Nat.le_refl _) _).setCell (p := ⟨w.heap.size, 1, none⟩) (Nat.le_refl _) _).setCell (p := ⟨w.heap.size, 2, none⟩) (Nat.le_refl _) _).setCell (p := ⟨w.heap.size, 3, none⟩) (Nat.le_refl _) _, e4, ?_⟩
  exact (condsOwn_all h.oks h.own).kept ((((keptC_set e0 hne).trans (keptC_set e1 hne)).trans (keptC_set e2 hne)).trans (keptC_set e3 hne))
theorem RO.words (h : RO w g S q W nr sv k x cs) {v : Value} {ws : List ByteArray} (hw : WIn S g v ws) : StrsSl W W.heap.size v ws := by
  obtain ⟨A, c, h1, h2, h3⟩ := hw
  refine ⟨A, c, h1, h2, h3.imp id ?_⟩
  rintro ⟨o, ha, hx⟩
  refine ⟨g, o, ha, lt_of_block h.str, fun i x hi => ?_⟩
  rw [cell_of_row _ _ _ _ _ _ h.str]
  exact hx i x hi
end
theorem win_own {W : World} {base : Nat} {v : Value} {ws : List ByteArray} (h : W.ownsRow base 9 1 v ws.length (ws.map Value.string)) (hne : ws ≠ []) : ∃ g S c, v = .slice (some ⟨g, 0, none⟩) ws.length c ∧ base ≤ g ∧ W.heap[g]? = some (.cells S 9 (0, 0)) ∧ WIn S g v ws := by
  rcases h.2 with ⟨h0, h1⟩ | ⟨g, cap, cur, hv, hB, hg, hc, _, hsz, ht⟩
  · exact absurd (List.eq_nil_of_length_eq_zero h1) hne
  · refine ⟨g, cur, cap, hv, hB, hg, _, cap, hv, hc, .inr ⟨0, rfl, fun i x hx => ?_⟩⟩
    have h1 : (ws.map Value.string)[i]? = some (.string x) := by rw [List.getElem?_map, hx]; rfl
    rw [← ht, List.getElem?_take] at h1
    split at h1
    · simpa using h1
    · cases h1
theorem WIn.drop {S : Array Value} {g o c : Nat} {ws : List ByteArray} (h : WIn S g (.slice (some ⟨g, o, none⟩) ws.length c) ws) (m : Nat) (A : Option Addr) (hA : c ≠ m → A = some ⟨g, o + m, none⟩) : WIn S g (.slice A (ws.length - m) (c - m)) (ws.drop m) := by
  obtain ⟨A0, c0, h1, h2, h3⟩ := h
  simp only [Value.slice.injEq, true_and] at h1
  obtain ⟨rfl, rfl⟩ := h1
  refine ⟨A, c - m, by simp, by simp; omega, ?_⟩
  by_cases hd : ws.drop m = []
  · exact .inl hd
  · right
    have hl : m < ws.length := by
      rcases Nat.lt_or_ge m ws.length with h | h
      · exact h
      · exact absurd (List.drop_eq_nil_of_le h) hd
    obtain ⟨o', ho, hx⟩ := h3.resolve_left (fun e => by rw [e] at hl; simp at hl)
    simp only [Option.some.injEq, Addr.mk.injEq, true_and, and_true] at ho
    subst ho
    refine ⟨o + m, hA (by omega), fun i x hi => ?_⟩
    rw [List.getElem?_drop] at hi
    rw [Nat.add_assoc]
    exact hx _ _ hi
/-- What a line's reading answers. -/
def RuleOfA (ws : List (List UInt8)) (w : World) (e : Ending) (w' : World) : Prop := Below w.heap.size w w' ∧ ∃ (nr k x : Int) (A : Option Addr) (n c : Nat) (ok : Bool), e = .returned (.tuple #[.agg #[.int .i64 nr, .slice A n c, .int .i64 k, .int .i64 x], .bool ok]) ∧
  (ok = true → ∃ conds, n = conds.length ∧ CondsOwn w' (.slice A n c) conds ∧ CondsFrom w.heap.size (.slice A n c) ∧ RuleRd ⟨nr, conds, k, x⟩ ∧ ruleW ⟨nr, conds, k, x⟩ = ws) ∧ (ok = false → RuleNo ws)
end Go.Proofs.YtmgngapkgcofnaaGreatDoor
/- The reference's rule of a line: the walk. -/
namespace Go.Proofs.YtmgngapkgcofnaaGreatDoor
open Go.RowKit Go.PlainAid

/-- A test that says no just where P holds. -/
def IsNo (b : Bool) (P : Prop) : Prop := b = false ↔ P
theorem list_append_cond {w : World} {ops : Array Oper} {rest : List Oper} {o : Oper} {a : Act} {Q : Exit → Act → World → Prop} (hgd : o.guard = none) (s x : Operand)
    (ho : o.op = .call { callee := .builtin .append, args := #[s, x], argTypes := #[71, 71] })
    (base bs : Nat) (v1 : Value) (l : List CondD) (y : CondD) (hs : a.eval s = v1) (hx : a.eval x = .slice (some ⟨bs, 0, none⟩) 1 1)
    (hown : w.ownsRow base 84 9 v1 l.length (flatC l))
    (hb : w.heap[bs]? = some (.cells #[.int .i64 y.arg, .int .i64 y.op, .int .u64 y.v, .int .u64 y.m, .string y.glob, .int .u32 y.net.ip, .int .i64 y.net.bits, .int .i64 y.net.lo, .int .i64 y.net.hi] 84 (0, 0))) (hl : l.length ≤ 1000000) (hbase : base ≤ w.heap.size)
    (h : ∀ g cap w', w'.ownsRow base 84 9 (.slice (some ⟨g, 0, none⟩) (l.length + 1) cap) (l.length + 1) (flatC (l ++ [y])) → w.grownBy w' v1.ownBlock → wpList Tryz.prog ops Q rest (a.put o.dst (.slice (some ⟨g, 0, none⟩) (l.length + 1) cap)) w') :
    wpList Tryz.prog ops Q (o :: rest) a w := by
  obtain ⟨z, hinf, hz2⟩ := condInfo
  obtain ⟨i0, hi, hz0, hz1, hz3⟩ := info_parts hinf
  refine wpList_append_own _ hgd s x _ ho base 84 i0 z 9 80 Tryz.underlying71 hi hz0 hz1 hz3 hz2 (by omega) v1 l.length (flatC l) hs hown ⟨bs, 0, none⟩ 1 1 y.row hx rfl (World.news_of_block hb) (by simp [CondD.row, Value.oneCell']) (by unfold maxLen; omega) (by omega) hbase ?_
  intro v' w' h2 h3 _
  rcases h2.2 with ⟨_, h4⟩ | ⟨g, cap, cur, h4, _⟩
  · omega
  · subst h4
    exact h g cap w' (by rw [show flatC (l ++ [y]) = flatC l ++ y.row from by simp [flatC]]; exact h2) h3
theorem RO.start {w w1 : World} {g : Nat} {S : Array Value} (hb : Below (w.alloc (.cells zero4 73)).heap.size (w.alloc (.cells zero4 73)) w1) (hg : (w.alloc (.cells zero4 73)).heap.size ≤ g) (hS : w1.heap[g]? = some (.cells S 9 (0, 0))) :
    RO w g S w1.heap.size (w1.alloc (.cells zero4 73)) 0 (.slice none 0 0) 0 0 [] := by
  have h0 : Below w.heap.size w (w.alloc (.cells zero4 73)) := (Below.refl _ _).alloc (Nat.le_refl _) _
  have h1 : Below w1.heap.size w1 (w1.alloc (.cells zero4 73)) := (Below.refl _ _).alloc (Nat.le_refl _) _
  have hs : w.heap.size < w1.heap.size := Nat.lt_of_lt_of_le (by simp) hb.size
  have hg' : w.heap.size < g := by simp at hg; omega
  exact ⟨(h0.trans (hb.mono h0.size)).trans (h1.mono (by omega)), hg', lt_of_block hS, by simp, (h1.block _ hs).trans ((hb.block _ (by simp)).trans (heap_alloc_new _ _)), (h1.block _ (lt_of_block hS)).trans hS, heap_alloc_new _ _, World.ownsRow_nil _ _ _ _, by simp⟩
theorem RO.finq {w : World} {g : Nat} {S : Array Value} {q : Nat} {W : World} {nr : Int} {sv : Value} {k x : Int} {cs : List CondD} (h : RO w g S q W nr sv k x cs) (v : Value) : (W.setCell ⟨w.heap.size, 0, none⟩ v).cell? ⟨q, 0, none⟩ = some (.int .i64 nr) := by
  have h1 := h.hg
  have h2 := h.hgq
  have hne : q ≠ w.heap.size := by omega
  exact (cell_of_row _ _ _ _ _ _ ((heap_setCell_other _ ⟨w.heap.size, 0, none⟩ q _ hne).trans h.rul)).trans rfl
/-- The answer is laid. -/
def FinR (w wx : World) (nr : Int) (sv : Value) (k x : Int) (cs : List CondD) : Prop := Below w.heap.size w wx ∧ wx.heap[w.heap.size]? = some (.cells #[.int .i64 nr, sv, .int .i64 k, .int .i64 x] 73 (0, 0)) ∧ CondsOwn wx sv cs
theorem RO.finR {w : World} {g : Nat} {S : Array Value} {q : Nat} {W : World} {nr : Int} {sv : Value} {k x : Int} {cs : List CondD} (h : RO w g S q W nr sv k x cs) : FinR w ((((W.setCell ⟨w.heap.size, 0, none⟩ (.int .i64 nr)).setCell ⟨w.heap.size, 1, none⟩ sv).setCell ⟨w.heap.size, 2, none⟩ (.int .i64 k)).setCell ⟨w.heap.size, 3, none⟩ (.int .i64 x)) nr sv k x cs := h.fin
theorem FinR.drew {w wx : World} {nr : Int} {sv : Value} {k x : Int} {cs : List CondD} (h : FinR w wx nr sv k x cs) : FinR w wx.drew nr sv k x cs := ⟨h.1.drew, h.2.1, h.2.2.kept (fun _ _ _ hk => hk)⟩
theorem below_drewN (w : World) (n : Nat) : Below w.heap.size w (w.drewN n) := ⟨(Below.refl w.heap.size w).os, (Below.refl w.heap.size w).tape, (Below.refl w.heap.size w).output, Nat.le_refl _, fun _ _ => rfl⟩
theorem words_size {s : ByteArray} {c : UInt8} {ws : List ByteArray} (h : ws.map bL = cutW c (bL s)) : ws ≠ [] ∧ ws.length ≤ s.size + 1 ∧ ∀ u ∈ ws, u.size ≤ s.size := by
  have hl : (bL s).length = s.size := by unfold bL; simp
  refine ⟨fun e => ?_, ?_, fun u hu => ?_⟩
  · rw [e] at h
    exact cutW_ne c (bL s) h.symm
  · have := cutW_len c (bL s)
    rw [← h, List.length_map, hl] at this
    exact this
  · have := cutW_word c (bL s) (bL u) (by rw [← h]; exact List.mem_map_of_mem hu)
    rw [hl] at this
    have hu : (bL u).length = u.size := by unfold bL; simp
    omega
theorem ruleI_first {ws : List ByteArray} {WS : List (List UInt8)} (hw : ws.map bL = WS) {k x : Int} {r : List (List UInt8)} (ha : ActRd k x) (he : WS = actW k x ++ r) {n : Nat} (hn : n = (actW k x).length) {y : ByteArray} (hy : ws[n]? = some y) :
    RuleI WS k x y [] (ws.drop (n + 1)) := by
  refine ⟨ha, ?_, by simp⟩
  have h1 : r = (ws.drop n).map bL := by rw [List.map_drop, hw, he, hn, List.drop_left]
  obtain ⟨hlt, rfl⟩ := List.getElem?_eq_some_iff.1 hy
  rw [he, h1, List.drop_eq_getElem_cons hlt]
  rfl
theorem ruleNo_few {ws : List ByteArray} {WS : List (List UInt8)} (hw : ws.map bL = WS) {k x : Int} {r : List (List UInt8)} (ha : ActRd k x) (he : WS = actW k x ++ r) {n : Nat} (hn : n = (actW k x).length) (hl : ws.length ≤ n) : RuleNo WS := by
  have h1 := congrArg List.length he
  rw [← hw, List.length_map, List.length_append] at h1
  have : r = [] := List.eq_nil_of_length_eq_zero (by omega)
  subst this
  exact ruleNo_short ha (by simpa using he)

set_option linter.unusedSimpArgs false in
set_option maxRecDepth 100000 in
set_option maxHeartbeats 8000000 in
theorem ruleOf_any (s : ByteArray) (w : World) (hs : s.size ≤ 100000) :
    Calls Tryz.prog 27 #[.string s] w (RuleOfA (cutW 32 (bL s)) w) := by
  have HCT := Lib.hid (fun W => cut_any s 32 W (by omega))
  generalize hWS : cutW 32 (bL s) = WS at *
  have HWS := Lib.hid hWS
  clear hWS
  have HNO : Hid (∀ W' (nr k x : Int) (A : Option Addr) (n c : Nat), Below w.heap.size w W' → RuleNo WS → RuleOfA WS w (.returned (.tuple #[.agg #[.int .i64 nr, .slice A n c, .int .i64 k, .int .i64 x], .bool false])) W') := fun W' nr k x A n c h1 h2 => ⟨h1, nr, k, x, A, n, c, false, rfl, (fun h => by cases h), fun _ => h2⟩
  go_enter Tryz.func27, Tryz.ntmps27
  go_upto_region 2 with (go_at_call 25; refine cargs (by simp [Act.eval]) ((HCT.out _).mono ?_); rintro e w1 ⟨ws, v, rfl, hws, hown, hb1⟩)
  obtain ⟨hne, hwl, hwz⟩ := words_size hws
  obtain ⟨g, S, c, rfl, hBg, hgS, hwin⟩ := win_own hown hne
  have HR2 : Hid (RO w g S w1.heap.size (w1.alloc (.cells #[.int .i64 0, .slice none 0 0, .int .i64 0, .int .i64 0] 73)) 0 (.slice none 0 0) 0 0 []) := RO.start hb1 hBg hgS
  have HWN := Lib.hid hwin
  have HWZ : Hid (∀ u ∈ ws, u.size ≤ 1000000) := fun u hu => by have := hwz u hu; omega
  have HW := Lib.hid (hws.trans HWS.out)
  have hln : ws.length ≤ 100001 := by omega
  have hl0 : 0 < ws.length := List.length_pos_iff.2 hne
  have hcw : ws.length ≤ c := by
    obtain ⟨_, _, h1, h2, _⟩ := hwin
    simp only [Value.slice.injEq, true_and] at h1
    omega
  clear hb1 hBg hgS hwin hws hwz hown hne hwl HCT HWS
  go_upto_region 3 with fail
  generalize w1.alloc (.cells #[.int .i64 0, .slice none 0 0, .int .i64 0, .int .i64 0] 73) = W2 at *
  generalize w1.heap.size = q at *
  have HAO : Hid (Calls Tryz.prog 26 #[.slice (some ⟨g, 0, none⟩) ws.length c] W2 fun e w' => ActOfE (ws.map bL) e ∧ Below W2.heap.size W2 w') := actionOf_any _ ws W2 (HR2.out.words HWN.out) (by omega)
  go_upto_region 4 with (go_at_call 26; refine cargs (by simp) (HAO.out.mono ?_); rintro e w3 ⟨⟨k, x, n, rfl, hact⟩, hb3⟩)
  have HAC : Hid (ActOf WS k x n) := by rw [← HW.out]; exact hact
  have HR4 : Hid (RO w g S q (w3.alloc (.cells #[.int .i64 k, .int .i64 x] 25)) 0 (.slice none 0 0) 0 0 []) := (HR2.out.below hb3).alloc _
  have hab := heap_alloc_new w3 (.cells #[.int .i64 k, .int .i64 x] 25)
  have hqa : q < w3.heap.size := (HR2.out.below hb3).hqW
  clear HAO HR2 hact hb3
  generalize w3.alloc (.cells #[.int .i64 k, .int .i64 x] 25) = W4 at *
  generalize w3.heap.size = ab at *
  by_cases hn0 : n = 0
  · subst hn0
    have HN := Lib.hid (ruleNo_act HAC.out)
    obtain ⟨hf1, hf2, _⟩ := HR4.out.fin
    obtain ⟨y0, y1, y2, y3, _⟩ := rrow4 hf2
    obtain ⟨r0, r1, r2, r3, rz0, rz1, rz2, rz3⟩ := rrow4 HR4.out.res
    obtain ⟨d0, d1, d2, d3, dz0, dz1, dz2, dz3⟩ := rrow4 HR4.out.rul
    have HF := Lib.hid (HNO.out _ 0 0 0 none 0 0 hf1 HN.out)
    clear hf1 hf2 HR4 hab
    go_wp2_with fail
    try simp only [Exit.inBlock, Exit.then]
    refine bodyPost_ret (by simp [results, Tryz.results27, go_sem, y0, y1, y2, y3]; try rfl) rfl ?_
    exact HF.out
  · obtain ⟨hard, hnl, r, hr⟩ : ActRd k x ∧ n = (actW k x).length ∧ ∃ r, WS = actW k x ++ r := by
      rcases HAC.out with ⟨h1, _⟩ | h1
      · exact absurd h1 hn0
      · exact h1
    have e1 : ((n : Int) == 0) = false := by simp; omega
    have e1' : ¬ (n : Int) = 0 := by omega
    by_cases hge : ws.length ≤ n
    · have HN := Lib.hid (ruleNo_few HW.out hard hr hnl hge)
      have e2 : decide ((ws.length : Int) ≤ (n : Int)) = true := by simp; omega
      have e3 : (ws.length : Int) ≤ (n : Int) := by omega
      obtain ⟨hf1, hf2, _⟩ := HR4.out.fin
      obtain ⟨y0, y1, y2, y3, _⟩ := rrow4 hf2
      obtain ⟨r0, r1, r2, r3, rz0, rz1, rz2, rz3⟩ := rrow4 HR4.out.res
      obtain ⟨d0, d1, d2, d3, dz0, dz1, dz2, dz3⟩ := rrow4 HR4.out.rul
      have HF := Lib.hid (HNO.out _ 0 0 0 none 0 0 hf1 HN.out)
      clear hf1 hf2 HR4 hab hr hnl hn0 hge
      go_wp2_with fail
      try simp only [Exit.inBlock, Exit.then]
      refine bodyPost_ret (by simp [results, Tryz.results27, go_sem, y0, y1, y2, y3]; try rfl) rfl ?_
      exact HF.out
    · have e2 : decide ((ws.length : Int) ≤ (n : Int)) = false := by simp; omega
      have e3 : ¬ (ws.length : Int) ≤ (n : Int) := by omega
      have e4 : (n : Int) < (ws.length : Int) := by omega
      have e5 : (0 : Int) ≤ (n : Int) := by omega
      obtain ⟨y, hy⟩ : ∃ y, ws[n]? = some y := ⟨ws[n], by simp⟩
      have HI := Lib.hid (ruleI_first HW.out hard hr hnl hy)
      have HNY := Lib.hid hy
      have HR5 : Hid (RO w g S q (((W4.setCell ⟨q, 2, none⟩ (.int .i64 k)).setCell ⟨q, 3, none⟩ (.int .i64 x)).setCell ⟨q, 0, none⟩ (.int .i64 (-1))) (nameIx y 0) (.slice none 0 0) k x []) := (HR4.out.setAct k x).setNr (-1)
      obtain ⟨a0, a1, _, _⟩ := row2 hab
      obtain ⟨d0, d1, d2, d3, dz0, dz1, dz2, dz3⟩ := rrow4 HR4.out.rul
      have hne : ab ≠ q := by omega
      have m1 : (W4.setCell ⟨q, 2, none⟩ (.int .i64 k)).cell? ⟨ab, 1, none⟩ = some (.int .i64 x) := (cell_of_row _ _ _ _ _ _ ((heap_setCell_other W4 ⟨q, 2, none⟩ ab _ hne).trans hab)).trans rfl
      clear hr hnl hn0 hge hab HAC
      go_upto_region 8 with fail
      clear a0 a1 m1 d0 d1 d2 d3 dz0 dz1 dz2 dz3 HR4
      generalize ((W4.setCell ⟨q, 2, none⟩ (.int .i64 k)).setCell ⟨q, 3, none⟩ (.int .i64 x)).setCell ⟨q, 0, none⟩ (.int .i64 (-1)) = W5 at *
      have HOF : Hid (∀ n, formName n = y → nameIx y (n + 1) = n) := fun n h1 => by rw [nameIx, if_pos h1]
      have HOE : Hid (∀ n, ¬ formName n = y → nameIx y (n + 1) = nameIx y n) := fun n h1 => by rw [nameIx, if_neg h1]
      have HIX := Lib.hid (fun n (hn : n < 9) (w : World) => nameIdx n hn w)
      have HCNM := Lib.hid (fun W : World => callNames_any W)
      have HYC : Hid (∀ W nr sv cs, RO w g S q W nr sv k x cs → W.cell? ⟨g, n, none⟩ = some (.string y)) := fun W nr sv cs h => by
        obtain ⟨A0, c0, h1, _, h3⟩ := HWN.out
        simp only [Value.slice.injEq, true_and] at h1
        obtain ⟨rfl, rfl⟩ := h1
        obtain ⟨o, ho, hx⟩ := h3.resolve_left (fun e => by rw [e] at hl0; simp at hl0)
        simp only [Option.some.injEq, Addr.mk.injEq, true_and, and_true] at ho
        subst ho
        have := hx n y HNY.out
        rw [Nat.zero_add] at this
        exact (cell_of_row _ _ _ _ _ _ h.str).trans this
      have HFI := Lib.hid (fun cs (h : RuleI WS k x y cs []) => h.fin)
      obtain ⟨FN, hFN⟩ : ∃ FN : Nat → ByteArray, FN = formName := ⟨_, rfl⟩
      obtain ⟨OP, hOP⟩ : ∃ OP : Nat → Int, OP = nameIx y := ⟨_, rfl⟩
      rw [← hFN] at HIX HOF HOE
      rw [← hOP] at HOF HOE HFI HR5
      clear hFN hOP
      go_wp2_with fail
      go_loopw [8] (fun iv wr => ∃ i : Nat, i ≤ 9 ∧ iv = .int .i64 i ∧ Hid (RO w g S q wr (OP i) (.slice none 0 0) k x [])) (fun iv _ => 9 - (intOf iv).toNat)
      case atStart => exact ⟨0, by omega, rfl, HR5⟩
      case round =>
        clear HR5
        obtain ⟨i, hi, rfl, HR6⟩ := hrel
        by_cases hi9 : i < 9
        · have z1 : (i : Int) < 9 := by omega
          have z2 : (0 : Int) ≤ (i : Int) := by omega
          have hix := fun w : World => HIX.out i (by omega) w
          have HOF1 := Lib.hid (HOF.out i)
          have HOE1 := Lib.hid (HOE.out i)
          clear HIX HOF HOE HFI
          generalize FN i = Y at *
          have kc := HYC.out _ _ _ _ HR6.out
          have r0 := cell_regrown kc
          have HBQ : Hid (∀ (d : Nat) (os : Array Obj), Below wr.heap.size wr (Go.Sort.grow (redrawn wr d) os)) := fun d os => below_regrown wr d os
          have cNM := fun d os => Calls.regrown_of (HCNM.out (Go.Sort.grow (redrawn wr d) os))
          by_cases hY : Y = y
          · subst hY
            have z3 : (Y.toList == Y.toList) = true := by simp
            go_upto_region 11 with fail
            refine wp_region_quiet_below (by kernel_rfl) (by kernel_rfl) ?_
            repeat (go_big_quiet_step (first | (go_at_call 40; exact cNM _ _) | fail))
            refine wpQuiet_nil ?_
            intro _ hw'
            obtain ⟨pq, hw''⟩ := hw'
            subst hw''
            have HR7 := Lib.hid (HR6.out.below (HBQ.out pq.d pq.os))
            clear HR6 HBQ cNM r0 kc HCNM
            generalize Go.Sort.grow (redrawn wr pq.d) pq.os = W7 at *
            obtain ⟨d0, d1, d2, d3, dz0, dz1, dz2, dz3⟩ := rrow4 HR7.out.rul
            have HR8 : Hid (RO w g S q (W7.setCell ⟨q, 0, none⟩ (.int .i64 (i : Int))) (OP (i + 1)) (.slice none 0 0) k x []) := by rw [HOF1.out rfl]; exact HR7.out.setNr i
            clear HR7
            go_wp2_with fail
            go_roundw
            case rel => exact ⟨i + 1, by omega, by go_num, HR8⟩
            case measure => simp [intOf]; omega
          · have z3 : (Y.toList == y.toList) = false := beq_eq_false_iff_ne.2 (fun e => hY (by rw [tl_eq, tl_eq] at e; exact ba_ext e))
            have HE1 : Hid (OP (i + 1) = OP i) := HOE1.out hY
            clear hY
            go_upto_region 11 with fail
            refine wp_region_quiet_below (by kernel_rfl) (by kernel_rfl) ?_
            repeat (go_big_quiet_step (first | (go_at_call 40; exact cNM _ _) | fail))
            refine wpQuiet_nil ?_
            intro _ hw'
            obtain ⟨pq, hw''⟩ := hw'
            subst hw''
            have HR7 := Lib.hid (HR6.out.below (HBQ.out pq.d pq.os))
            clear HR6 HBQ cNM r0 kc HCNM
            generalize Go.Sort.grow (redrawn wr pq.d) pq.os = W7 at *
            have HR8 : Hid (RO w g S q W7 (OP (i + 1)) (.slice none 0 0) k x []) := by rw [HE1.out]; exact HR7.out
            clear HR7
            go_wp2_with fail
            go_roundw
            case rel => exact ⟨i + 1, by omega, by go_num, HR8⟩
            case measure => simp [intOf]; omega
        · obtain rfl : i = 9 := by omega
          have HO9 := Lib.hid HFI.out
          clear HIX HOF HOE HFI HCNM HYC
          generalize OP 9 = NR at *
          go_upto_region 13 with fail
          have e6 : (n : Int) + 1 ≤ (ws.length : Int) := by omega
          have e7 : (0 : Int) ≤ (n : Int) + 1 := by omega
          have e8 : wrap64 ((n : Int) + 1) = (n : Int) + 1 := IntWalk.wrap64_in _ (by omega)
          have e9 : ((n : Int) + 1).toNat = n + 1 := by omega
          go_cut [4] (fun v wx => WIn S g v (ws.drop (n + 1)) ∧ wx = wr)
          case first =>
            by_cases hcm : c = n + 1
            · subst hcm
              have HWD : Hid (WIn S g (.slice (some ⟨g, 0, none⟩) 0 0) (ws.drop (n + 1))) := by
                have h := HWN.out.drop (n + 1) (some ⟨g, 0, none⟩) (fun h => absurd rfl h)
                have e : ws.length - (n + 1) = 0 := by omega
                rw [e, Nat.sub_self] at h
                exact h
              go_wp2_with fail
              go_meet
              exact ⟨HWD.out, rfl⟩
            · have HWD : Hid (WIn S g (.slice (some ⟨g, n + 1, none⟩) (ws.length - (n + 1)) (c - (n + 1))) (ws.drop (n + 1))) := HWN.out.drop (n + 1) _ (fun _ => by simp)
              go_wp2_with fail
              go_meet
              exact ⟨HWD.out, rfl⟩
          case rest =>
            obtain ⟨hwv, rfl⟩ := hcut
            have HV0 := Lib.hid hwv
            have HZ0 : Hid (∀ u ∈ ws.drop (n + 1), u.size ≤ 1000000) := fun u hu => HWZ.out u (List.mem_of_mem_drop hu)
            have HL0 : Hid (([] : List CondD).length + (ws.drop (n + 1)).length ≤ 100001) := by show _ ≤ _; simp; omega
            clear hwv e6 e7 e8 e9 e1 e1' e2 e3 e4 e5 HWZ HWN HNY hcw
            go_wp2_with fail
            go_loopw [4] (fun v wr => ∃ (ws' : List ByteArray) (sv : Value) (cs : List CondD), Hid (WIn S g v ws') ∧ Hid (RO w g S q wr NR sv k x cs) ∧ Hid (RuleI WS k x y cs ws') ∧ Hid (∀ u ∈ ws', u.size ≤ 1000000) ∧ Hid (cs.length + ws'.length ≤ 100001)) (fun v _ => sliceLen v)
            case atStart => exact ⟨_, _, [], HV0, HR6, HI, HZ0, HL0⟩
            case round =>
              clear HV0 HR6 HI HZ0 HL0
              obtain ⟨ws', sv, cs, HV, HR, HI2, HZ2, HL2⟩ := hrel
              have hv := HV.out
              obtain ⟨A', c', rfl, hcc, hA⟩ := hv
              obtain ⟨A9, c9, rfl⟩ := own_form2 HR.out.own
              cases hbd : ws' with
              | nil =>
                subst hbd
                have z1 : ¬ (0 : Int) < (0 : Int) := by omega
                have HRD := Lib.hid HR.out.drew
                have HF1 := Lib.hid HRD.out.finR
                have HF2 := Lib.hid HR.out.finR.drew
                obtain ⟨r0, r1, r2, r3, rz0, rz1, rz2, rz3⟩ := rrow4 HRD.out.res
                obtain ⟨d0, d1, d2, d3, dz0, dz1, dz2, dz3⟩ := rrow4 HR.out.rul
                obtain ⟨e0, e1, e2, e3, ez0, ez1, ez2, ez3⟩ := rrow4 HRD.out.rul
                obtain ⟨s0, s1, s2, s3, sz0, sz1, sz2, sz3⟩ := rrow4 HR.out.res
                have t0 := HR.out.finq (.int .i64 NR)
                have t1 := HRD.out.finq (.int .i64 NR)
                have HFO := Lib.hid (condsFrom_of HR.out.own)
                have HOO := Lib.hid (HO9.out cs HI2.out)
                clear hA HR HRD HI2 HL2 HZ2 HO9
                go_upto_region 22 with fail
                go_cut [3] (fun b wx => b = .bool (decide (0 ≤ NR)) ∧ Hid (FinR w wx NR (.slice A9 cs.length c9) k x cs))
                case first =>
                  go_region_law (fail)
                  all_goals
                    go_wp2_with fail
                    go_meet
                    exact ⟨rfl, by first | exact HF1 | exact HF2⟩
                case rest =>
                  obtain ⟨rfl, HFN⟩ := hcut
                  clear r0 r1 r2 r3 rz0 rz1 rz2 rz3 d0 d1 d2 d3 dz0 dz1 dz2 dz3 e0 e1 e2 e3 ez0 ez1 ez2 ez3 s0 s1 s2 s3 sz0 sz1 sz2 sz3 t0 t1 HF1 HF2
                  obtain ⟨y0, y1, y2, y3, _⟩ := rrow4 HFN.out.2.1
                  by_cases h0 : 0 ≤ NR
                  · have hd0 : decide (0 ≤ NR) = true := by simp; exact h0
                    rw [hd0]
                    have HF := Lib.hid (show RuleOfA WS w (.returned (.tuple #[.agg #[.int .i64 NR, .slice A9 cs.length c9, .int .i64 k, .int .i64 x], .bool true])) _ from ⟨HFN.out.1, NR, k, x, A9, cs.length, c9, true, rfl, fun _ => ⟨cs, rfl, HFN.out.2.2, HFO.out, (HOO.out.1 h0).1, (HOO.out.1 h0).2⟩, fun h => (by cases h)⟩)
                    refine ‹∀ (a : Act) (w' : World), Code.wp _ Code.ret _ a w' → _› _ _ ?_
                    refine wp_ret ?_
                    refine bodyPost_ret (by simp [results, Tryz.results27, go_sem, y0, y1, y2, y3]; try rfl) rfl ?_
                    exact HF.out
                  · have hd0 : decide (0 ≤ NR) = false := by simp; omega
                    rw [hd0]
                    have HF := Lib.hid (HNO.out _ NR k x A9 cs.length c9 HFN.out.1 (HOO.out.2 (by omega)))
                    refine ‹∀ (a : Act) (w' : World), Code.wp _ Code.ret _ a w' → _› _ _ ?_
                    refine wp_ret ?_
                    refine bodyPost_ret (by simp [results, Tryz.results27, go_sem, y0, y1, y2, y3]; try rfl) rfl ?_
                    exact HF.out
              | cons y' t =>
                subst hbd
                have z1 : (0 : Int) < ((y' :: t).length : Int) := by simp only [List.length_cons]; omega
                obtain ⟨o', rfl, hwx⟩ := hA.resolve_left (by simp)
                have q0 : wr.cell? ⟨g, o', none⟩ = some (.string y') := (cell_of_row _ _ _ _ _ _ HR.out.str).trans (hwx 0 y' rfl)
                obtain ⟨d0, d1, d2, d3, dz0, dz1, dz2, dz3⟩ := rrow4 HR.out.rul
                clear hwx hA
                go_upto_region 15 with fail
                go_cut [71] (fun b wx => ∃ bb : Bool, b = .bool bb ∧ Hid (IsNo bb (bL y' = wordK cs.length)) ∧ Hid (∃ m, wx = wr.drewN m))
                case first =>
                  by_cases hc0 : cs.length = 0
                  · have u1 : ((cs.length : Int) == 0) = true := by rw [hc0]; rfl
                    have HWK : Hid (wordK cs.length = [105, 102]) := by show _ = _; rw [hc0]; rfl
                    clear hc0
                    by_cases hIf : y' = ⟨#[105, 102]⟩
                    · subst hIf
                      have HG : Hid (IsNo false (bL (⟨#[105, 102]⟩ : ByteArray) = wordK cs.length)) := by unfold IsNo; show _ ↔ _; rw [HWK.out]; simp [bL]
                      go_quiet (fail)
                      go_wp2_with fail
                      go_meet
                      exact ⟨false, rfl, HG, ⟨nq, rfl⟩⟩
                    · have t1 : (y'.toList == [105, 102]) = false := tl_ne hIf
                      have HG : Hid (IsNo true (bL y' = wordK cs.length)) := by
                        show _ ↔ _
                        rw [HWK.out]
                        exact ⟨fun h => (by cases h), fun h => absurd (bL_inj h) hIf⟩
                      clear hIf
                      by_cases hAn : y' = ⟨#[97, 110, 100]⟩
                      · subst hAn
                        go_quiet (fail)
                        go_wp2_with fail
                        go_meet
                        exact ⟨true, rfl, HG, ⟨nq, rfl⟩⟩
                      · have t2 : (y'.toList == [97, 110, 100]) = false := tl_ne hAn
                        clear hAn
                        go_quiet (fail)
                        go_wp2_with fail
                        go_meet
                        exact ⟨true, rfl, HG, ⟨nq, rfl⟩⟩
                  · have u1 : ((cs.length : Int) == 0) = false := beq_eq_false_iff_ne.2 (by omega)
                    have HWK : Hid (wordK cs.length = [97, 110, 100]) := by show _ = _; unfold wordK; rw [if_neg hc0]; rfl
                    clear hc0
                    by_cases hIf : y' = ⟨#[105, 102]⟩
                    · subst hIf
                      have HG : Hid (IsNo true (bL (⟨#[105, 102]⟩ : ByteArray) = wordK cs.length)) := by unfold IsNo; show _ ↔ _; rw [HWK.out]; simp [bL]
                      go_quiet (fail)
                      go_wp2_with fail
                      go_meet
                      exact ⟨true, rfl, HG, ⟨nq, rfl⟩⟩
                    · have t1 : (y'.toList == [105, 102]) = false := tl_ne hIf
                      clear hIf
                      by_cases hAn : y' = ⟨#[97, 110, 100]⟩
                      · subst hAn
                        have HG : Hid (IsNo false (bL (⟨#[97, 110, 100]⟩ : ByteArray) = wordK cs.length)) := by unfold IsNo; show _ ↔ _; rw [HWK.out]; simp [bL]
                        go_quiet (fail)
                        go_wp2_with fail
                        go_meet
                        exact ⟨false, rfl, HG, ⟨nq, rfl⟩⟩
                      · have t2 : (y'.toList == [97, 110, 100]) = false := tl_ne hAn
                        have HG : Hid (IsNo true (bL y' = wordK cs.length)) := by
                          show _ ↔ _
                          rw [HWK.out]
                          exact ⟨fun h => (by cases h), fun h => absurd (bL_inj h) hAn⟩
                        clear hAn
                        go_quiet (fail)
                        go_wp2_with fail
                        go_meet
                        exact ⟨true, rfl, HG, ⟨nq, rfl⟩⟩
                case rest =>
                  obtain ⟨bb, rfl, HG, HM⟩ := hcut
                  obtain ⟨mm, hmm⟩ := HM.out
                  have HRX : Hid (RO w g S q wc NR (.slice A9 cs.length c9) k x cs) := by rw [hmm]; exact HR.out.below (below_drewN wr mm)
                  clear HM hmm d0 d1 d2 d3 dz0 dz1 dz2 dz3 q0 HR
                  cases bb with
                  | true =>
                    have HN : Hid (RuleNo WS) := HI2.out.no_word (fun h => by have := HG.out.2 h; cases this)
                    have HR9 := Lib.hid HRX.out
                    obtain ⟨hf1, hf2, _⟩ := HRX.out.fin
                    obtain ⟨y0, y1, y2, y3, _⟩ := rrow4 hf2
                    obtain ⟨r0, r1, r2, r3, rz0, rz1, rz2, rz3⟩ := rrow4 HRX.out.res
                    obtain ⟨d0, d1, d2, d3, dz0, dz1, dz2, dz3⟩ := rrow4 HRX.out.rul
                    have HF := Lib.hid (HNO.out _ NR k x A9 cs.length c9 hf1 HN.out)
                    clear hf1 hf2
                    go_wp2_with fail
                    try simp only [Exit.inBlock, Exit.then]
                    refine bodyPost_ret (by simp [results, Tryz.results27, go_sem, y0, y1, y2, y3]; try rfl) rfl ?_
                    exact HF.out
                  | false =>
                    have HGW : Hid (bL y' = wordK cs.length) := HG.out.1 rfl
                    have htl : t.length ≤ 1000000 := by have := HL2.out; simp only [List.length_cons] at this; omega
                    have hcl : cs.length ≤ 1000000 := by have := HL2.out; omega
                    have HCO : Hid (∀ W v, StrsSl W W.heap.size v t → Calls Tryz.prog 49 #[v] W fun e w' => ∃ (cc : CondD) (m : Nat), e = .returned (.tuple #[.agg #[.int .i64 cc.arg, .int .i64 cc.op, .int .u64 cc.v, .int .u64 cc.m, .string cc.glob, .int .u32 cc.net.ip, .int .i64 cc.net.bits, .int .i64 cc.net.lo, .int .i64 cc.net.hi], .int .i64 (m : Int)]) ∧ Hid (cc.ok ∧ CondOf t cc m) ∧ Below W.heap.size W w') := fun W v hv =>
                      (condOf_any v t W hv htl (fun u hu => HZ2.out u (by simp [hu]))).mono fun e w' ⟨⟨cc, m, h1, h2, _, h4⟩, h5⟩ => ⟨cc, m, h1, ⟨h2, h4⟩, h5⟩
                    clear HG
                    go_upto_region 17 with fail
                    simp only [List.length_cons] at hcc z1
                    go_cut [9, 10] (fun pv nv W => ∃ (cc : CondD) (m b9 : Nat), pv = .pointer (some ⟨b9, 0, none⟩) ∧ nv = .int .i64 (m : Int) ∧ Hid (RO w g S q W NR (.slice A9 cs.length c9) k x cs) ∧ Hid (W.heap[b9]? = some (.cells #[.int .i64 cc.arg, .int .i64 cc.op, .int .u64 cc.v, .int .u64 cc.m, .string cc.glob, .int .u32 cc.net.ip, .int .i64 cc.net.bits, .int .i64 cc.net.lo, .int .i64 cc.net.hi] 84 (0, 0))) ∧ Hid (cc.ok ∧ CondOf t cc m))
                    case first =>
                      have HWT : Hid (∀ A, (c' ≠ 1 → A = some ⟨g, o' + 1, none⟩) → WIn S g (.slice A t.length (c' - 1)) t) := fun A hA => HV.out.drop 1 A hA
                      by_cases hc1 : c' = 1
                      · subst hc1
                        obtain rfl : t = [] := List.eq_nil_of_length_eq_zero (by omega)
                        have HCX := Lib.hid (HCO.out wc (.slice (some ⟨g, o', none⟩) 0 0) (HRX.out.words (HWT.out _ (fun h => absurd rfl h))))
                        clear HCO HWT
                        go_wp2_with (go_at_call 49; refine cargs (by simp) (HCX.out.mono ?_); rintro e w5 ⟨cc, m, rfl, hco, hb5⟩)
                        go_meet
                        exact ⟨cc, m, w5.heap.size, rfl, rfl, (HRX.out.below hb5).alloc _, heap_alloc_new _ _, hco⟩
                      · have HCX := Lib.hid (HCO.out wc (.slice (some ⟨g, o' + 1, none⟩) t.length (c' - 1)) (HRX.out.words (HWT.out _ (fun _ => rfl))))
                        clear HCO HWT
                        go_wp2_with (go_at_call 49; refine cargs (by simp) (HCX.out.mono ?_); rintro e w5 ⟨cc, m, rfl, hco, hb5⟩)
                        go_meet
                        exact ⟨cc, m, w5.heap.size, rfl, rfl, (HRX.out.below hb5).alloc _, heap_alloc_new _ _, hco⟩
                    case rest =>
                      obtain ⟨cc, m, b9, rfl, rfl, HRX2, HB9, HCC⟩ := hcut
                      clear HRX HCO
                      by_cases hm0 : m = 0
                      · subst hm0
                        have HN : Hid (RuleNo WS) := HI2.out.no_cond (fun c0 r hc0 => by
                          rcases HCC.out.2 with ⟨_, _, h⟩ | ⟨_, h, _⟩
                          · exact h c0 r hc0
                          · have := condW_ne cc
                            rw [List.ne_nil_iff_length_pos] at this
                            omega)
                        obtain ⟨hf1, hf2, _⟩ := HRX2.out.fin
                        obtain ⟨y0, y1, y2, y3, _⟩ := rrow4 hf2
                        obtain ⟨r0, r1, r2, r3, rz0, rz1, rz2, rz3⟩ := rrow4 HRX2.out.res
                        obtain ⟨d0, d1, d2, d3, dz0, dz1, dz2, dz3⟩ := rrow4 HRX2.out.rul
                        have HF := Lib.hid (HNO.out _ NR k x A9 cs.length c9 hf1 HN.out)
                        clear hf1 hf2
                        go_wp2_with fail
                        try simp only [Exit.inBlock, Exit.then]
                        refine bodyPost_ret (by simp [results, Tryz.results27, go_sem, y0, y1, y2, y3]; try rfl) rfl ?_
                        exact HF.out
                      · obtain ⟨hcr, hml, r, hr⟩ : CondRd cc ∧ m = (condW cc).length ∧ ∃ r, t.map bL = condW cc ++ r := by
                          rcases HCC.out.2 with ⟨h, _⟩ | h
                          · exact absurd h hm0
                          · exact h
                        have HIN := Lib.hid (HI2.out.next HGW.out hcr hml hr)
                        have hmt : m ≤ t.length := by
                          have := congrArg List.length hr
                          rw [List.length_map, List.length_append] at this
                          omega
                        have hok := HCC.out.1
                        have u1 : ((m : Int) == 0) = false := beq_eq_false_iff_ne.2 (by omega)
                        have u2 : ¬ (m : Int) = 0 := by omega
                        obtain ⟨d0, d1, d2, d3, dz0, dz1, dz2, dz3⟩ := rrow4 HRX2.out.rul
                        obtain ⟨x0, x1, x2, x3, x4, x5, x6, x7, x8, xz0, xz1, xz2, xz3, xz4, xz5, xz6, xz7, xz8⟩ := row9 HB9.out
                        clear hr hml hcr HCC hm0
                        go_upto_region 21 with (at_builtin; refine list_append_cond rfl _ _ rfl w.heap.size _ (.slice A9 cs.length c9) cs cc rfl rfl (HRX2.out.own.alloc _) (heap_alloc_new _ _) hcl (by have := HRX2.out.bel.size; simp; omega) ?_; intro g9 cap9 w9 ho9 hg9; have HR9 := Lib.hid (HRX2.out.append hok ho9 hg9); obtain ⟨n0, n1, n2, n3, nz0, nz1, nz2, nz3⟩ := rrow4 ((HRX2.out.kept hg9).1 q _ HRX2.out.rul (by simp)); clear ho9 hg9)
                        have HZ9 : Hid (∀ u ∈ t.drop m, u.size ≤ 1000000) := fun u hu => HZ2.out u (by simp [List.mem_of_mem_drop hu])
                        have HL9 : Hid ((cs ++ [cc]).length + (t.drop m).length ≤ 100001) := by
                          show _ ≤ _
                          have := HL2.out
                          simp only [List.length_cons] at this
                          simp only [List.length_append, List.length_cons, List.length_nil, List.length_drop]
                          omega
                        clear d0 d1 d2 d3 dz0 dz1 dz2 dz3 x0 x1 x2 x3 x4 x5 x6 x7 x8 xz0 xz1 xz2 xz3 xz4 xz5 xz6 xz7 xz8 n0 n1 n2 n3 nz0 nz1 nz2 nz3 HRX2 HB9 HI2 HZ2 HL2
                        generalize w9.setCell ⟨q, 1, none⟩ (.slice (some ⟨g9, 0, none⟩) (cs.length + 1) cap9) = W9 at *
                        have e1 : wrap64 (1 + (m : Int)) = 1 + (m : Int) := IntWalk.wrap64_in _ (by omega)
                        have e2 : (1 + (m : Int)).toNat = m + 1 := by omega
                        have e3 : (0 : Int) ≤ 1 + (m : Int) := by omega
                        have e4 : 1 + (m : Int) ≤ (((y' :: t).length : Nat) : Int) := by simp only [List.length_cons]; omega
                        have e5 : 1 + (m : Int) ≤ (t.length : Int) + 1 := by omega
                        by_cases hcm : c' = m + 1
                        · subst hcm
                          have HWD : Hid (WIn S g (.slice (some ⟨g, o', none⟩) 0 0) (t.drop m)) := by
                            have h := HV.out.drop (m + 1) (some ⟨g, o', none⟩) (fun h => absurd rfl h)
                            have e : (y' :: t).length - (m + 1) = 0 := by simp only [List.length_cons]; omega
                            rw [e, Nat.sub_self] at h
                            exact h
                          go_wp2_with fail
                          go_roundw
                          case rel =>
                            (repeat apply Exists.intro)
                            refine (and_comm).mp ⟨rfl, ?_⟩
                            exact ⟨t.drop m, _, cs ++ [cc], HWD, HR9, HIN, HZ9, HL9⟩
                          case measure => first | (simp [sliceLen]; done) | (simp [sliceLen]; omega)
                        · have HWD : Hid (WIn S g (.slice (some ⟨g, o' + (m + 1), none⟩) (t.length - m) (c' - (m + 1))) (t.drop m)) := by
                            have h := HV.out.drop (m + 1) (some ⟨g, o' + (m + 1), none⟩) (fun _ => rfl)
                            have e : (y' :: t).length - (m + 1) = t.length - m := by simp only [List.length_cons]; omega
                            rw [e] at h
                            exact h
                          go_wp2_with fail
                          go_roundw
                          case rel =>
                            (repeat apply Exists.intro)
                            refine (and_comm).mp ⟨rfl, ?_⟩
                            exact ⟨t.drop m, _, cs ++ [cc], HWD, HR9, HIN, HZ9, HL9⟩
                          case measure => first | (simp [sliceLen]; done) | (simp [sliceLen]; omega)
end Go.Proofs.YtmgngapkgcofnaaGreatDoor
