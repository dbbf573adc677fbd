/- Enter: the walk. -/
import Derived.Test.YtmgngapkgcofnabGreatDoorP32
namespace Go.Proofs.YtmgngapkgcofnabGreatDoor
open Go.RowKit Go.PlainAid
theorem there_below {w w' : World} {b o n : Nat} (h : w.there b o n) (hb : Below w.heap.size w w') : w'.there b o n := fun j hj => by
 obtain ⟨h1, h2⟩ := h j hj
 have hlt : b < w.heap.size := by
  rcases Nat.lt_or_ge b w.heap.size with hl | hl
  ·exact hl
  ·simp [World.cell?, Array.getElem?_eq_none hl] at h1
 exact ⟨by rw [hb.cell (p := ⟨b, o + j, none⟩) hlt]; exact h1, by rw [World.frozen?_of_block (a := ⟨b, o + j, none⟩) (hb.block b hlt)]; exact h2⟩
theorem step_store_mid {P : Program} {w : World} {ops : Array Oper} {o : Oper} {a : Act} {K : Act → World → Prop} {Q : Exit → Act → World → Prop} {E : Prop} (hgd : o.guard = none) (ty : TypeId) (x y : Operand) (ho : o.op = .store ty x y)
  (b k : Nat) (cells : Array Value) (hx : a.eval x = .pointer (some ⟨b, k, none⟩)) (hy : a.eval y = .agg cells) (ht : w.there b k cells.size) (hi : (P.info? ty).map (·.size) = some cells.size) (h1 : cells.all (·.oneCell') = true)
  (h : K (a.put o.dst undef) (w.setCells b k cells.toList)) : if Region.wanted o (yielded ops a.tmps) = true then Oper.wp P o a w K Q else E := by
 have hw : Region.wanted o (yielded ops a.tmps) = true := by simp [Region.wanted, hgd]
 rw [if_pos hw]; exact wp_store_mid ty x y ho b k cells hx hy ht hi h1 h
theorem zeroVals_ok : zeroVals.ok := by
 have h : zeroVal.ok := ⟨by simp [zeroVal, ByteArray.size], by simp [zeroVal], by simp [zeroVal]⟩
 exact ⟨h, h, h, h⟩
theorem zeroCall_ok : zeroCall.ok := by
 refine ⟨⟨?_, ?_⟩, ⟨?_, ?_⟩, ⟨?_, ?_⟩, ⟨?_, ?_⟩, ⟨?_, ?_⟩, ⟨?_, ?_⟩⟩ <;> simp [zeroCall]
theorem enter_ok {c : CallD} (hc : c.ok) : (⟨1, c, c, 0, [], zeroVals, []⟩ : ThrS).ok where
 asked := hc
 now := hc
 arg := by simp
 buf := by simp
 byt := fun b hb => by cases hb
 seals := by simp
 sealed := fun a ha => by cases ha
 vals := zeroVals_ok
set_option linter.unusedSimpArgs false in
set_option maxRecDepth 100000 in
set_option maxHeartbeats 4000000 in
theorem wardEnter_any (H : Nat) (B : Nat → Prop) (g : Nat) (p : PolD) (S : WardS) (n : Int) (c : CallD) (w : World) (h : WardAt w H B g p S) (hc : c.ok) :
  Calls Tryz.prog 18 #[.pointer (some ⟨g, 0, none⟩), .int .i64 n, c.v] w fun e w' => e = .returned (errV (enterE S n)) ∧ WardAt w' H B g p (enterS S n c) ∧ Frame B w w' := by
 by_cases h1 : n < 0 ∨ 3 ≤ n
 ·have HP : Hid (errV (enterE S n) = .iface 105 (.int .i64 1)) := by show _ = _; unfold enterE; rw [if_pos h1]; rfl
  have HS : Hid (enterS S n c = S) := by show _ = _; unfold enterS; rw [if_neg]; unfold enterE; rw [if_pos h1]; omega
  obtain ⟨arch, nr, a0, a1, a2, a3⟩ := c; unfold CallD.v; simp only; have HB : Hid (∀ o, Below w.heap.size w (w.alloc o)) := fun o => (Below.refl _ _).alloc (Nat.le_refl _) o; have HH := Lib.hid h; clear h hc
  by_cases h2 : n < 0
  ·clear h1; go_enter Tryz.func18, Tryz.ntmps18
   go_wp2_with fail; go_ret; exact ⟨by rw [HP.out]; rfl, by rw [HS.out]; exact HH.out.below (HB.out _), Frame.of_below (HB.out _)⟩
  ·have h3 : 3 ≤ n := by omega
   clear h1; go_enter Tryz.func18, Tryz.ntmps18
   go_wp2_with fail; go_ret; exact ⟨by rw [HP.out]; rfl, by rw [HS.out]; exact HH.out.below (HB.out _), Frame.of_below (HB.out _)⟩
 ·obtain ⟨k, rfl⟩ : ∃ k : Nat, n = k := ⟨n.toNat, by omega⟩
  have hk : k < 3 := by omega
  obtain ⟨A, cp, Ap, cpp, m, lv, bv, sv, R⟩ := h.rep; have hgl := R.lt; have c0 := R.thr hk (j := 0) rfl; have y1 : ¬ (k : Int) < 0 := by omega
  have y2 : ¬ (3 : Int) ≤ (k : Int) := by omega
  have y3 : (0 : Int) ≤ (k : Int) := by omega
  have y4 : (k : Int) < 3 := by omega
  simp only [Nat.add_zero] at c0; have HH := Lib.hid h; obtain ⟨arch, nr, a0, a1, a2, a3⟩ := c; have HB : Hid (∀ o, Below w.heap.size w (w.alloc o)) := fun o => (Below.refl _ _).alloc (Nat.le_refl _) o
  have HCL : Hid (Below (w.alloc (.cells #[.int .u32 arch, .int .u32 nr, .int .u64 a0, .int .u64 a1, .int .u64 a2, .int .u64 a3] 52)).heap.size (w.alloc (.cells #[.int .u32 arch, .int .u32 nr, .int .u64 a0, .int .u64 a1, .int .u64 a2, .int .u64 a3] 52)) (w.alloc (.cells #[.int .u32 arch, .int .u32 nr, .int .u64 a0, .int .u64 a1, .int .u64 a2, .int .u64 a3] 52))) := Below.refl _ _
  by_cases p0 : (S.t k).phase = 0
  ·have HE : Hid (errV (enterE S k) = .nilIface) := by show _ = _; unfold enterE; rw [if_neg h1]; simp only [Int.toNat_natCast]; rw [if_pos p0]; rfl
   have HS : Hid (enterS S k ⟨arch, nr, a0, a1, a2, a3⟩ = S.setT k ⟨1, ⟨arch, nr, a0, a1, a2, a3⟩, ⟨arch, nr, a0, a1, a2, a3⟩, 0, [], zeroVals, []⟩) := by
    show _ = _; unfold enterS enterE; rw [if_neg h1]; simp only [Int.toNat_natCast]; rw [if_pos p0, if_pos rfl]
   have HT : Hid (∀ W : World, Below w.heap.size w W → WardAt (W.setCells g (5 + k * 28) (thrCells ⟨1, ⟨arch, nr, a0, a1, a2, a3⟩, ⟨arch, nr, a0, a1, a2, a3⟩, 0, [], zeroVals, []⟩ (.slice none 0 0) (.slice none 0 0))) H B g p (S.setT k ⟨1, ⟨arch, nr, a0, a1, a2, a3⟩, ⟨arch, nr, a0, a1, a2, a3⟩, 0, [], zeroVals, []⟩) ∧ Frame B w (W.setCells g (5 + k * 28) (thrCells ⟨1, ⟨arch, nr, a0, a1, a2, a3⟩, ⟨arch, nr, a0, a1, a2, a3⟩, 0, [], zeroVals, []⟩ (.slice none 0 0) (.slice none 0 0)))) := fun W hb =>
    ⟨(h.below hb).setAll hk rfl rfl (enter_ok hc), (Frame.of_below hb).trans (Frame.sets W h.base _ _)⟩
   rw [p0] at c0; have hth := R.there hk; have f0 := fun i => R.frozen i; clear R h h1 p0 hc; unfold CallD.v; simp only; obtain ⟨u0, u1, u2, u3, u4, u5⟩ := crow6 (heap_alloc_new w (.cells #[.int .u32 arch, .int .u32 nr, .int .u64 a0, .int .u64 a1, .int .u64 a2, .int .u64 a3] 52)); go_enter Tryz.func18, Tryz.ntmps18; go_upto_region 5 with fail
   have hW1 := (HB.out (.cells #[.int .u32 arch, .int .u32 nr, .int .u64 a0, .int .u64 a1, .int .u64 a2, .int .u64 a3] 52)).drew; have hth1 := there_below hth hW1; have HTW := Lib.hid (HT.out _ hW1); clear HT hth HCL HB hW1; generalize (w.alloc (.cells #[.int .u32 arch, .int .u32 nr, .int .u64 a0, .int .u64 a1, .int .u64 a2, .int .u64 a3] 52)) = W1 at *
   refine wp_region_any (by kernel_rfl) ?_
   try (change wpAny _ _ _ _ _ _ _ (World.drew _))
   refine wpAny_take (i := 0) (v := ?_) rfl (by kernel_rfl) (by kernel_rfl) (by kernel_rfl) (fun _ _ _ h => h) (Or.inl ⟨by rfl, ?_⟩) ?_
   rotate_left
   ·intro w; go_simp; try with_reducible rfl
   refine wpAny_take (i := 1) (v := ?_) rfl (by kernel_rfl) (by kernel_rfl) (by kernel_rfl) (fun _ _ _ h => h) (Or.inl ⟨by rfl, ?_⟩) ?_
   rotate_left
   ·intro w; go_simp; try with_reducible rfl
   refine wpAny_take (i := 5) (v := ?_) rfl (by kernel_rfl) (by kernel_rfl) (by kernel_rfl) (fun _ _ _ h => h) (Or.inl ⟨by rfl, ?_⟩) ?_
   rotate_left
   ·intro w; go_simp; try with_reducible rfl
   refine wpAny_take (i := 6) (v := ?_) rfl (by kernel_rfl) (by kernel_rfl) (by kernel_rfl) (fun _ _ _ h => h) (Or.inl ⟨by rfl, ?_⟩) ?_
   rotate_left
   ·intro w; go_simp; try with_reducible rfl
   refine wpAny_ready (rs := [2, 3]) (by kernel_rfl) (by simp) ?_; refine AllReady.cons rfl (fun K hK => ?_) ?_
   ·go_simp
    refine hK _ _ ?_; clear hK K; refine wpAny_ready (rs := [3]) (by kernel_rfl) (by simp) ?_; refine AllReady.cons rfl (fun K hK => ?_) ?_
    rotate_left
    ·exact AllReady.nil
    go_simp
    refine hK _ _ ?_; clear hK K; refine wpAny_take (i := 4) (v := ?_) rfl (by kernel_rfl) (by kernel_rfl) (by kernel_rfl) (fun _ _ _ h => h) (Or.inl ⟨by rfl, ?_⟩) ?_
    rotate_left
    ·intro w; go_simp; try with_reducible rfl
    refine wpAny_take (i := 7) (v := ?_) rfl (by kernel_rfl) (by kernel_rfl) (by kernel_rfl) (fun _ _ _ h => h) (Or.inl ⟨by rfl, ?_⟩) ?_
    rotate_left
    ·intro w; go_simp; try with_reducible rfl
    refine wpAny_ready (rs := [8]) (by kernel_rfl) (by simp) ?_; refine AllReady.cons rfl (fun K hK => ?_) ?_
    rotate_left
    ·exact AllReady.nil
    refine step_store_mid rfl 99 (.tmp 30) (.tmp 27) rfl g (5 + k * 28) (thrCells ⟨1, ⟨arch, nr, a0, a1, a2, a3⟩, ⟨arch, nr, a0, a1, a2, a3⟩, 0, [], zeroVals, []⟩ (.slice none 0 0) (.slice none 0 0)).toArray (by first | rfl | (go_simp; done) | simp [Act.eval]) (by first | rfl | (simp only [thrCells, zeroVals, zeroVal]; go_simp; done)) (by exact hth1) (by kernel_rfl) (by simp [thrCells, Value.oneCell', zeroVals, zeroVal]) ?_
    refine hK _ _ ?_; clear hK K; refine wpAny_done (by kernel_rfl) ?_ _
    go_wp2_with fail; go_ret; exact ⟨by rw [HE.out]; rfl, by rw [HS.out]; exact HTW.out.1, HTW.out.2⟩
   refine AllReady.cons rfl (fun K hK => ?_) ?_
   ·go_simp
    refine hK _ _ ?_; clear hK K; refine wpAny_ready (rs := [2]) (by kernel_rfl) (by simp) ?_; refine AllReady.cons rfl (fun K hK => ?_) ?_
    rotate_left
    ·exact AllReady.nil
    go_simp
    refine hK _ _ ?_; clear hK K; refine wpAny_take (i := 4) (v := ?_) rfl (by kernel_rfl) (by kernel_rfl) (by kernel_rfl) (fun _ _ _ h => h) (Or.inl ⟨by rfl, ?_⟩) ?_
    rotate_left
    ·intro w; go_simp; try with_reducible rfl
    refine wpAny_take (i := 7) (v := ?_) rfl (by kernel_rfl) (by kernel_rfl) (by kernel_rfl) (fun _ _ _ h => h) (Or.inl ⟨by rfl, ?_⟩) ?_
    rotate_left
    ·intro w; go_simp; try with_reducible rfl
    refine wpAny_ready (rs := [8]) (by kernel_rfl) (by simp) ?_; refine AllReady.cons rfl (fun K hK => ?_) ?_
    rotate_left
    ·exact AllReady.nil
    refine step_store_mid rfl 99 (.tmp 30) (.tmp 27) rfl g (5 + k * 28) (thrCells ⟨1, ⟨arch, nr, a0, a1, a2, a3⟩, ⟨arch, nr, a0, a1, a2, a3⟩, 0, [], zeroVals, []⟩ (.slice none 0 0) (.slice none 0 0)).toArray (by first | rfl | (go_simp; done) | simp [Act.eval]) (by first | rfl | (simp only [thrCells, zeroVals, zeroVal]; go_simp; done)) (by exact hth1) (by kernel_rfl) (by simp [thrCells, Value.oneCell', zeroVals, zeroVal]) ?_
    refine hK _ _ ?_; clear hK K; refine wpAny_done (by kernel_rfl) ?_ _
    go_wp2_with fail; go_ret; exact ⟨by rw [HE.out]; rfl, by rw [HS.out]; exact HTW.out.1, HTW.out.2⟩
   exact AllReady.nil
  ·by_cases p6 : (S.t k).phase = 6
   ·have HE : Hid (errV (enterE S k) = .iface 105 (.int .i64 8)) := by show _ = _; unfold enterE; rw [if_neg h1]; simp only [Int.toNat_natCast]; rw [if_neg p0, if_pos p6]; rfl
    have HS : Hid (enterS S k ⟨arch, nr, a0, a1, a2, a3⟩ = S) := by show _ = _; unfold enterS; rw [if_neg]; unfold enterE; rw [if_neg h1]; simp only [Int.toNat_natCast]; rw [if_neg p0, if_pos p6]; omega
    rw [p6] at c0; clear R h h1 p0 p6 hc; unfold CallD.v; simp only; go_enter Tryz.func18, Tryz.ntmps18
    go_wp2_with fail; go_ret; exact ⟨by rw [HE.out]; rfl, by rw [HS.out]; exact HH.out.below (HB.out _), Frame.of_below (HB.out _)⟩
   ·have HE : Hid (errV (enterE S k) = .iface 105 (.int .i64 7)) := by show _ = _; unfold enterE; rw [if_neg h1]; simp only [Int.toNat_natCast]; rw [if_neg p0, if_neg p6]; rfl
    have HS : Hid (enterS S k ⟨arch, nr, a0, a1, a2, a3⟩ = S) := by show _ = _; unfold enterS; rw [if_neg]; unfold enterE; rw [if_neg h1]; simp only [Int.toNat_natCast]; rw [if_neg p0, if_neg p6]; omega
    generalize (S.t k).phase = ph at *
    clear R h h1 hc; unfold CallD.v; simp only; go_enter Tryz.func18, Tryz.ntmps18
    go_wp2_with fail; go_ret; exact ⟨by rw [HE.out]; rfl, by rw [HS.out]; exact HH.out.below (HB.out _), Frame.of_below (HB.out _)⟩
end Go.Proofs.YtmgngapkgcofnabGreatDoor
namespace Go.Proofs.YtmgngapkgcofnabGreatDoor
open Go.RowKit Go.PlainAid
theorem entInfo : ∃ z, (Tryz.prog.info? 80).map (fun i => (i.zero, i.size, i.bytes)) = some (some z, 21, 192) ∧ z.cells.size = 21 :=
 ⟨.agg #[.int .i64 0, .int .i64 0, .int .u32 0, .int .u32 0, .int .u64 0, .int .u64 0, .int .u64 0, .int .u64 0, .string ⟨#[]⟩, .int .u32 0, .int .i64 0, .string ⟨#[]⟩, .int .u32 0, .int .i64 0, .string ⟨#[]⟩, .int .u32 0, .int .i64 0, .string ⟨#[]⟩, .int .u32 0, .int .i64 0, .int .i64 0], by kernel_rfl, rfl⟩
theorem u64Info : (Tryz.prog.info? 42).map (fun i => (i.zero, i.size, i.bytes)) = some (some (.int .u64 0), 1, 8) := by kernel_rfl
theorem entCells_one (e : EntD) : ∀ u ∈ entCells e, u.oneCell' = true := by
 intro u hu; simp only [entCells, callCells, valsCells, List.cons_append, List.nil_append, List.mem_cons, List.not_mem_nil, or_false] at hu; rcases hu with rfl | rfl | rfl | rfl | rfl | rfl | rfl | rfl | rfl | rfl | rfl | rfl | rfl | rfl | rfl | rfl | rfl | rfl | rfl | rfl | rfl <;> rfl
theorem step_append_ent {w : World} {ops : Array Oper} {o : Oper} {a : Act} {K : Act → World → Prop} {Q : Exit → Act → World → Prop} {E : Prop} (hgd : o.guard = none) (s x : Operand)
  (ho : o.op = .call { callee := .builtin .append, args := #[s, x], argTypes := #[72, 72] })
  (bs n : Nat) (v1 : Value) (xs : List Value) (y : EntD) (hs : a.eval s = v1) (hx : a.eval x = .slice (some ⟨bs, 0, none⟩) 1 1) (hown : w.ownsRow 0 80 21 v1 n xs)
  (hb : w.heap[bs]? = some (.cells (entCells y).toArray 80 (0, 0))) (hl : n ≤ 1000000)
  (h : ∀ g cap w', w'.ownsRow 0 80 21 (.slice (some ⟨g, 0, none⟩) (n + 1) cap) (n + 1) (xs ++ entCells y) → w.grownBy w' v1.ownBlock → (v1.ownBlock = some g ∨ g = w.heap.size) → g < w'.heap.size → K (a.put o.dst (.slice (some ⟨g, 0, none⟩) (n + 1) cap)) w') :
  if Region.wanted o (yielded ops a.tmps) = true then Oper.wp Tryz.prog o a w K Q else E := by
 obtain ⟨z, hinf, hz2⟩ := entInfo; obtain ⟨i0, hi, hz0, hz1, hz3⟩ := info_parts hinf; exact step_append_lies w hgd s x _ ho 0 80 i0 z 21 192 Tryz.underlying72 hi hz0 hz1 hz3 hz2 (by omega) v1 n xs hs hown ⟨bs, 0, none⟩ 1 1 (entCells y) hx rfl (World.news_of_block hb) (entCells_one y) (by omega) (by unfold maxLen; omega) (by omega) (by omega) _ rfl h
section
variable {w w1 w' : World} {H : Nat} {B : Nat → Prop} {g : Nat} {p : PolD} {S : WardS} {A : Option Addr} {c : Nat} {Ap : Option Addr} {cp : Nat} {m : Nat} {lv : Value} {bv sv : Nat → Value}
def RowChg (w : World) (B : Nat → Prop) (r : Option Nat) (e : TypeId) : Prop := ∀ b, r = some b → B b ∧ ∃ cur, w.heap[b]? = some (.cells cur e (0, 0))
theorem RowB.chg {e : TypeId} {s n : Nat} {v : Value} {xs : List Value} (h : RowB w B e s v n xs) : RowChg w B v.ownBlock e := fun b hb => ⟨h.2 b hb, h.type hb⟩
theorem RowB.other {e e2 : TypeId} {s n : Nat} {v : Value} {xs : List Value} (h : RowB w B e s v n xs) {r : Option Nat} (hg : w.grownBy w1 r) (hr : RowChg w B r e2) (hne : e2 ≠ e) : RowB w1 B e s v n xs :=
 h.grown hg fun b hb er => by
  obtain ⟨_, cur, hc⟩ := hr b er; exact h.apart hc hne b hb rfl
theorem WardRep.body (R : WardRep w H B g p S A c Ap cp m lv bv sv) (hl : ∀ k, B k → H ≤ k) (hB : B g) {r : Option Nat} {e : TypeId} (hg : w.grownBy w1 r) (hr : RowChg w B r e) (h1 : e ≠ 102) (h2 : e ≠ 161) (h3 : e ≠ 108) :
  w1.heap[g]? = w.heap[g]? ∧ PolAt w1 H (.agg #[.slice A p.rules.length c, .int .i64 p.kind, .int .i64 p.errno]) p ∧ InsSl w1 H (.slice Ap (progL p).length cp) (progL p) ∧ MemAt w1 B m S.m := by
 have hblk : w.heap[g]? = some (.cells _ 102 (0, 0)) := R.blk; have hbl : Below H w w1 := Below.of_grown hg (fun b e => hl b (hr b e).1) (by have := R.lt; have := hl g hB; omega); refine ⟨hg.block g R.lt (fun er => ?_), R.pol.low hbl, R.prg.below hbl, R.mem.grown hg (fun b er => ?_)⟩
 ·obtain ⟨_, cur, hc⟩ := hr g er.symm; rw [hblk] at hc; simp only [Option.some.injEq, Obj.cells.injEq] at hc; exact h1 hc.2.1.symm
 ·obtain ⟨_, cur, hc⟩ := hr b er; exact ⟨cur, e, hc, h2, h3⟩
theorem RowB.set {e : TypeId} {s n : Nat} {v : Value} {xs : List Value} (h : RowB w1 B e s v n xs) {cs : Array Value} (hg : w1.heap[g]? = some (.cells cs 102 (0, 0))) (he : e ≠ 102) (i : Nat) (u : Value) : RowB (w1.setCell ⟨g, i, none⟩ u) B e s v n xs :=
 h.grown (grow1 w1 g i u) (fun b hb er => h.apart hg (fun e2 => he e2.symm) b hb er)
theorem low_set (hl : ∀ k, B k → H ≤ k) (hB : B g) (hs : H ≤ w1.heap.size) (i : Nat) (u : Value) : Below H w1 (w1.setCell ⟨g, i, none⟩ u) :=
 Below.of_grown (grow1 w1 g i u) (fun b e => by simp only [Option.some.injEq] at e; subst e; exact hl g hB) hs
theorem own_new {w : World} {B : Nat → Prop} {e : TypeId} {s n g1 cap : Nat} {xs : List Value} {v : Value} (h : w1.ownsRow 0 e s (.slice (some ⟨g1, 0, none⟩) n cap) n xs) (hB : ∀ b, v.ownBlock = some b → B b) (hBs : ∀ k, w.heap.size ≤ k → B k) (hat : v.ownBlock = some g1 ∨ w.heap.size ≤ g1) : RowB w1 B e s (.slice (some ⟨g1, 0, none⟩) n cap) n xs := by
 refine ⟨h, fun b hb => ?_⟩; obtain rfl : g1 = b := by simpa [Value.ownBlock] using hb
 rcases hat with h1 | h1
 ·exact hB _ h1
 ·exact hBs _ h1
theorem WardRep.logPut (R : WardRep w H B g p S A c Ap cp m lv bv sv) (hl : ∀ k, B k → H ≤ k) (hB : B g) (hBs : ∀ k, w.heap.size ≤ k → B k) {e : EntD} {g1 cap : Nat}
  (hown : w1.ownsRow 0 80 21 (.slice (some ⟨g1, 0, none⟩) (S.log.length + 1) cap) (S.log.length + 1) (logCells S.log ++ entCells e)) (hg : w.grownBy w1 lv.ownBlock) (hat : lv.ownBlock = some g1 ∨ w.heap.size ≤ g1) :
  WardRep (w1.setCell ⟨g, 89, none⟩ (.slice (some ⟨g1, 0, none⟩) (S.log.length + 1) cap)) H B g p (S.put e) A c Ap cp m (.slice (some ⟨g1, 0, none⟩) (S.log.length + 1) cap) bv sv ∧ Frame B w (w1.setCell ⟨g, 89, none⟩ (.slice (some ⟨g1, 0, none⟩) (S.log.length + 1) cap)) := by
 have hchg := R.log.chg; obtain ⟨k1, k2, k3, k4⟩ := R.body hl hB hg hchg (by decide) (by decide) (by decide); have hblk0 : w.heap[g]? = some (.cells _ 102 (0, 0)) := R.blk; have hblk1 := k1.trans hblk0; have hs1 : H ≤ w1.heap.size := by have := R.lt; have := hl g hB; have := hg.size; omega
 have hb1 : BlkAt w1 g 102 90 _ := k1.trans R.blk; have hlow := low_set hl hB hs1 89 (.slice (some ⟨g1, 0, none⟩) (S.log.length + 1) cap)
 refine ⟨⟨(hb1.set 89 _).same (wardCell_log _ _ _ _ _ _), k2.low hlow, k3.below hlow, k4.grown (grow1 w1 g 89 _) (fun b er => ?_), R.ne, fun n hn => ((R.buf n hn).other hg hchg (by decide)).set hblk1 (by decide) _ _, fun n hn => ((R.sea n hn).other hg hchg (by decide)).set hblk1 (by decide) _ _, ?_, R.apb, R.aps⟩, ?_⟩
 ·simp only [Option.some.injEq] at er; subst er; exact ⟨_, _, hblk1, by decide, by decide⟩
 ·have := own_new (w := w) hown R.log.2 hBs hat; have h2 := this.set hblk1 (by decide) 89 (.slice (some ⟨g1, 0, none⟩) (S.log.length + 1) cap); show RowB _ B _ 21 _ (S.log ++ [e]).length (logCells (S.log ++ [e])); rw [logCells_append, List.length_append, show logCells [e] = entCells e from by simp [logCells]]; exact h2
 ·exact (Frame.of_grown hg R.log.2).trans (Frame.set w1 hB _ _)
end
end Go.Proofs.YtmgngapkgcofnabGreatDoor
