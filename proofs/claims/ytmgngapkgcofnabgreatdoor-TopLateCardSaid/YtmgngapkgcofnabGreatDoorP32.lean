/- What a write to a ward makes of it. -/
import Derived.Test.YtmgngapkgcofnabGreatDoorP31
import Derived.Deep.AppendLies
import Derived.Test.YtmgngapkgcofnabGreatDoorP11
import Derived.Deep.RegionWith
import Derived.Lib.QuietBelow
import Derived.BigQuiet
namespace Go.Proofs.YtmgngapkgcofnabGreatDoor
open Go.RowKit
section
variable {w w' : World} {H : Nat} {B : Nat → Prop} {g : Nat} {p : PolD} {S : WardS} {A : Option Addr} {c : Nat} {Ap : Option Addr} {cp : Nat} {m : Nat} {lv : Value} {bv sv : Nat → Value}
theorem grow1 (w : World) (g i : Nat) (v : Value) : w.grownBy (w.setCell ⟨g, i, none⟩ v) (some g) :=
 ⟨rfl, rfl, rfl, by simp [World.setCell], fun k _ hk => Below.heap_setCell w ⟨g, i, none⟩ v k (fun e => hk (by rw [e]))⟩
theorem growN (w : World) (g i : Nat) (vs : List Value) : w.grownBy (w.setCells g i vs) (some g) := by
 have h := But.setCells vs (But.refl g w) i; exact ⟨h.os, h.tape, h.output, h.size, fun k hk hn => h.block k hk (fun e => hn (by rw [e]))⟩
theorem growBl {w w' : World} {r : Option Nat} (h : Below w.heap.size w w') : w.grownBy w' r := ⟨h.os, h.tape, h.output, h.size, fun k hk _ => h.block k hk⟩
theorem grown_but {w w' : World} {b : Nat} (h : But b w w') : w.grownBy w' (some b) := ⟨h.os, h.tape, h.output, h.size, fun k hk hn => h.block k hk (fun e => hn (by rw [e]))⟩
theorem grown_via {w w0 w' : World} {r : Option Nat} (h0 : Below w.heap.size w w0) (h : w0.grownBy w' r) : w.grownBy w' r :=
 ⟨h.os.trans h0.os, h.tape.trans h0.tape, h.output.trans h0.output, Nat.le_trans h0.size h.size, fun k hk hn => (h.block k (Nat.lt_of_lt_of_le hk h0.size) hn).trans (h0.block k hk)⟩
theorem Below.of_grown {w w' : World} {r : Option Nat} {H : Nat} (h : w.grownBy w' r) (hr : ∀ b, r = some b → H ≤ b) (hH : H ≤ w.heap.size) : Below H w w' :=
 ⟨h.os, h.tape, h.output, h.size, fun k hk => h.block k (by omega) (fun e => by have := hr k e.symm; omega)⟩
theorem PolAt.low {w w' : World} {H : Nat} {v : Value} {p : PolD} (h : PolAt w H v p) (hb : Below H w w') : PolAt w' H v p := by
 obtain ⟨A, c, rfl, hr⟩ := h; exact ⟨A, c, rfl, hr.below hb (Nat.le_refl _)⟩
theorem SealAt.keep {w w' : World} {B B' : Nat → Prop} {m : Nat} {a : Option Nat} {b : Option (Nat → Int)} (h : SealAt w B m a b) (hk : ∀ q cs, B q → w.heap[q]? = some (Obj.cells cs 108 (0, 0)) → B' q ∧ w'.heap[q]? = w.heap[q]?) : SealAt w' B' m a b := by
 unfold SealAt at *
 split at h
 ·trivial
 ·rename_i q f; obtain ⟨a1, a2, a3⟩ := h; have a3' : w.heap[q]? = some (Obj.cells (rowOf 64 fun k => .int .u8 (f k)) 108 (0, 0)) := a3; obtain ⟨k1, k2⟩ := hk q _ a1 a3'; exact ⟨k1, a2, k2.trans a3'⟩
 ·exact h.elim
theorem MemAt.grown {w w' : World} {B : Nat → Prop} {m : Nat} {S : MemS} (h : MemAt w B m S) {r : Option Nat} (hg : w.grownBy w' r)
  (hr : ∀ b, r = some b → ∃ cur e, w.heap[b]? = some (.cells cur e (0, 0)) ∧ e ≠ 161 ∧ e ≠ 108) : MemAt w' B m S := by
 obtain ⟨h1, h2, C, sp, h3, h4, h5⟩ := h
 have key : ∀ (b : Nat) (cs : Array Value) (e : TypeId), w.heap[b]? = some (.cells cs e (0, 0)) → (e = 161 ∨ e = 108) → w'.heap[b]? = w.heap[b]? := fun b cs e hb he => by
  refine hg.block b (lt_of_block hb) (fun er => ?_); obtain ⟨cur, e', k1, k2, k3⟩ := hr b er.symm; rw [hb] at k1; simp only [Option.some.injEq, Obj.cells.injEq] at k1; rcases he with rfl | rfl
  ·exact k2 k1.2.1.symm
  ·exact k3 k1.2.1.symm
 have h3' : w.heap[m]? = some (.cells (rowOf 532 C) 161 (0, 0)) := h3; exact ⟨h1, h2, C, sp, (key m _ _ h3' (.inl rfl)).trans h3', h4, fun i hi => (h5 i hi).keep fun q cs hq hc => ⟨hq, key q cs _ hc (.inr rfl)⟩⟩
theorem MemAt.weak {w : World} {B B' : Nat → Prop} {m : Nat} {S : MemS} (h : MemAt w B m S) (hb : ∀ k, k < w.heap.size → B k → B' k) : MemAt w B' m S := by
 obtain ⟨h1, h2, C, sp, h3, h4, h5⟩ := h; exact ⟨hb m h3.lt h1, h2, C, sp, h3, h4, fun i hi => (h5 i hi).keep fun q cs hq hc => ⟨hb q (lt_of_block hc) hq, rfl⟩⟩
theorem RowB.grown {w w' : World} {B : Nat → Prop} {e : TypeId} {s n : Nat} {v : Value} {xs : List Value} (h : RowB w B e s v n xs) {r : Option Nat} (hg : w.grownBy w' r) (hr : ∀ b, v.ownBlock = some b → r ≠ some b) : RowB w' B e s v n xs :=
 h.kept fun b _ hb hv => (hg.block b (lt_of_block hb) (fun e => hr b hv e.symm)).trans hb
theorem RowB.weak {w : World} {B B' : Nat → Prop} {e : TypeId} {s n : Nat} {v : Value} {xs : List Value} (h : RowB w B e s v n xs) (hb : ∀ k, k < w.heap.size → B k → B' k) : RowB w B' e s v n xs :=
 ⟨h.1, fun b hv => hb b (h.lt b hv) (h.2 b hv)⟩
theorem RowB.apart {w : World} {B : Nat → Prop} {e : TypeId} {s n : Nat} {v : Value} {xs : List Value} (h : RowB w B e s v n xs) {b : Nat} {cur : Array Value} {t : TypeId} {fr : Nat × Nat} (hb : w.heap[b]? = some (.cells cur t fr)) (ht : t ≠ e) : ∀ k, v.ownBlock = some k → some b ≠ some k := fun k hk hbk => by
 obtain ⟨cur', hc⟩ := h.type hk; simp only [Option.some.injEq] at hbk; subst hbk; rw [hb] at hc; simp only [Option.some.injEq, Obj.cells.injEq] at hc; exact ht hc.2.1
theorem WardAt.few (h : WardAt w H B g p S) : H ≤ w.heap.size := by
 obtain ⟨A, c, Ap, cp, m, lv, bv, sv, h1⟩ := h.rep; have := h1.lt; have := h.low g h.base; omega
theorem ifn {α : Type} (f : Nat → α) (n : Nat) : (fun k => if k = n then f n else f k) = f := by
 funext k; by_cases h : k = n
 ·rw [if_pos h, h]
 ·rw [if_neg h]
theorem WardAt.grown (h : WardAt w H B g p S) {r : Option Nat} (hg : w.grownBy w' r) (hr : ∀ b, r = some b → ¬ B b ∧ H ≤ b) : WardAt w' H B g p S := by
 obtain ⟨hB, hl, hok, A, c, Ap, cp, m, lv, bv, sv, R⟩ := h; have hH : H ≤ w.heap.size := by have := R.lt; have := hl g hB; omega
 have hbl : Below H w w' := Below.of_grown hg (fun b e => (hr b e).2) hH; have hkeep : ∀ b, b < w.heap.size → B b → w'.heap[b]? = w.heap[b]? := fun b hb hBb => hg.block b hb (fun e => (hr b e.symm).1 hBb); have hblk : w.heap[g]? = _ := R.blk
 have hrow : ∀ {e : TypeId} {s n : Nat} {v : Value} {xs : List Value}, RowB w B e s v n xs → RowB w' B e s v n xs := fun hR => hR.kept (fun b cur hb hv => (hkeep b (lt_of_block hb) (hR.2 b hv)).trans hb)
 refine ⟨hB, hl, hok, A, c, Ap, cp, m, lv, bv, sv, ⟨(hkeep g R.lt hB).trans R.blk, R.pol.low hbl, R.prg.below hbl, ?_, R.ne, fun n hn => hrow (R.buf n hn), fun n hn => hrow (R.sea n hn), hrow R.log, R.apb, R.aps⟩⟩; obtain ⟨h1, h2, C, sp, h3, h4, h5⟩ := R.mem; exact ⟨h1, h2, C, sp, (hkeep m h3.lt h1).trans h3, h4, fun i hi => (h5 i hi).keep fun q cs hq hc => ⟨hq, hkeep q (lt_of_block hc) hq⟩⟩
theorem WardAt.below (h : WardAt w H B g p S) (hb : Below w.heap.size w w') : WardAt w' H B g p S := h.grown (r := none) (growBl hb) (fun b e => by cases e)
theorem WardAt.frame {B' : Nat → Prop} (h : WardAt w H B g p S) (hf : Frame B' w w') (hd : ∀ k, k < w.heap.size → B' k → ¬ B k ∧ H ≤ k) : WardAt w' H B g p S := by
 obtain ⟨hB, hl, hok, A, c, Ap, cp, m, lv, bv, sv, R⟩ := h; have hH : H ≤ w.heap.size := by have := R.lt; have := hl g hB; omega
 have hbl : Below H w w' := ⟨hf.os, hf.tape, hf.output, hf.size, fun k hk => hf.block k (by omega) (fun hb => by have := (hd k (by omega) hb).2; omega)⟩
 have hkeep : ∀ b, b < w.heap.size → B b → w'.heap[b]? = w.heap[b]? := fun b hb hBb => hf.block b hb (fun hb' => (hd b hb hb').1 hBb); have hrow : ∀ {e : TypeId} {s n : Nat} {v : Value} {xs : List Value}, RowB w B e s v n xs → RowB w' B e s v n xs := fun hR => hR.kept (fun b cur hb hv => (hkeep b (lt_of_block hb) (hR.2 b hv)).trans hb)
 refine ⟨hB, hl, hok, A, c, Ap, cp, m, lv, bv, sv, ⟨(hkeep g R.lt hB).trans R.blk, R.pol.low hbl, R.prg.below hbl, ?_, R.ne, fun n hn => hrow (R.buf n hn), fun n hn => hrow (R.sea n hn), hrow R.log, R.apb, R.aps⟩⟩; obtain ⟨h1, h2, C, sp, h3, h4, h5⟩ := R.mem; exact ⟨h1, h2, C, sp, (hkeep m h3.lt h1).trans h3, h4, fun i hi => (h5 i hi).keep fun q cs hq hc => ⟨hq, hkeep q (lt_of_block hc) hq⟩⟩
theorem WardAt.rebase {B' : Nat → Prop} (h : WardAt w H B g p S) (hb : ∀ k, k < w.heap.size → B k → B' k) (hl : ∀ k, B' k → H ≤ k) : WardAt w H B' g p S := by
 obtain ⟨hB, _, hok, A, c, Ap, cp, m, lv, bv, sv, R⟩ := h; exact ⟨hb g R.lt hB, hl, hok, A, c, Ap, cp, m, lv, bv, sv, ⟨R.blk, R.pol, R.prg, R.mem.weak hb, R.ne, fun n hn => (R.buf n hn).weak hb, fun n hn => (R.sea n hn).weak hb, R.log.weak hb, R.apb, R.aps⟩⟩
theorem setT_t (S : WardS) (n : Nat) (T : ThrS) (k : Nat) : (S.setT n T).t k = if k = n then T else S.t k := rfl
theorem ok_setT {S : WardS} (h : S.ok) {n : Nat} {T : ThrS} (hT : T.ok) : (S.setT n T).ok := ⟨fun k => by rw [setT_t]; split; exact hT; exact h.thr k, h.few⟩
theorem WardRep.beside (R : WardRep w H B g p S A c Ap cp m lv bv sv) (hl : ∀ k, B k → H ≤ k) (hB : B g) (hg : w.grownBy w' (some g)) :
  PolAt w' H (.agg #[.slice A p.rules.length c, .int .i64 p.kind, .int .i64 p.errno]) p ∧ InsSl w' H (.slice Ap (progL p).length cp) (progL p) ∧ MemAt w' B m S.m ∧
  (∀ n, n < 3 → RowB w' B 5 1 (bv n) (S.t n).buf.length (u8s (S.t n).buf)) ∧ (∀ n, n < 3 → RowB w' B 42 1 (sv n) (S.t n).seals.length (u64s (S.t n).seals)) ∧ RowB w' B 80 21 lv S.log.length (logCells S.log) := by
 have hblk : w.heap[g]? = some (.cells _ 102 (0, 0)) := R.blk; have hbl : Below H w w' := Below.of_grown hg (fun b e => by simp only [Option.some.injEq] at e; subst e; exact hl g hB) (by have := R.lt; have := hl g hB; omega); refine ⟨R.pol.low hbl, R.prg.below hbl, R.mem.grown hg (fun b e => ?_), fun n hn => (R.buf n hn).grown hg ?_, fun n hn => (R.sea n hn).grown hg ?_, R.log.grown hg ?_⟩
 ·simp only [Option.some.injEq] at e; subst e; exact ⟨_, _, hblk, by decide, by decide⟩
 ·exact (R.buf n hn).apart hblk (by decide)
 ·exact (R.sea n hn).apart hblk (by decide)
 ·exact R.log.apart hblk (by decide)
theorem WardAt.setC (h : WardAt w H B g p S) {n j : Nat} (hn : n < 3) (hj : j < 28) {v : Value} {T : ThrS} (hT : ∀ b s, thrCells T b s = (thrCells (S.t n) b s).set j v) (hb : T.buf = (S.t n).buf) (hs : T.seals = (S.t n).seals) (hok : T.ok) :
  WardAt (w.setCell ⟨g, 5 + n * 28 + j, none⟩ v) H B g p (S.setT n T) := by
 obtain ⟨hB, hl, hok0, A, c, Ap, cp, m, lv, bv, sv, R⟩ := h; obtain ⟨k1, k2, k3, k4, k5, k6⟩ := R.beside hl hB (grow1 w g (5 + n * 28 + j) v); have hblk := (R.blk.set (5 + n * 28 + j) v).same (wardCell_set _ _ _ _ _ hn hj v T (bv n) (sv n) (hT _ _)); rw [ifn bv n, ifn sv n] at hblk
 refine ⟨hB, hl, ok_setT hok0 hok, A, c, Ap, cp, m, lv, bv, sv, ⟨hblk, k1, k2, k3, R.ne, fun k hk => ?_, fun k hk => ?_, k6, R.apb, R.aps⟩⟩
 ·rw [setT_t]; split
  ·rename_i e; subst e; rw [hb]; exact k4 k hk
  ·exact k4 k hk
 ·rw [setT_t]; split
  ·rename_i e; subst e; rw [hs]; exact k5 k hk
  ·exact k5 k hk
theorem WardAt.setAll (h : WardAt w H B g p S) {n : Nat} (hn : n < 3) {T : ThrS} (hb : T.buf = []) (hs : T.seals = []) (hok : T.ok) :
  WardAt (w.setCells g (5 + n * 28) (thrCells T (.slice none 0 0) (.slice none 0 0))) H B g p (S.setT n T) := by
 obtain ⟨hB, hl, hok0, A, c, Ap, cp, m, lv, bv, sv, R⟩ := h; obtain ⟨k1, k2, k3, k4, k5, k6⟩ := R.beside hl hB (growN w g (5 + n * 28) (thrCells T (.slice none 0 0) (.slice none 0 0))); have hblk := (R.blk.sets (thrCells T (.slice none 0 0) (.slice none 0 0)) (5 + n * 28)).same (wardCell_sets _ _ _ _ _ hn T (.slice none 0 0) (.slice none 0 0))
 refine ⟨hB, hl, ok_setT hok0 hok, A, c, Ap, cp, m, lv, fun k => if k = n then .slice none 0 0 else bv k, fun k => if k = n then .slice none 0 0 else sv k, ⟨hblk, k1, k2, k3, R.ne, fun k hk => ?_, fun k hk => ?_, k6, fun i k hi hk hik => ?_, fun i k hi hk hik => ?_⟩⟩
 ·rw [setT_t]; split
  ·rw [hb]; exact RowB.nil _ _ _ _
  ·exact k4 k hk
 ·rw [setT_t]; split
  ·rw [hs]; exact RowB.nil _ _ _ _
  ·exact k5 k hk
 ·by_cases e1 : i = n
  ·rw [if_pos e1]; exact .inl rfl
  ·rw [if_neg e1]
   by_cases e2 : k = n
   ·rw [if_pos e2]
    cases hx : (bv i).ownBlock with
    | none => exact .inl rfl
    | some y => exact .inr (by simp [Value.ownBlock])
   ·rw [if_neg e2]; exact R.apb i k hi hk hik
 ·by_cases e1 : i = n
  ·rw [if_pos e1]; exact .inl rfl
  ·rw [if_neg e1]
   by_cases e2 : k = n
   ·rw [if_pos e2]
    cases hx : (sv i).ownBlock with
    | none => exact .inl rfl
    | some y => exact .inr (by simp [Value.ownBlock])
   ·rw [if_neg e2]; exact R.aps i k hi hk hik
end
end Go.Proofs.YtmgngapkgcofnabGreatDoor
namespace Go.Proofs.YtmgngapkgcofnabGreatDoor
open Go.RowKit Go.PlainAid
theorem formIdxU0 (w : World) : (Instr.index 181 (.agg formsRow) (.int .u32 0)).run Tryz.prog w = .ok (.agg #[.string (formName 0), .int .i64 (kindF 0 0), .int .i64 (kindF 0 1), .int .i64 (kindF 0 2), .int .i64 (kindF 0 3)]) w := by kernel_rfl
theorem formIdxU1 (w : World) : (Instr.index 181 (.agg formsRow) (.int .u32 1)).run Tryz.prog w = .ok (.agg #[.string (formName 1), .int .i64 (kindF 1 0), .int .i64 (kindF 1 1), .int .i64 (kindF 1 2), .int .i64 (kindF 1 3)]) w := by kernel_rfl
theorem formIdxU2 (w : World) : (Instr.index 181 (.agg formsRow) (.int .u32 2)).run Tryz.prog w = .ok (.agg #[.string (formName 2), .int .i64 (kindF 2 0), .int .i64 (kindF 2 1), .int .i64 (kindF 2 2), .int .i64 (kindF 2 3)]) w := by kernel_rfl
theorem formIdxU3 (w : World) : (Instr.index 181 (.agg formsRow) (.int .u32 3)).run Tryz.prog w = .ok (.agg #[.string (formName 3), .int .i64 (kindF 3 0), .int .i64 (kindF 3 1), .int .i64 (kindF 3 2), .int .i64 (kindF 3 3)]) w := by kernel_rfl
theorem formIdxU4 (w : World) : (Instr.index 181 (.agg formsRow) (.int .u32 4)).run Tryz.prog w = .ok (.agg #[.string (formName 4), .int .i64 (kindF 4 0), .int .i64 (kindF 4 1), .int .i64 (kindF 4 2), .int .i64 (kindF 4 3)]) w := by kernel_rfl
theorem formIdxU5 (w : World) : (Instr.index 181 (.agg formsRow) (.int .u32 5)).run Tryz.prog w = .ok (.agg #[.string (formName 5), .int .i64 (kindF 5 0), .int .i64 (kindF 5 1), .int .i64 (kindF 5 2), .int .i64 (kindF 5 3)]) w := by kernel_rfl
theorem formIdxU6 (w : World) : (Instr.index 181 (.agg formsRow) (.int .u32 6)).run Tryz.prog w = .ok (.agg #[.string (formName 6), .int .i64 (kindF 6 0), .int .i64 (kindF 6 1), .int .i64 (kindF 6 2), .int .i64 (kindF 6 3)]) w := by kernel_rfl
theorem formIdxU7 (w : World) : (Instr.index 181 (.agg formsRow) (.int .u32 7)).run Tryz.prog w = .ok (.agg #[.string (formName 7), .int .i64 (kindF 7 0), .int .i64 (kindF 7 1), .int .i64 (kindF 7 2), .int .i64 (kindF 7 3)]) w := by kernel_rfl
theorem formIdxU8 (w : World) : (Instr.index 181 (.agg formsRow) (.int .u32 8)).run Tryz.prog w = .ok (.agg #[.string (formName 8), .int .i64 (kindF 8 0), .int .i64 (kindF 8 1), .int .i64 (kindF 8 2), .int .i64 (kindF 8 3)]) w := by kernel_rfl
theorem formIdxU (nr : Nat) (h : nr < 9) (w : World) : (Instr.index 181 (.agg formsRow) (.int .u32 (nr : Int))).run Tryz.prog w = .ok (.agg #[.string (formName nr), .int .i64 (kindF nr 0), .int .i64 (kindF nr 1), .int .i64 (kindF nr 2), .int .i64 (kindF nr 3)]) w := by
 have h1 : nr = 0 ∨ nr = 1 ∨ nr = 2 ∨ nr = 3 ∨ nr = 4 ∨ nr = 5 ∨ nr = 6 ∨ nr = 7 ∨ nr = 8 := by omega
 clear h; rcases h1 with rfl | rfl | rfl | rfl | rfl | rfl | rfl | rfl | rfl
 ·exact formIdxU0 w
 ·exact formIdxU1 w
 ·exact formIdxU2 w
 ·exact formIdxU3 w
 ·exact formIdxU4 w
 ·exact formIdxU5 w
 ·exact formIdxU6 w
 ·exact formIdxU7 w
 ·exact formIdxU8 w
theorem kindN_big {nr : Int} {a : Nat} (h : 9 ≤ nr) : kindN nr a = 0 := if_pos (.inl h)
theorem kindN_far {nr : Int} {a : Nat} (h : 4 ≤ a) : kindN nr a = 0 := if_pos (.inr h)
theorem kindN_in {nr a : Nat} (h : nr < 9) (h2 : a < 4) : kindN nr a = kindF nr a := by
 unfold kindN; rw [if_neg (by omega)]; simp
set_option linter.unusedSimpArgs false in
set_option maxRecDepth 100000 in
set_option maxHeartbeats 4000000 in
theorem thrKind_any (g o : Nat) (nr : Int) (a : Nat) (w : World) (hc : w.cell? ⟨g, o + 8, none⟩ = some (.int .u32 nr)) (h0 : 0 ≤ nr) :
  Calls Tryz.prog 98 #[.pointer (some ⟨g, o, none⟩), .int .i64 (a : Int)] w fun e w' => e = .returned (.int .i64 (kindN nr a)) ∧ Below w.heap.size w w' := by
 obtain ⟨k, rfl⟩ : ∃ k : Nat, nr = k := ⟨nr.toNat, by omega⟩
 by_cases h9 : 9 ≤ k
 ·have z1 : (9 : Int) ≤ (k : Int) := by omega
  rw [kindN_big z1]; go_enter Tryz.func98, Tryz.ntmps98
  go_wp2_with fail; go_ret; exact ⟨rfl, Below.refl _ _⟩
 ·have z1 : ¬ (9 : Int) ≤ (k : Int) := by omega
  by_cases h4 : 4 ≤ a
  ·have z2 : (4 : Int) ≤ (a : Int) := by omega
   rw [kindN_far h4]; go_enter Tryz.func98, Tryz.ntmps98
   go_wp2_with fail; go_ret; exact ⟨rfl, Below.refl _ _⟩
  ·have z2 : ¬ (4 : Int) ≤ (a : Int) := by omega
   rw [kindN_in (by omega) (by omega)]; have hix := fun w : World => formIdxU k (by omega) w; have hfl := formFld; have hix2 := fun w : World => argIdx k a (by omega) w; have hlt := World.block_lt_of_cell? w _ hc; generalize kindF k a = ka at *
   generalize kindF k 0 = f0 at *
   generalize kindF k 1 = f1 at *
   generalize kindF k 2 = f2 at *
   generalize kindF k 3 = f3 at *
   generalize formName k = fname at *
   have HFR : Hid (∀ w : World, Calls Tryz.prog 82 #[] w fun e w' => e = .returned (.agg formsRow) ∧ Below w.heap.size w w') := fun w => forms_any w; generalize formsRow = FR at *
   have cF := fun d os => Calls.regrown_of (HFR.out (Go.Sort.grow (redrawn w d) os)); have rc := cell_regrown hc; go_enter Tryz.func98, Tryz.ntmps98; go_upto_region 3 with fail; refine wp_region_quiet_below (by kernel_rfl) (by kernel_rfl) ?_
   repeat (go_big_quiet_step (first | (go_at_call 82; exact cF _ _) | fail))
   refine wpQuiet_nil ?_; intro _ hw'; obtain ⟨pq, hw''⟩ := hw'; subst hw''
   go_wp2_with fail; go_ret; exact ⟨rfl, below_regrown w pq.d pq.os⟩
theorem ptrN_at {nr : Int} {a : Nat} (h : a < 4) : ptrN nr a = if kindN nr a ≠ 2 ∧ kindN nr a ≠ 3 then ptrN nr (a + 1) else a := by
 unfold ptrN; obtain ⟨k, hk⟩ : ∃ k, 4 - a = k + 1 := ⟨3 - a, by omega⟩
 rw [hk, ptrK, show 4 - (a + 1) = k from by omega]
theorem ptrN_far {nr : Int} {a : Nat} (h : 4 ≤ a) : ptrN nr a = a := by
 unfold ptrN; rw [show 4 - a = 0 from by omega, ptrK]
theorem ptrN_le (nr : Int) (a : Nat) (h : a ≤ 4) : a ≤ ptrN nr a ∧ ptrN nr a ≤ 4 ∧ (ptrN nr a < 4 → kindN nr (ptrN nr a) = 2 ∨ kindN nr (ptrN nr a) = 3) := by
 obtain ⟨k, hk⟩ : ∃ k, k = 4 - a := ⟨_, rfl⟩
 induction k generalizing a with
 | zero => rw [ptrN_far (by omega)]; exact ⟨Nat.le_refl _, h, fun h2 => by omega⟩
 | succ k ih =>
  rw [ptrN_at (by omega)]; split
  ·obtain ⟨h1, h2, h3⟩ := ih (a + 1) (by omega) (by omega); exact ⟨by omega, h2, h3⟩
  ·rename_i hn
   exact ⟨Nat.le_refl _, by omega, fun _ => by
    by_cases h2 : kindN nr a = 2
    ·exact .inl h2
    ·exact .inr (Classical.not_not.1 fun h3 => hn ⟨h2, h3⟩)⟩
set_option linter.unusedSimpArgs false in
set_option maxRecDepth 100000 in
set_option maxHeartbeats 4000000 in
theorem thrPtr_any (g o : Nat) (nr : Int) (a : Nat) (w : World) (hc : w.cell? ⟨g, o + 8, none⟩ = some (.int .u32 nr)) (h0 : 0 ≤ nr) (ha : a ≤ 4) :
  Calls Tryz.prog 94 #[.pointer (some ⟨g, o, none⟩), .int .i64 (a : Int)] w fun e w' => e = .returned (.int .i64 (ptrN nr a : Nat)) ∧ Below w.heap.size w w' := by
 have hlt := World.block_lt_of_cell? w _ hc
 have HK : Hid (∀ (W : World) (i : Nat), Below w.heap.size w W → Calls Tryz.prog 98 #[.pointer (some ⟨g, o, none⟩), .int .i64 (i : Int)] W fun e w' => e = .returned (.int .i64 (kindN nr i)) ∧ Below W.heap.size W w') := fun W i hb =>
  thrKind_any g o nr i W ((hb.cell (p := ⟨g, o + 8, none⟩) hlt).trans hc) h0
 clear hc hlt; go_enter Tryz.func94, Tryz.ntmps94
 go_wp2_with fail
 go_loopw [1] (fun iv wr => ∃ i : Nat, i ≤ 4 ∧ iv = .int .i64 i ∧ Hid (ptrN nr i = ptrN nr a) ∧ Hid (Below w.heap.size w wr)) (fun iv _ => 4 - (intOf iv).toNat)
 case atStart => exact ⟨a, ha, rfl, rfl, Below.refl _ _⟩
 case round =>
  obtain ⟨i, hi, rfl, hp, HB⟩ := hrel
  by_cases h4 : i < 4
  ·have z1 : (i : Int) < 4 := by omega
   have z0 : (0 : Int) ≤ (i : Int) := by omega
   have HP := Lib.hid (hp.out.symm.trans (ptrN_at (nr := nr) h4)); have c1 := HK.out wr i HB.out; obtain ⟨kk, hkk⟩ : ∃ kk, kk = kindN nr i := ⟨_, rfl⟩
   rw [← hkk] at HP c1; have HC1 := Lib.hid c1
   have HC2 : Hid (∀ W, Below wr.heap.size wr W → Calls Tryz.prog 98 #[.pointer (some ⟨g, o, none⟩), .int .i64 (i : Int)] W fun e w' => e = .returned (.int .i64 kk) ∧ Below W.heap.size W w') := fun W hb => by
    rw [hkk]; exact HK.out W i (HB.out.trans (hb.mono HB.out.size))
   clear c1 hkk hp
   by_cases k2 : kk = 2
   ·subst k2; have HE : Hid (ptrN nr a = i) := by show _ = _; have := HP.out; simpa using this
    go_wp2_with (go_at_call 98; refine cargs (by simp [Act.eval]) (HC1.out.mono ?_); rintro e w1 ⟨rfl, hb1⟩)
    go_ret; exact ⟨by rw [HE.out]; rfl, HB.out.trans (hb1.mono HB.out.size)⟩
   ·by_cases k3 : kk = 3
    ·subst k3; have HE : Hid (ptrN nr a = i) := by show _ = _; have := HP.out; simpa using this
     go_wp2_with (first
      | (go_at_call 98; refine cargs (by simp [Act.eval]) (HC1.out.mono ?_); rintro e w1 ⟨rfl, hb1⟩; have HD1 := Lib.hid hb1; clear hb1 HC1)
      | (go_at_call 98; refine cargs (by simp [Act.eval]) ((HC2.out _ HD1.out).mono ?_); rintro e w2 ⟨rfl, hb2⟩))
     go_ret; exact ⟨by rw [HE.out]; rfl, HB.out.trans ((HD1.out.trans (hb2.mono HD1.out.size)).mono HB.out.size)⟩
    ·have HE : Hid (ptrN nr (i + 1) = ptrN nr a) := by show _ = _; have := HP.out; rw [if_pos ⟨k2, k3⟩] at this; exact this.symm
     go_wp2_with (first
      | (go_at_call 98; refine cargs (by simp [Act.eval]) (HC1.out.mono ?_); rintro e w1 ⟨rfl, hb1⟩; have HD1 := Lib.hid hb1; clear hb1 HC1)
      | (go_at_call 98; refine cargs (by simp [Act.eval]) ((HC2.out _ HD1.out).mono ?_); rintro e w2 ⟨rfl, hb2⟩))
     have HBN : Hid (Below w.heap.size w w2) := HB.out.trans ((HD1.out.trans (hb2.mono HD1.out.size)).mono HB.out.size); go_roundw
     case rel => exact ⟨i + 1, by omega, by go_num, HE, HBN⟩
     case measure => simp [intOf]; omega
  ·obtain rfl : i = 4 := by omega
   have HE : Hid (ptrN nr a = 4) := hp.out.symm.trans (ptrN_far (Nat.le_refl _))
   go_wp2_with fail; go_ret; exact ⟨by rw [HE.out]; rfl, HB.out⟩
end Go.Proofs.YtmgngapkgcofnabGreatDoor
namespace Go.Proofs.YtmgngapkgcofnabGreatDoor
open Go.RowKit Go.PlainAid
section
variable {w w' : World} {H : Nat} {B : Nat → Prop} {g : Nat} {p : PolD} {S : WardS} {A : Option Addr} {c : Nat} {Ap : Option Addr} {cp : Nat} {m : Nat} {lv : Value} {bv sv : Nat → Value}
theorem WardRep.setMem (R : WardRep w H B g p S A c Ap cp m lv bv sv) (hB : B g) (hl : ∀ k, B k → H ≤ k) (hok : S.ok) {M : MemS} (hb : But m w w') (hm : MemAt w' B m M) : WardAt w' H B g p (S.setM M) ∧ Frame B w w' := by
 have hg := grown_but hb; have hmB := R.mem.base; obtain ⟨_, _, C, sp, h3, _, _⟩ := R.mem; have h3' : w.heap[m]? = some (.cells (rowOf 532 C) 161 (0, 0)) := h3; have hH : H ≤ w.heap.size := by have := R.lt; have := hl g hB; omega
 have hbl : Below H w w' := Below.of_grown hg (fun b e => by simp only [Option.some.injEq] at e; subst e; exact hl m hmB) hH
 refine ⟨⟨hB, hl, ⟨hok.thr, hok.few⟩, A, c, Ap, cp, m, lv, bv, sv, ⟨(hb.block g R.lt (fun e => R.ne e.symm)).trans R.blk, R.pol.low hbl, R.prg.below hbl, hm, R.ne, fun n hn => (R.buf n hn).grown hg ((R.buf n hn).apart h3' (by decide)), fun n hn => (R.sea n hn).grown hg ((R.sea n hn).apart h3' (by decide)), R.log.grown hg (R.log.apart h3' (by decide)), R.apb, R.aps⟩⟩, Frame.of_but hb hmB⟩
end
set_option linter.unusedSimpArgs false in
set_option maxRecDepth 100000 in
set_option maxHeartbeats 2000000 in
theorem wardMap_any (H : Nat) (B : Nat → Prop) (g : Nat) (p : PolD) (S : WardS) (n : Int) (wr : Bool) (w : World) (h : WardAt w H B g p S) :
  Calls Tryz.prog 17 #[.pointer (some ⟨g, 0, none⟩), .int .i64 n, .bool wr] w fun e w' => e = .returned (errV (mapE n)) ∧ WardAt w' H B g p (S.setM (mapS S.m n wr)) ∧ Frame B w w' := by
 obtain ⟨hB, hl, hok, A, c, Ap, cp, m, lv, bv, sv, R⟩ := h; obtain ⟨_, _, _, _, c4, _⟩ := R.head
 have HC : Hid (Calls Tryz.prog 42 #[.pointer (some ⟨m, 0, none⟩), .int .i64 n, .bool wr] w fun e w' => e = .returned (errV (mapE n)) ∧ WardAt w' H B g p (S.setM (mapS S.m n wr)) ∧ Frame B w w') :=
  (memMap_any m B S.m n wr w R.mem).mono fun e w' ⟨h1, h2, h3⟩ => ⟨h1, R.setMem hB hl hok h3 h2⟩
 clear R hB hl hok; go_enter Tryz.func17, Tryz.ntmps17
 go_wp2_with (go_at_call 42; refine cargs (by simp [Act.eval]) (HC.out.mono ?_); rintro e w1 ⟨rfl, h1⟩)
 go_ret; exact ⟨rfl, h1⟩
set_option linter.unusedSimpArgs false in
set_option maxRecDepth 100000 in
set_option maxHeartbeats 2000000 in
theorem wardUnmap_any (H : Nat) (B : Nat → Prop) (g : Nat) (p : PolD) (S : WardS) (n : Int) (w : World) (h : WardAt w H B g p S) :
  Calls Tryz.prog 49 #[.pointer (some ⟨g, 0, none⟩), .int .i64 n] w fun e w' => e = .returned (errV (unmapE S.m n)) ∧ WardAt w' H B g p (S.setM (unmapS S.m n)) ∧ Frame B w w' := by
 obtain ⟨hB, hl, hok, A, c, Ap, cp, m, lv, bv, sv, R⟩ := h; obtain ⟨_, _, _, _, c4, _⟩ := R.head
 have HC : Hid (Calls Tryz.prog 103 #[.pointer (some ⟨m, 0, none⟩), .int .i64 n] w fun e w' => e = .returned (errV (unmapE S.m n)) ∧ WardAt w' H B g p (S.setM (unmapS S.m n)) ∧ Frame B w w') :=
  (memUnmap_any m B S.m n w R.mem).mono fun e w' ⟨h1, h2, h3⟩ => ⟨h1, R.setMem hB hl hok h3 h2⟩
 clear R hB hl hok; go_enter Tryz.func49, Tryz.ntmps49
 go_wp2_with (go_at_call 103; refine cargs (by simp [Act.eval]) (HC.out.mono ?_); rintro e w1 ⟨rfl, h1⟩)
 go_ret; exact ⟨rfl, h1⟩
set_option linter.unusedSimpArgs false in
set_option maxRecDepth 100000 in
set_option maxHeartbeats 2000000 in
theorem wardPut_any (H : Nat) (B : Nat → Prop) (g : Nat) (p : PolD) (S : WardS) (a : Nat) (s : ByteArray) (w : World) (h : WardAt w H B g p S) (hs : s.size ≤ 4096) :
  Calls Tryz.prog 51 #[.pointer (some ⟨g, 0, none⟩), .int .u64 a, .string s] w fun e w' => e = .returned (errV (putE S.m a s.size)) ∧ WardAt w' H B g p (S.setM (putS S.m a s)) ∧ Frame B w w' := by
 obtain ⟨hB, hl, hok, A, c, Ap, cp, m, lv, bv, sv, R⟩ := h; obtain ⟨_, _, _, _, c4, _⟩ := R.head
 have HC : Hid (Calls Tryz.prog 104 #[.pointer (some ⟨m, 0, none⟩), .int .u64 a, .string s] w fun e w' => e = .returned (errV (putE S.m a s.size)) ∧ WardAt w' H B g p (S.setM (putS S.m a s)) ∧ Frame B w w') :=
  (memPut_any m B S.m a s w R.mem hs).mono fun e w' ⟨h1, h2, h3⟩ => ⟨h1, R.setMem hB hl hok h3 h2⟩
 clear R hB hl hok; go_enter Tryz.func51, Tryz.ntmps51
 go_wp2_with (go_at_call 104; refine cargs (by simp [Act.eval]) (HC.out.mono ?_); rintro e w1 ⟨rfl, h1⟩)
 go_ret; exact ⟨rfl, h1⟩
set_option linter.unusedSimpArgs false in
set_option maxRecDepth 100000 in
set_option maxHeartbeats 2000000 in
theorem wardPhase_any (H : Nat) (B : Nat → Prop) (g : Nat) (p : PolD) (S : WardS) (n : Int) (w : World) (h : WardAt w H B g p S) :
  Calls Tryz.prog 29 #[.pointer (some ⟨g, 0, none⟩), .int .i64 n] w fun e w' => e = .returned (.int .i64 (phaseF S n)) ∧ w = w' := by
 by_cases h1 : n < 0 ∨ 3 ≤ n
 ·have HP : Hid (phaseF S n = 6) := if_pos h1; clear h
  by_cases h2 : n < 0
  ·clear h1; go_enter Tryz.func29, Tryz.ntmps29
   go_wp2_with fail; go_ret; exact ⟨by rw [HP.out]; rfl, rfl⟩
  ·have h3 : 3 ≤ n := by omega
   clear h1; go_enter Tryz.func29, Tryz.ntmps29
   go_wp2_with fail; go_ret; exact ⟨by rw [HP.out]; rfl, rfl⟩
 ·obtain ⟨k, rfl⟩ : ∃ k : Nat, n = k := ⟨n.toNat, by omega⟩
  have hk : k < 3 := by omega
  have HP : Hid (phaseF S k = (S.t k).phase) := by show _ = _; unfold phaseF; rw [if_neg h1]; simp
  obtain ⟨hB, hl, hok, A, c, Ap, cp, m, lv, bv, sv, R⟩ := h; have c0 := R.thr hk (j := 0) rfl; have y1 : ¬ (k : Int) < 0 := by omega
  have y2 : ¬ (3 : Int) ≤ (k : Int) := by omega
  have y3 : (0 : Int) ≤ (k : Int) := by omega
  have y4 : (k : Int) < 3 := by omega
  clear R h1; generalize (S.t k).phase = ph at *
  simp only [Nat.add_zero] at c0; go_enter Tryz.func29, Tryz.ntmps29
  go_wp2_with fail; go_ret; exact ⟨by rw [HP.out]; rfl, rfl⟩
end Go.Proofs.YtmgngapkgcofnabGreatDoor
