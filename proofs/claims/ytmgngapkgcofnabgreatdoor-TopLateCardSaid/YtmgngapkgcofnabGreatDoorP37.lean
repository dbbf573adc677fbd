/- ward.value: the walk. -/
import Derived.Test.YtmgngapkgcofnabGreatDoorP36
namespace Go.Proofs.YtmgngapkgcofnabGreatDoor
open Go.RowKit Go.PlainAid
theorem readT_is (f : Nat → Option Int) (a : Nat) : ∀ k (l : List Int), k + l.length = 41 → 0 < k → textR f a k l = .tuple #[.string (readT f a k l).2, errV (readT f a k l).1] ∧ ((readT f a k l).1 = 0 ∨ (readT f a k l).1 = 5 ∨ (readT f a k l).1 = 6) ∧ (readT f a k l).2.size ≤ 40 := by
 intro k
 induction k with
 | zero => intro l _ h; omega
 | succ k ih =>
  intro l hl _; unfold textR readT
  cases f ((a + l.length) % 18446744073709551616) with
  | none => exact ⟨rfl, .inr (.inl rfl), by simp [ByteArray.size]⟩
  | some v =>
   simp only
   by_cases h1 : v = 0
   ·rw [if_pos h1, if_pos h1]; exact ⟨rfl, .inl rfl, by rw [strOfNums_size]; omega⟩
   ·rw [if_neg h1, if_neg h1]
    by_cases h2 : l.length = 40
    ·rw [if_pos h2, if_pos h2]; exact ⟨rfl, .inr (.inr rfl), by simp [ByteArray.size]⟩
    ·rw [if_neg h2, if_neg h2]; refine ih _ (by simp; omega) ?_
     by_cases h : k = 0
     ·subst h; omega
     ·omega
theorem textV_is (m : MemS) (a : Nat) : textV (byteS m) a = .tuple #[.string (textF m a).2, errV (textF m a).1] ∧ ((textF m a).1 = 0 ∨ (textF m a).1 = 5 ∨ (textF m a).1 = 6) ∧ (textF m a).2.size ≤ 40 := readT_is (byteS m) a 41 [] rfl (by omega)
theorem getV_is (m : MemS) (a : Nat) : getV (byteS m) a 16 = .tuple #[.string (getF m a).2, errV (getF m a).1] ∧ ((getF m a).1 = 0 ∨ (getF m a).1 = 5) ∧ (getF m a).2.size ≤ 16 := by
 unfold getF getV; rw [if_neg (by omega)]; have e : (16 : Int).toNat = 16 := rfl; rw [e]
 cases h : readL (byteS m) a 16 with
 | none => exact ⟨rfl, .inr rfl, by simp [ByteArray.size]⟩
 | some l => exact ⟨rfl, .inl rfl, by rw [strOfNums_size, readL_length h]; omega⟩
set_option linter.unusedSimpArgs false in
set_option maxRecDepth 100000 in
set_option maxHeartbeats 4000000 in
theorem wardValue_any (m : Nat) (B : Nat → Prop) (M : MemS) (kind : Int) (a : Nat) (w : World) (h : MemAt w B m M) :
  Calls Tryz.prog 102 #[.pointer (some ⟨m, 0, none⟩), .int .i64 kind, .int .u64 a] w fun e w' => e = .returned (.tuple #[.agg #[.string (valueF M kind a).2.path, .int .u32 (valueF M kind a).2.ip, .int .i64 (valueF M kind a).2.port], errV (valueF M kind a).1]) ∧ Below w.heap.size w w' := by
 have HB0 : Hid (∀ o, Below w.heap.size w (w.alloc o)) := fun o => (Below.refl _ _).alloc (Nat.le_refl _) o; obtain ⟨z, hz, hzz⟩ : ∃ z, z = w.heap.size ∧ True := ⟨_, rfl, trivial⟩
 have HST : Hid (∀ (W : World) (c0 c1 c2 d0 d1 d2 : Value), W.heap[w.heap.size]? = some (.cells #[c0, c1, c2] 76 (0, 0)) → Below w.heap.size w W → (W.cell? ⟨w.heap.size, 0, none⟩ = some c0 ∧ W.cell? ⟨w.heap.size, 1, none⟩ = some c1 ∧ W.cell? ⟨w.heap.size, 2, none⟩ = some c2 ∧ W.frozen? ⟨w.heap.size, 0, none⟩ = false ∧ W.frozen? ⟨w.heap.size, 1, none⟩ = false ∧ W.frozen? ⟨w.heap.size, 2, none⟩ = false) ∧
   Below w.heap.size w (((W.setCell ⟨w.heap.size, 0, none⟩ d0).setCell ⟨w.heap.size, 1, none⟩ d1).setCell ⟨w.heap.size, 2, none⟩ d2)) := fun W c0 c1 c2 d0 d1 d2 hc hb =>
  ⟨⟨(cell_of_row _ _ _ _ _ _ hc).trans rfl, (cell_of_row _ _ _ _ _ _ hc).trans rfl, (cell_of_row _ _ _ _ _ _ hc).trans rfl, frozen_of_row _ _ _ _ _ hc, frozen_of_row _ _ _ _ _ hc, frozen_of_row _ _ _ _ _ hc⟩,
   ((hb.setCell (p := ⟨w.heap.size, 0, none⟩) (by simp) _).setCell (p := ⟨w.heap.size, 1, none⟩) (by simp) _).setCell (p := ⟨w.heap.size, 2, none⟩) (by simp) _⟩
 clear hz hzz z; have HM : Hid (∀ W, Below w.heap.size w W → MemAt W B m M) := fun W hb => h.below hb (Nat.le_refl _); have hnew := heap_alloc_new w (.cells #[.string ⟨#[]⟩, .int .u32 0, .int .i64 0] 76)
 have HN : Hid (∀ W, Below (w.heap.size + 1) (w.alloc (.cells #[.string ⟨#[]⟩, .int .u32 0, .int .i64 0] 76)) W → W.heap[w.heap.size]? = some (.cells #[.string ⟨#[]⟩, .int .u32 0, .int .i64 0] 76 (0, 0))) := fun W hb => (hb.block w.heap.size (by omega)).trans hnew; have HSZ : Hid ((w.alloc (.cells #[.string ⟨#[]⟩, .int .u32 0, .int .i64 0] 76)).heap.size = w.heap.size + 1) := by show _ = _; simp
 clear hnew h
 by_cases h2 : kind = 2
 ·subst h2; obtain ⟨t1, t2, t3⟩ := textV_is M a; have HV : Hid (valueF M 2 a = ((textF M a).1, ⟨(textF M a).2, 0, 0⟩)) := if_pos rfl
  have HC : Hid (∀ W, Below w.heap.size w W → Calls Tryz.prog 150 #[.pointer (some ⟨m, 0, none⟩), .int .u64 a] W fun e w' => e = .returned (.tuple #[.string (textF M a).2, errV (textF M a).1]) ∧ Below W.heap.size W w') := fun W hb => by
   have := memText_any m B M a W (HM.out W hb); rw [t1] at this; exact this
  rw [HV.out]; simp only; generalize (textF M a).2 = sx at *
  generalize errV (textF M a).1 = ev at *
  clear t1 t2 t3 HM HV; go_enter Tryz.func102, Tryz.ntmps102
  go_upto_region 3 with (first
   | (go_at_call 150; refine cargs (by simp [Act.eval]) ((HC.out _ (HB0.out _)).mono ?_); rintro e w1 ⟨rfl, hb1⟩; have HB1 := Lib.hid ((HB0.out _).trans (hb1.mono (by simp))); have HN1 := Lib.hid (HN.out _ (by have := HSZ.out; rw [← this]; exact hb1)); clear hb1)
   | fail)
  obtain ⟨⟨y0, y1, y2, z0, z1, z2⟩, hb2⟩ := HST.out w1 _ _ _ (.string sx) (.int .u32 0) (.int .i64 0) HN1.out HB1.out; have HB2 := Lib.hid hb2; clear hb2
  go_wp2_with fail
  try simp only [Exit.inBlock, Exit.then]
  refine bodyPost_ret (by simp [results, Tryz.results102, go_sem, y0, y1, y2]; try rfl) rfl ?_; exact ⟨rfl, HB2.out⟩
 ·obtain ⟨t1, t2, _⟩ := getV_is M a; have d2 : decide (kind = 2) = false := decide_eq_false h2
  have HC : Hid (∀ W, Below w.heap.size w W → Calls Tryz.prog 151 #[.pointer (some ⟨m, 0, none⟩), .int .u64 a, .int .i64 16] W fun e w' => e = .returned (.tuple #[.string (getF M a).2, errV (getF M a).1]) ∧ Below W.heap.size W w') := fun W hb => by
   have := memGet_any m B M a 16 W (HM.out W hb); rw [t1] at this; exact this
  have HVE : Hid (valueF M kind a = if (getF M a).1 ≠ 0 then ((getF M a).1, zeroVal) else match readA (getF M a).2 with
   | none => (3, zeroVal)
   | some (ip, port) => (0, ⟨⟨#[]⟩, ip, port⟩)) := if_neg h2
  by_cases hf : (getF M a).1 = 0
  ·have e0 := HVE.out; rw [if_neg (by rw [hf]; simp)] at e0; rw [hf, errV_zero] at HC; generalize (getF M a).2 = sx at *
   have HR : Hid (∀ W, Calls Tryz.prog 99 #[.string sx] W fun e w' => e = readE (readA sx) ∧ Below W.heap.size W w') := fun W => read_any sx W
   obtain ⟨ip, port, f, h3, h4⟩ : ∃ (ip port : Int) (f : Int), readE (readA sx) = .returned (.tuple #[.int .u32 ip, .int .i64 port, errV f]) ∧ valueF M kind a = (f, ⟨⟨#[]⟩, ip, port⟩) := by
    rw [e0]
    cases hr : readA sx with
    | none => exact ⟨0, 0, 3, rfl, rfl⟩
    | some q => obtain ⟨ip, port⟩ := q; exact ⟨ip, port, 0, rfl, rfl⟩
   rw [h3] at HR; rw [h4]; simp only; generalize errV f = ev at *
   clear t1 t2 HM HVE e0 h3 h4 hf; go_enter Tryz.func102, Tryz.ntmps102
   go_upto_region 7 with (first
    | (go_at_call 151; refine cargs (by simp [Act.eval]) ((HC.out _ (HB0.out _)).mono ?_); rintro e w1 ⟨rfl, hb1⟩; have HB1 := Lib.hid ((HB0.out _).trans (hb1.mono (by simp))); have HBN1 : Hid (Below (w.heap.size + 1) (w.alloc (.cells #[.string ⟨#[]⟩, .int .u32 0, .int .i64 0] 76)) w1) := (by show Below _ _ _; have := HSZ.out; rw [← this]; exact hb1); clear hb1)
    | fail)
   go_upto_region 8 with (first
    | (go_at_call 99; refine cargs (by simp [Act.eval]) ((HR.out _).mono ?_); rintro e w2 ⟨rfl, hb2⟩; have HN1 := Lib.hid (HN.out _ (HBN1.out.trans (hb2.mono (by have := HBN1.out.size; have := HSZ.out; omega)))); have HB3 := Lib.hid (HB1.out.trans (hb2.mono HB1.out.size)); clear hb2)
    | fail)
   obtain ⟨⟨y0, y1, y2, z0, z1, z2⟩, hb2⟩ := HST.out w2 _ _ _ (.string ⟨#[]⟩) (.int .u32 ip) (.int .i64 port) HN1.out HB3.out; have HB2 := Lib.hid hb2; clear hb2
   go_wp2_with fail
   try simp only [Exit.inBlock, Exit.then]
   refine bodyPost_ret (by simp [results, Tryz.results102, go_sem, y0, y1, y2]; try rfl) rfl ?_; exact ⟨rfl, HB2.out⟩
  ·have h3 : valueF M kind a = ((getF M a).1, zeroVal) := by have := HVE.out; rw [if_pos hf] at this; exact this
   rw [h3]; simp only [zeroVal]; rw [errV_pos hf] at HC ⊢; generalize (getF M a).2 = sx at *
   generalize (getF M a).1 = fx at *
   clear t1 t2 HM HVE h3 hf; go_enter Tryz.func102, Tryz.ntmps102
   go_upto_region 6 with (first
    | (go_at_call 151; refine cargs (by simp [Act.eval]) ((HC.out _ (HB0.out _)).mono ?_); rintro e w1 ⟨rfl, hb1⟩; have HB1 := Lib.hid ((HB0.out _).trans (hb1.mono (by simp))); have HN1 := Lib.hid (HN.out _ (by have := HSZ.out; rw [← this]; exact hb1)); clear hb1)
    | fail)
   obtain ⟨⟨y0, y1, y2, z0, z1, z2⟩, hb2⟩ := HST.out w1 _ _ _ (.string ⟨#[]⟩) (.int .u32 0) (.int .i64 0) HN1.out HB1.out; have HB2 := Lib.hid hb2; clear hb2
   go_wp2_with fail
   try simp only [Exit.inBlock, Exit.then]
   refine bodyPost_ret (by simp [results, Tryz.results102, go_sem, y0, y1, y2]; try rfl) rfl ?_; exact ⟨rfl, HB2.out⟩
end Go.Proofs.YtmgngapkgcofnabGreatDoor
namespace Go.Proofs.YtmgngapkgcofnabGreatDoor
open Go.RowKit Go.PlainAid
section
variable {w w1 w' : World} {H : Nat} {B : Nat → Prop} {g : Nat} {p : PolD} {S : WardS} {A : Option Addr} {c : Nat} {Ap : Option Addr} {cp : Nat} {m : Nat} {lv : Value} {bv sv : Nat → Value}
theorem ap_upd {f : Nat → Value} {n : Nat} {v : Value} (hf : ∀ i k, i < 3 → k < 3 → i ≠ k → (f i).ownBlock = none ∨ (f i).ownBlock ≠ (f k).ownBlock) (hv : ∀ k, k < 3 → k ≠ n → (f k).ownBlock = none ∨ (v.ownBlock ≠ (f k).ownBlock)) (hv2 : ∀ k, k < 3 → k ≠ n → v.ownBlock = none ∨ v.ownBlock ≠ (f k).ownBlock) :
  ∀ i k, i < 3 → k < 3 → i ≠ k → ((fun k => if k = n then v else f k) i).ownBlock = none ∨ ((fun k => if k = n then v else f k) i).ownBlock ≠ ((fun k => if k = n then v else f k) k).ownBlock := by
 intro i k hi hk hik
 by_cases e1 : i = n
 ·have e2 : k ≠ n := fun e => hik (e1.trans e.symm); simp only [if_pos e1, if_neg e2]; exact hv2 k hk e2
 ·by_cases e2 : k = n
  ·simp only [if_neg e1, if_pos e2]; exact (hv i hi e1).imp id (fun h e => h e.symm)
  ·simp only [if_neg e1, if_neg e2]; exact hf i k hi hk hik
theorem WardAt.bufNil (h : WardAt w H B g p S) {n : Nat} (hn : n < 3) {T : ThrS} (hT : ∀ b s, thrCells T (.slice none 0 0) s = (thrCells (S.t n) b s).set 14 (.slice none 0 0)) (hb : T.buf = []) (hs : T.seals = (S.t n).seals) (hok : T.ok) :
  WardAt (w.setCell ⟨g, 5 + n * 28 + 14, none⟩ (.slice none 0 0)) H B g p (S.setT n T) := by
 obtain ⟨hB, hl, hok0, A, c, Ap, cp, m, lv, bv, sv, R⟩ := h; obtain ⟨k1, k2, k3, k4, k5, k6⟩ := R.beside hl hB (grow1 w g (5 + n * 28 + 14) (.slice none 0 0)); have hblk := (R.blk.set (5 + n * 28 + 14) (.slice none 0 0)).same (wardCell_set _ _ _ _ _ hn (by omega) (.slice none 0 0) T (.slice none 0 0) (sv n) (hT _ _)); rw [ifn sv n] at hblk
 refine ⟨hB, hl, ok_setT hok0 hok, A, c, Ap, cp, m, lv, fun k => if k = n then .slice none 0 0 else bv k, sv, ⟨hblk, k1, k2, k3, R.ne, fun k hk => ?_, fun k hk => ?_, k6, ap_upd R.apb (fun k hk hkn => ?_) (fun k hk hkn => .inl rfl), R.aps⟩⟩
 ·rw [setT_t]; split
  ·rw [hb]; exact RowB.nil _ _ _ _
  ·exact k4 k hk
 ·rw [setT_t]; split
  ·rename_i e; subst e; rw [hs]; exact k5 k hk
  ·exact k5 k hk
 ·cases hx : (bv k).ownBlock with
  | none => exact .inl rfl
  | some y => exact .inr (by simp [Value.ownBlock])
theorem fresh_ne {v : Value} {e : TypeId} {s k : Nat} {xs : List Value} (h : RowB w B e s v k xs) {g1 : Nat} (hg : w.heap.size ≤ g1) : v.ownBlock = none ∨ some g1 ≠ v.ownBlock := by
 cases hx : v.ownBlock with
 | none => exact .inl rfl
 | some y =>
  have := h.lt y hx; exact .inr (fun e => by simp only [Option.some.injEq] at e; omega)
theorem WardAt.bufPut (h : WardAt w H B g p S) {n : Nat} (hn : n < 3) (hBs : ∀ k, w.heap.size ≤ k → B k) {bn : Value} {b : Int} {T : ThrS}
  (hbn : w.cell? ⟨g, 5 + n * 28 + 14, none⟩ = some bn) :
  RowB w B 5 1 bn (S.t n).buf.length (u8s (S.t n).buf) ∧ ∀ {w1 : World} {g1 cap : Nat},
  w1.ownsRow 0 5 1 (.slice (some ⟨g1, 0, none⟩) ((S.t n).buf.length + 1) cap) ((S.t n).buf.length + 1) (u8s (S.t n).buf ++ [.int .u8 b]) → w.grownBy w1 bn.ownBlock → (bn.ownBlock = some g1 ∨ w.heap.size ≤ g1) →
  (∀ b0 s v, thrCells T v s = (thrCells (S.t n) b0 s).set 14 v) → T.buf = (S.t n).buf ++ [b] → T.seals = (S.t n).seals → T.ok →
  (w1.cell? ⟨g, 5 + n * 28 + 14, none⟩ = some bn ∧ w1.frozen? ⟨g, 5 + n * 28 + 14, none⟩ = false) ∧ WardAt (w1.setCell ⟨g, 5 + n * 28 + 14, none⟩ (.slice (some ⟨g1, 0, none⟩) ((S.t n).buf.length + 1) cap)) H B g p (S.setT n T) ∧ Frame B w (w1.setCell ⟨g, 5 + n * 28 + 14, none⟩ (.slice (some ⟨g1, 0, none⟩) ((S.t n).buf.length + 1) cap)) := by
 obtain ⟨hB, hl, hok0, A, c, Ap, cp, m, lv, bv, sv, R⟩ := h; have e0 := R.thr hn (j := 14) rfl; rw [hbn] at e0; simp only [Option.some.injEq] at e0; subst e0; refine ⟨R.buf n hn, ?_⟩; intro w1 g1 cap hown hg hat hT hb hs hok; have hchg := (R.buf n hn).chg; obtain ⟨k1, k2, k3, k4⟩ := R.body hl hB hg hchg (by decide) (by decide) (by decide)
 have hblk0 : w.heap[g]? = some (.cells _ 102 (0, 0)) := R.blk; have hblk1 := k1.trans hblk0; have hs1 : H ≤ w1.heap.size := by have := R.lt; have := hl g hB; have := hg.size; omega
 have hb1 : BlkAt w1 g 102 90 _ := k1.trans R.blk; have hlow := low_set hl hB hs1 (5 + n * 28 + 14) (.slice (some ⟨g1, 0, none⟩) ((S.t n).buf.length + 1) cap); have hnew := own_new (w := w) hown (R.buf n hn).2 hBs hat
 refine ⟨⟨(World.cell?_of_block (a := ⟨g, _, none⟩) k1).trans hbn, (World.frozen?_of_block (a := ⟨g, _, none⟩) k1).trans (R.frozen _)⟩, ?_, (Frame.of_grown hg (R.buf n hn).2).trans (Frame.set w1 hB _ _)⟩
 have hblk := (hb1.set (5 + n * 28 + 14) (.slice (some ⟨g1, 0, none⟩) ((S.t n).buf.length + 1) cap)).same (wardCell_set _ _ _ _ _ hn (by omega) _ T (.slice (some ⟨g1, 0, none⟩) ((S.t n).buf.length + 1) cap) (sv n) (hT _ _ _)); rw [ifn sv n] at hblk
 refine ⟨hB, hl, ok_setT hok0 hok, A, c, Ap, cp, m, lv, fun k => if k = n then .slice (some ⟨g1, 0, none⟩) ((S.t n).buf.length + 1) cap else bv k, sv, ⟨hblk, k2.low hlow, k3.below hlow, k4.grown (grow1 w1 g _ _) (fun b er => ?_), R.ne, fun k hk => ?_, fun k hk => ?_, (R.log.other hg hchg (by decide)).set hblk1 (by decide) _ _, ap_upd R.apb (fun k hk hkn => ?_) (fun k hk hkn => ?_), R.aps⟩⟩
 ·simp only [Option.some.injEq] at er; subst er; exact ⟨_, _, hblk1, by decide, by decide⟩
 ·rw [setT_t]
  by_cases e : k = n
  ·rw [if_pos e, if_pos e, hb, List.length_append]; have e2 : u8s ((S.t n).buf ++ [b]) = u8s (S.t n).buf ++ [.int .u8 b] := by rw [u8s, List.map_append]; rfl
   rw [e2]; exact hnew.set hblk1 (by decide) _ _
  ·rw [if_neg e, if_neg e]
   exact ((R.buf k hk).grown hg (fun b2 hb2 er => by
    rcases R.apb k n hk hn e with h1 | h1
    ·rw [h1] at hb2; cases hb2
    ·exact h1 (hb2.trans er.symm))).set hblk1 (by decide) _ _
 ·rw [setT_t]; split
  ·rename_i e; subst e; rw [hs]; exact ((R.sea k hk).other hg hchg (by decide)).set hblk1 (by decide) _ _
  ·exact ((R.sea k hk).other hg hchg (by decide)).set hblk1 (by decide) _ _
 ·rcases hat with h1 | h1
  ·show _ ∨ some g1 ≠ _; rw [← h1]; exact (R.apb k n hk hn hkn).imp id (fun h e => h e.symm)
  ·exact fresh_ne (R.buf k hk) h1
 ·rcases hat with h1 | h1
  ·show _ ∨ some g1 ≠ _; right; rw [← h1]; rcases R.apb n k hn hk (fun e => hkn e.symm) with h2 | h2
   ·rw [h2] at h1; cases h1
   ·exact h2
  ·right; show some g1 ≠ _; rcases fresh_ne (R.buf k hk) h1 with h2 | h2
   ·rw [h2]; simp
   ·exact h2
theorem WardAt.seaPut (h : WardAt w H B g p S) {n : Nat} (hn : n < 3) (hBs : ∀ k, w.heap.size ≤ k → B k) {sn : Value} {a : Nat} {T : ThrS}
  (hsn : w.cell? ⟨g, 5 + n * 28 + 27, none⟩ = some sn) :
  RowB w B 42 1 sn (S.t n).seals.length (u64s (S.t n).seals) ∧ ∀ {w1 : World} {g1 cap : Nat},
  w1.ownsRow 0 42 1 (.slice (some ⟨g1, 0, none⟩) ((S.t n).seals.length + 1) cap) ((S.t n).seals.length + 1) (u64s (S.t n).seals ++ [.int .u64 (a : Int)]) → w.grownBy w1 sn.ownBlock → (sn.ownBlock = some g1 ∨ w.heap.size ≤ g1) →
  (∀ b s0 v, thrCells T b v = (thrCells (S.t n) b s0).set 27 v) → T.seals = (S.t n).seals ++ [a] → T.buf = (S.t n).buf → T.ok →
  (w1.cell? ⟨g, 5 + n * 28 + 27, none⟩ = some sn ∧ w1.frozen? ⟨g, 5 + n * 28 + 27, none⟩ = false) ∧ WardAt (w1.setCell ⟨g, 5 + n * 28 + 27, none⟩ (.slice (some ⟨g1, 0, none⟩) ((S.t n).seals.length + 1) cap)) H B g p (S.setT n T) ∧ Frame B w (w1.setCell ⟨g, 5 + n * 28 + 27, none⟩ (.slice (some ⟨g1, 0, none⟩) ((S.t n).seals.length + 1) cap)) := by
 obtain ⟨hB, hl, hok0, A, c, Ap, cp, m, lv, bv, sv, R⟩ := h; have e0 := R.thr hn (j := 27) rfl; rw [hsn] at e0; simp only [Option.some.injEq] at e0; subst e0; refine ⟨R.sea n hn, ?_⟩; intro w1 g1 cap hown hg hat hT hs hb hok; have hchg := (R.sea n hn).chg; obtain ⟨k1, k2, k3, k4⟩ := R.body hl hB hg hchg (by decide) (by decide) (by decide)
 have hblk0 : w.heap[g]? = some (.cells _ 102 (0, 0)) := R.blk; have hblk1 := k1.trans hblk0; have hs1 : H ≤ w1.heap.size := by have := R.lt; have := hl g hB; have := hg.size; omega
 have hb1 : BlkAt w1 g 102 90 _ := k1.trans R.blk; have hlow := low_set hl hB hs1 (5 + n * 28 + 27) (.slice (some ⟨g1, 0, none⟩) ((S.t n).seals.length + 1) cap); have hnew := own_new (w := w) hown (R.sea n hn).2 hBs hat
 refine ⟨⟨(World.cell?_of_block (a := ⟨g, _, none⟩) k1).trans hsn, (World.frozen?_of_block (a := ⟨g, _, none⟩) k1).trans (R.frozen _)⟩, ?_, (Frame.of_grown hg (R.sea n hn).2).trans (Frame.set w1 hB _ _)⟩
 have hblk := (hb1.set (5 + n * 28 + 27) (.slice (some ⟨g1, 0, none⟩) ((S.t n).seals.length + 1) cap)).same (wardCell_set _ _ _ _ _ hn (by omega) _ T (bv n) (.slice (some ⟨g1, 0, none⟩) ((S.t n).seals.length + 1) cap) (hT _ _ _)); rw [ifn bv n] at hblk
 refine ⟨hB, hl, ok_setT hok0 hok, A, c, Ap, cp, m, lv, bv, fun k => if k = n then .slice (some ⟨g1, 0, none⟩) ((S.t n).seals.length + 1) cap else sv k, ⟨hblk, k2.low hlow, k3.below hlow, k4.grown (grow1 w1 g _ _) (fun b er => ?_), R.ne, fun k hk => ?_, fun k hk => ?_, (R.log.other hg hchg (by decide)).set hblk1 (by decide) _ _, R.apb, ap_upd R.aps (fun k hk hkn => ?_) (fun k hk hkn => ?_)⟩⟩
 ·simp only [Option.some.injEq] at er; subst er; exact ⟨_, _, hblk1, by decide, by decide⟩
 ·rw [setT_t]; split
  ·rename_i e; subst e; rw [hb]; exact ((R.buf k hk).other hg hchg (by decide)).set hblk1 (by decide) _ _
  ·exact ((R.buf k hk).other hg hchg (by decide)).set hblk1 (by decide) _ _
 ·rw [setT_t]
  by_cases e : k = n
  ·rw [if_pos e, if_pos e, hs, List.length_append]; have e2 : u64s ((S.t n).seals ++ [a]) = u64s (S.t n).seals ++ [.int .u64 (a : Int)] := by rw [u64s, List.map_append]; rfl
   rw [e2]; exact hnew.set hblk1 (by decide) _ _
  ·rw [if_neg e, if_neg e]
   exact ((R.sea k hk).grown hg (fun b2 hb2 er => by
    rcases R.aps k n hk hn e with h1 | h1
    ·rw [h1] at hb2; cases hb2
    ·exact h1 (hb2.trans er.symm))).set hblk1 (by decide) _ _
 ·rcases hat with h1 | h1
  ·show _ ∨ some g1 ≠ _; rw [← h1]; exact (R.aps k n hk hn hkn).imp id (fun h e => h e.symm)
  ·exact fresh_ne (R.sea k hk) h1
 ·rcases hat with h1 | h1
  ·show _ ∨ some g1 ≠ _; right; rw [← h1]; rcases R.aps n k hn hk (fun e => hkn e.symm) with h2 | h2
   ·rw [h2] at h1; cases h1
   ·exact h2
  ·right; show some g1 ≠ _; rcases fresh_ne (R.sea k hk) h1 with h2 | h2
   ·rw [h2]; simp
   ·exact h2
end
end Go.Proofs.YtmgngapkgcofnabGreatDoor
