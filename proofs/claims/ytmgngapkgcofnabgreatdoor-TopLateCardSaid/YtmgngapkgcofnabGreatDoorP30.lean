/- Package mem: Seal: the walk. -/
import Derived.Test.YtmgngapkgcofnabGreatDoorP12
namespace Go.Proofs.YtmgngapkgcofnabGreatDoor
open Go.RowKit Go.PlainAid
def ffF (S : MemS) : Nat → Nat → Option Nat
 | 0, _ => none
 | n + 1, i => if (S.sl i).isSome then ffF S n (i + 1) else some i
def MemS.sealAt (S : MemS) (i : Nat) (f : Nat → Int) : MemS := ⟨S.p, fun j => if j = i then some f else S.sl j⟩
def sealX (S : MemS) (s : ByteArray) : Int × Int := if 64 < s.size then (0, 1) else match ffF S 4 0 with
 | some i => ((((8 + i) * 64 : Nat) : Int), (0 : Int))
 | none => (0, 9)
def sealS (S : MemS) (s : ByteArray) : MemS := if 64 < s.size then S else match ffF S 4 0 with
 | some i => S.sealAt i (bt s)
 | none => S
theorem ffF_lt {S : MemS} : ∀ {n i k : Nat}, ffF S n i = some k → i ≤ k ∧ k < i + n ∧ (S.sl k).isSome = false := by
 intro n
 induction n with
 | zero => intro i k h; simp [ffF] at h
 | succ n ih =>
  intro i k h; rw [ffF] at h; split at h
  ·have := ih h; exact ⟨by omega, by omega, this.2.2⟩
  ·rename_i h1; obtain rfl : i = k := Option.some.inj h; exact ⟨by omega, by omega, by simpa using h1⟩
theorem sealAt_ok {S : MemS} (h : S.ok) (i : Nat) {f : Nat → Int} (hf : ∀ k, 0 ≤ f k ∧ f k ≤ 255) : (S.sealAt i f).ok := by
 refine ⟨h.1, fun j g hg => ?_⟩; unfold MemS.sealAt at hg; simp only at hg; split at hg
 ·obtain rfl : f = g := Option.some.inj hg; exact hf
 ·exact h.2 j g hg
theorem memCell_sealAt {S : MemS} {sp : Nat → Option Nat} {C : Nat → Value} (hC : ∀ i, i < 532 → C i = memCell S sp i) {i : Nat} (hi : i < 4) (g : Nat) (f : Nat → Int) :
  ∀ j, j < 532 → setV C (528 + i) (.pointer (some ⟨g, 0, none⟩)) j = memCell (S.sealAt i f) (fun k => if k = i then some g else sp k) j := by
 intro j hj; unfold setV
 by_cases h : j = 528 + i
 ·subst h; rw [if_pos rfl, memCell_seal hi]; simp
 ·rw [if_neg h, hC j hj]; unfold memCell MemS.sealAt
  by_cases h3 : j < 528
  ·rw [if_pos h3, if_pos h3]
  ·rw [if_neg h3, if_neg h3]; simp only; rw [if_neg (by omega)]
def zero64 : Array Value := rowOf 64 fun _ => .int .u8 0
theorem zero64_of : (Tryz.prog.info? 108).bind (·.zero) = some (.agg zero64) := by kernel_rfl
theorem u8_size1 : ∀ w, (Go.sizeOf 5).run Tryz.prog w = .ok 1 w := fun w => by
 have h : (Tryz.prog.info? 5).map (·.size) = some 1 := by kernel_rfl
 cases hq : Tryz.prog.info? 5 with
 | none => simp [hq] at h
 | some i => simp [sizeOf, typeInfo, hq]; simpa [hq] using h
theorem bytes_bt (s : ByteArray) : ∀ i, i < 64 → setVs (fun _ => Value.int .u8 0) 0 (s.data.toList.map fun x => Value.int .u8 (x.toNat : Int)) i = .int .u8 (bt s i) := by
 intro i _; have hl : (s.data.toList.map fun x => Value.int .u8 (x.toNat : Int)).length = s.size := by simp
 unfold setVs; rw [hl]
 by_cases h : i < s.size
 ·rw [if_pos (by omega), List.getD_eq_getElem?_getD, Nat.sub_zero, List.getElem?_map]
  have h2 : s.data.toList[i]? = some s[i] := by
   rw [Array.getElem?_toList, Array.getElem?_eq_getElem (by simpa using h)]; rfl
  rw [h2]; simp [bt, h]
 ·rw [if_neg (by omega)]; simp [bt, h]
theorem BlkAt.via {w w' : World} {b t n H : Nat} {C : Nat → Value} (h : BlkAt w b t n C) (hb : Below H w w') (hH : b < H) : BlkAt w' b t n C := (hb.block b hH).trans h
theorem seal_world (w : World) (s : ByteArray) (hs : s.size ≤ 64) : ∃ W vs, s.data.toList.map (fun x => Value.int .u8 (x.toNat : Int)) = vs ∧ (w.alloc (.cells zero64 108)).setCells w.heap.size 0 vs = W ∧ (w.alloc (.cells zero64 108)).there w.heap.size 0 s.size ∧
  BlkAt W w.heap.size 108 64 (fun k => .int .u8 (bt s k)) ∧ Below w.heap.size w W ∧ W.heap.size = w.heap.size + 1 := by
 have h0 : BlkAt (w.alloc (.cells zero64 108)) w.heap.size 108 64 (fun _ => .int .u8 0) := heap_alloc_new _ _; refine ⟨_, _, rfl, rfl, h0.there (by omega), ?_, ?_, ?_⟩
 ·have h1 := BlkAt.sets (s.data.toList.map fun x => Value.int .u8 (x.toNat : Int)) h0 0; unfold BlkAt at h1 ⊢; rw [h1, rowOf_congr (bytes_bt s)]
 ·have h2 : But w.heap.size (w.alloc (.cells zero64 108)) ((w.alloc (.cells zero64 108)).setCells w.heap.size 0 (s.data.toList.map fun x => Value.int .u8 (x.toNat : Int))) := (But.refl _ _).setCells _ _; exact ((Below.refl _ _).alloc (Nat.le_refl _) _).trans (h2.below (Nat.le_refl _) (by simp))
 ·have : ∀ (vs : List Value) (W : World) (b k : Nat), (W.setCells b k vs).heap.size = W.heap.size := by
   intro vs
   induction vs with
   | nil => intro W b k; rfl
   | cons v r ih => intro W b k; rw [World.setCells, ih]; simp [World.setCell]
  rw [this]; simp
set_option linter.unusedSimpArgs false in
set_option maxRecDepth 100000 in
set_option maxHeartbeats 2000000 in
theorem memSeal_any (m : Nat) (B : Nat → Prop) (S : MemS) (s : ByteArray) (w : World) (h : MemAt w B m S) (hB : ∀ g, w.heap.size ≤ g → B g) :
  Calls Tryz.prog 101 #[.pointer (some ⟨m, 0, none⟩), .string s] w fun e w' => e = .returned (.tuple #[.int .u64 (sealX S s).1, errV (sealX S s).2]) ∧ MemAt w' B m (sealS S s) ∧ But m w w' := by
 by_cases h64 : 64 < s.size
 ·have HE : Hid (Value.tuple #[.int .u64 (sealX S s).1, errV (sealX S s).2] = .tuple #[.int .u64 0, .iface 105 (.int .i64 1)]) := by show _ = _; unfold sealX; rw [if_pos h64]; rfl
  have HS : Hid (sealS S s = S) := if_pos h64; have H := Lib.hid h; have x1 : (64 : Int) < (s.size : Int) := by omega
  clear h h64; go_enter Tryz.func101, Tryz.ntmps101
  go_wp2_with fail
  go_ret2
  exact ⟨by rw [HE.out]; rfl, by rw [HS.out]; exact H.out, But.refl _ _⟩
 ·have H := Lib.hid h; have hBm := Lib.hid h.base; obtain ⟨C, sp, hblk, hC, hse⟩ := h.rep; have hms := hblk.lt; have c0 : w.cell? ⟨m, 528, none⟩ = some (ptrV (sp 0)) := by rw [hblk.cell (i := 528) (by omega), hC _ (by omega)]; exact congrArg some (memCell_seal (i := 0) (by omega))
  have c1 : w.cell? ⟨m, 529, none⟩ = some (ptrV (sp 1)) := by rw [hblk.cell (i := 529) (by omega), hC _ (by omega)]; exact congrArg some (memCell_seal (i := 1) (by omega))
  have c2 : w.cell? ⟨m, 530, none⟩ = some (ptrV (sp 2)) := by rw [hblk.cell (i := 530) (by omega), hC _ (by omega)]; exact congrArg some (memCell_seal (i := 2) (by omega))
  have c3 : w.cell? ⟨m, 531, none⟩ = some (ptrV (sp 3)) := by rw [hblk.cell (i := 531) (by omega), hC _ (by omega)]; exact congrArg some (memCell_seal (i := 3) (by omega))
  have HI : Hid (∀ (w : World) (k : Nat), k < 4 → (Instr.index 159 (.agg #[ptrV (sp 0), ptrV (sp 1), ptrV (sp 2), ptrV (sp 3)]) (.int .i64 k)).run Tryz.prog w = .ok (ptrV (sp k)) w) := fun w k hk => run_index4 w sp k hk
  have HSE : Hid (∀ k, k < 4 → (sp k).isSome = (S.sl k).isSome) := by
   intro k hk; have := hse k hk; unfold SealAt at this; split at this
   ·rename_i e1 e2; rw [e1, e2]; rfl
   ·rename_i e1 e2; rw [e1, e2]; rfl
   ·exact this.elim
  obtain ⟨W, vs, hvs, hW, hth, hblk2, hbel, hsz⟩ := seal_world w s (by omega); have hblk1 : BlkAt W m 161 532 C := hblk.via hbel hms
  have HK : Hid (∀ k, k < 4 → MemAt (W.setCell ⟨m, 528 + k, none⟩ (.pointer (some ⟨w.heap.size, 0, none⟩))) B m (S.sealAt k (bt s)) ∧ But m w (W.setCell ⟨m, 528 + k, none⟩ (.pointer (some ⟨w.heap.size, 0, none⟩))) ∧ (∃ v, W.cell? ⟨m, 528 + k, none⟩ = some v) ∧ W.frozen? ⟨m, 528 + k, none⟩ = false) := by
   intro k hk; have hbut : But m w (W.setCell ⟨m, 528 + k, none⟩ (.pointer (some ⟨w.heap.size, 0, none⟩))) := (But.of_below hbel).setCell _ _; refine ⟨⟨h.base, sealAt_ok h.ok k (bt_range s), _, _, hblk1.set (528 + k) _, memCell_sealAt hC hk w.heap.size (bt s), fun j hj => ?_⟩, hbut, ⟨_, hblk1.cell (by omega)⟩, hblk1.frozen _⟩
   by_cases e : j = k
   ·subst e; simp only [MemS.sealAt, if_true]; refine ⟨hB _ (Nat.le_refl _), by omega, ?_⟩; exact (((But.refl m W).setCell (528 + j) (.pointer (some ⟨w.heap.size, 0, none⟩))).block w.heap.size (by omega) (by omega)).trans hblk2
   ·simp only [MemS.sealAt, if_neg e]; exact (hse j hj).but hbut
  have HTH := Lib.hid hth; have HW := Lib.hid hW; have HV := Lib.hid hvs
  have HS1 : Hid (sealS S s = match ffF S 4 0 with
   | some i => S.sealAt i (bt s)
   | none => S) := if_neg h64
  have HX1 : Hid (sealX S s = match ffF S 4 0 with
   | some i => ((((8 + i) * 64 : Nat) : Int), (0 : Int))
   | none => (0, 9)) := if_neg h64
  have x1 : ¬ (64 : Int) < (s.size : Int) := by omega
  have x0 : s.size ≤ 64 := by omega
  have HZ64 := Lib.hid zero64_of; clear hblk hC hse h h64 hth hW hvs hblk1 hblk2; generalize ptrV (sp 0) = P0 at *
  generalize ptrV (sp 1) = P1 at *
  generalize ptrV (sp 2) = P2 at *
  generalize ptrV (sp 3) = P3 at *
  generalize zero64 = Z at *
  go_enter Tryz.func101, Tryz.ntmps101
  go_wp2_with fail
  go_loop [16] (fun iv => ∃ k : Nat, k ≤ 4 ∧ iv = .int .i64 k ∧ Hid (ffF S 4 0 = ffF S (4 - k) k)) (fun iv => 4 - (intOf iv).toNat)
  case atStart => exact ⟨0, Nat.zero_le _, rfl, rfl⟩
  case round =>
   obtain ⟨k, hk, rfl, hF⟩ := hrel
   by_cases hlt : k < 4
   ·have x1 : (k : Int) < 4 := by omega
    have x2 : (0 : Int) ≤ (k : Int) := by omega
    have hix := fun w : World => HI.out w k hlt; have hse := HSE.out k hlt; obtain ⟨n, hn⟩ : ∃ n, 4 - k = n + 1 := ⟨4 - k - 1, by omega⟩
    have hF1 : ffF S 4 0 = if (S.sl k).isSome then ffF S n (k + 1) else some k := by rw [hF.out, hn, ffF]
    cases hsp : sp k with
    | some g =>
     rw [hsp] at hix hse; have hF2 : Hid (ffF S 4 0 = ffF S (4 - (k + 1)) (k + 1)) := by show _ = _; rw [hF1, ← hse, show 4 - (k + 1) = n from by omega]; rfl
     clear hse hsp hF hF1; simp only [ptrV, Option.map_some] at hix
     go_wp2_with fail; go_round
     case rel => exact ⟨k + 1, by omega, by go_num, hF2⟩
     case measure => simp [intOf]; omega
    | none =>
     rw [hsp] at hix hse; have hF2 : ffF S 4 0 = some k := by rw [hF1, ← hse]; rfl
     have HS2 : Hid (sealS S s = S.sealAt k (bt s)) := by show _ = _; rw [HS1.out, hF2]
     have HX2 : Hid (sealX S s = ((((8 + k) * 64 : Nat) : Int), (0 : Int))) := by show _ = _; rw [HX1.out, hF2]
     obtain ⟨k1, k2, ⟨v0, k3⟩, k4⟩ := HK.out k hlt; have K1 := Lib.hid k1; have K2 := Lib.hid k2; clear hse hsp hF hF1 hF2 k1 k2; simp only [ptrV, Option.map_none] at hix
     go_wp2_with (first
      | (refine wpList_allocTo rfl 108 rfl (some 22) rfl w.heap.size rfl (.agg Z) HZ64.out Z rfl ?_)
      | (refine wpList_copyStr rfl (.tmp 25) (.tmp 26) _ _ 5 rfl Tryz.underlying96 u8_size1 w.heap.size 0 64 64 s (by simp [Act.eval]) (by simp [Act.eval]) x0 HTH.out (some 27) rfl vs HV.out ?_; rw [HW.out]))
     go_ret2
     refine ⟨?_, ?_, ?_⟩
     ·rw [HX2.out, show (((8 + k) * 64 : Nat) : Int) = (8 + (k : Int)) * 64 from by omega]; rfl
     ·rw [HS2.out]; exact K1.out
     ·exact K2.out
   ·obtain rfl : k = 4 := by omega
    have hF2 : ffF S 4 0 = none := hF.out; have HE : Hid (Value.tuple #[.int .u64 (sealX S s).1, errV (sealX S s).2] = .tuple #[.int .u64 0, .iface 105 (.int .i64 9)]) := by show _ = _; rw [HX1.out, hF2]; rfl
    have HS2 : Hid (sealS S s = S) := by show _ = _; rw [HS1.out, hF2]
    clear hF hF2
    go_wp2_with fail
    go_ret2
    exact ⟨by rw [HE.out]; rfl, by rw [HS2.out]; exact H.out, But.refl _ _⟩
end Go.Proofs.YtmgngapkgcofnabGreatDoor
namespace Go.Proofs.YtmgngapkgcofnabGreatDoor
open Go.RowKit Go.PlainAid
theorem setVs_all (C D : Nat → Value) (n : Nat) : ∀ i, i < n → setVs D 0 (rowOf n C).toList i = C i := by
 intro i hi; unfold setVs; have hl : (rowOf n C).toList.length = n := by rw [Array.length_toList, rowOf_size]
 rw [hl, if_pos (by omega), List.getD_eq_getElem?_getD, Nat.sub_zero, Array.getElem?_toList, rowOf_at _ hi]; rfl
theorem row_world (w : World) (t n : Nat) (C : Nat → Value) (Z : Array Value) (hZ : Z.size = n) : ∃ W, (w.alloc (.cells Z t)).setCells w.heap.size 0 (rowOf n C).toList = W ∧ (w.alloc (.cells Z t)).there w.heap.size 0 (rowOf n C).size ∧
  BlkAt W w.heap.size t n C ∧ Below w.heap.size w W ∧ W.heap.size = w.heap.size + 1 := by
 have h0 : BlkAt (w.alloc (.cells Z t)) w.heap.size t n (fun i => Z.getD i undef) := by
  have := heap_alloc_new w (.cells Z t); unfold BlkAt; rw [this, ← hZ, rowOf_of]
 refine ⟨_, rfl, ?_, ?_, ?_, ?_⟩
 ·rw [rowOf_size]; exact h0.there (by omega)
 ·have h1 := BlkAt.sets (rowOf n C).toList h0 0; unfold BlkAt at h1 ⊢; rw [h1, rowOf_congr (setVs_all C _ n)]
 ·have h2 : But w.heap.size (w.alloc (.cells Z t)) ((w.alloc (.cells Z t)).setCells w.heap.size 0 (rowOf n C).toList) := (But.refl _ _).setCells _ _; exact ((Below.refl _ _).alloc (Nat.le_refl _) _).trans (h2.below (Nat.le_refl _) (by simp))
 ·have : ∀ (vs : List Value) (W : World) (b k : Nat), (W.setCells b k vs).heap.size = W.heap.size := by
   intro vs
   induction vs with
   | nil => intro W b k; rfl
   | cons v r ih => intro W b k; rw [World.setCells, ih]; simp [World.setCell]
  rw [this]; simp
theorem BlkAt.range {w : World} {b t n : Nat} {C : Nat → Value} (h : BlkAt w b t n C) : w.rangeAt b 0 (rowOf n C).toList := by
 intro j v hv
 have hj : j < n := by
  have := (List.getElem?_eq_some_iff.1 hv).1
  rwa [Array.length_toList, rowOf_size] at this
 rw [Nat.zero_add, h.cell hj]; rw [Array.getElem?_toList, rowOf_at _ hj] at hv; exact hv
theorem mem_info : (Tryz.prog.info? 161).map (·.size) = some 532 := by kernel_rfl
theorem b64_info : (Tryz.prog.info? 108).map (·.size) = some 64 := by kernel_rfl
theorem memCell_one (S : MemS) (sp : Nat → Option Nat) (i : Nat) : (memCell S sp i).oneCell' = true := by
 unfold memCell; split
 ·split
  ·rfl
  ·split <;> rfl
 ·rfl
theorem rowOf_one {n : Nat} {C : Nat → Value} (h : ∀ i, i < n → (C i).oneCell' = true) : (rowOf n C).all (·.oneCell') = true := by
 rw [Array.all_eq_true]; intro i hi; simp only [rowOf, Array.getElem_map, Array.getElem_range]; exact h i (by simpa [rowOf] using hi)
theorem zero64_size : zero64.size = 64 := rowOf_size _ _
structure CopyAt (w wr : World) (S : MemS) (sp : Nat → Option Nat) (k : Nat) : Prop where
 rep : ∃ (C : Nat → Value) (sq : Nat → Option Nat), BlkAt wr w.heap.size 161 532 C ∧ (∀ i, i < 532 → C i = memCell S sq i) ∧ (∀ i, i < k → SealAt wr (fun g => w.heap.size ≤ g) w.heap.size (sq i) (S.sl i)) ∧ ∀ i, k ≤ i → sq i = sp i
 below : Below w.heap.size w wr
 size : w.heap.size < wr.heap.size
theorem CopyAt.drew {w wr : World} {S : MemS} {sp : Nat → Option Nat} {k : Nat} (h : CopyAt w wr S sp k) (n : Nat) : CopyAt w (wr.drewN n) S sp k := by
 obtain ⟨⟨C, sq, h1, h2, h3, h4⟩, h5, h6⟩ := h; refine ⟨⟨C, sq, h1, h2, fun i hi => ?_, h4⟩, ⟨h5.os, h5.tape, h5.output, h5.size, h5.block⟩, h6⟩; have := h3 i hi; unfold SealAt at *
 split at this <;> exact this
theorem memCell_page {S : MemS} {sq : Nat → Option Nat} {C : Nat → Value} (hC : ∀ i, i < 532 → C i = memCell S sq i) {k : Nat} (g : Nat) :
  ∀ j, j < 532 → setV C (528 + k) (.pointer (some ⟨g, 0, none⟩)) j = memCell S (fun i => if i = k then some g else sq i) j := by
 intro j hj; unfold setV memCell
 by_cases h : j = 528 + k
 ·subst h; rw [if_pos rfl, if_neg (by omega), show 528 + k - 528 = k from by omega]; simp
 ·rw [if_neg h, hC j hj]; unfold memCell
  by_cases h3 : j < 528
  ·rw [if_pos h3, if_pos h3]
  ·rw [if_neg h3, if_neg h3]; simp only; rw [if_neg (by omega)]
theorem CopyAt.skip {w wr : World} {S : MemS} {sp : Nat → Option Nat} {k : Nat} (h : CopyAt w wr S sp k) (h1 : sp k = none) (h2 : S.sl k = none) : CopyAt w wr S sp (k + 1) := by
 obtain ⟨⟨C, sq, g1, g2, g3, g4⟩, h5, h6⟩ := h; refine ⟨⟨C, sq, g1, g2, fun i hi => ?_, fun i hi => g4 i (by omega)⟩, h5, h6⟩
 by_cases e : i = k
 ·subst e; rw [g4 i (Nat.le_refl _), h1, h2]; trivial
 ·exact g3 i (by omega)
theorem CopyAt.next {w wr W : World} {S : MemS} {sp : Nat → Option Nat} {k : Nat} (h : CopyAt w wr S sp k) (hk : k < 4) {f : Nat → Int} (h2 : S.sl k = some f)
  (hW : BlkAt W wr.heap.size 108 64 (fun i => .int .u8 (f i))) (hb : Below wr.heap.size wr W) (hs : W.heap.size = wr.heap.size + 1) :
  CopyAt w (W.setCell ⟨w.heap.size, 528 + k, none⟩ (.pointer (some ⟨wr.heap.size, 0, none⟩))) S sp (k + 1) ∧ (∃ v, W.cell? ⟨w.heap.size, 528 + k, none⟩ = some v) ∧ W.frozen? ⟨w.heap.size, 528 + k, none⟩ = false := by
 obtain ⟨⟨C, sq, g1, g2, g3, g4⟩, h5, h6⟩ := h; have g5 : BlkAt W w.heap.size 161 532 C := g1.via hb h6; have hbut : But w.heap.size wr (W.setCell ⟨w.heap.size, 528 + k, none⟩ (.pointer (some ⟨wr.heap.size, 0, none⟩))) := (But.of_below hb).setCell _ _; refine ⟨⟨⟨_, _, g5.set (528 + k) _, memCell_page g2 wr.heap.size, fun i hi => ?_, fun i hi => ?_⟩, ?_, ?_⟩, ⟨_, g5.cell (by omega)⟩, g5.frozen _⟩
 ·by_cases e : i = k
  ·subst e; simp only [if_true]; rw [h2]; refine ⟨by omega, by omega, ?_⟩; exact (((But.refl w.heap.size W).setCell (528 + i) (.pointer (some ⟨wr.heap.size, 0, none⟩))).block wr.heap.size (by omega) (by omega)).trans hW
  ·simp only [if_neg e]; exact (g3 i (by omega)).but hbut
 ·show (if i = k then some wr.heap.size else sq i) = sp i; rw [if_neg (by omega)]; exact g4 i (by omega)
 ·exact h5.trans (hbut.below (Nat.le_refl _) (by omega))
 ·simp [World.setCell]; omega
set_option linter.unusedSimpArgs false in
set_option maxRecDepth 100000 in
set_option maxHeartbeats 2000000 in
theorem memCopy_any (m : Nat) (B : Nat → Prop) (S : MemS) (w : World) (h : MemAt w B m S) :
  Calls Tryz.prog 41 #[.pointer (some ⟨m, 0, none⟩)] w fun e w' => e = .returned (.pointer (some ⟨w.heap.size, 0, none⟩)) ∧ MemAt w' (fun g => w.heap.size ≤ g) w.heap.size S ∧ Below w.heap.size w w' := by
 have hok := Lib.hid h.ok; obtain ⟨C, sp, hblk, hC, hse⟩ := h.rep; have hms := hblk.lt; have HI : Hid (∀ (w : World) (k : Nat), k < 4 → (Instr.index 159 (.agg #[ptrV (sp 0), ptrV (sp 1), ptrV (sp 2), ptrV (sp 3)]) (.int .i64 k)).run Tryz.prog w = .ok (ptrV (sp k)) w) := fun w k hk => run_index4 w sp k hk
 obtain ⟨W, hW, hth, hblk2, hbel, hsz⟩ := row_world w 161 532 C Tryz.zeroCells161 Tryz.zeroCells161_size; have hblk1 : BlkAt W m 161 532 C := hblk.via hbel hms; have c0 : W.cell? ⟨m, 528, none⟩ = some (ptrV (sp 0)) := by rw [hblk1.cell (i := 528) (by omega), hC _ (by omega)]; exact congrArg some (memCell_seal (i := 0) (by omega))
 have c1 : W.cell? ⟨m, 529, none⟩ = some (ptrV (sp 1)) := by rw [hblk1.cell (i := 529) (by omega), hC _ (by omega)]; exact congrArg some (memCell_seal (i := 1) (by omega))
 have c2 : W.cell? ⟨m, 530, none⟩ = some (ptrV (sp 2)) := by rw [hblk1.cell (i := 530) (by omega), hC _ (by omega)]; exact congrArg some (memCell_seal (i := 2) (by omega))
 have c3 : W.cell? ⟨m, 531, none⟩ = some (ptrV (sp 3)) := by rw [hblk1.cell (i := 531) (by omega), hC _ (by omega)]; exact congrArg some (memCell_seal (i := 3) (by omega))
 have HC0 : Hid (CopyAt w W S sp 0) := ⟨⟨C, sp, hblk2, hC, fun i hi => absurd hi (Nat.not_lt_zero i), fun _ _ => rfl⟩, hbel, by omega⟩
 have hone : (rowOf 532 C).all (·.oneCell') = true := rowOf_one fun i hi => by rw [hC i hi]; exact memCell_one S sp i
 have hrng := hblk.range; have hlen : (rowOf 532 C).toList.length = 532 := by rw [Array.length_toList, rowOf_size]
 have HRNG := Lib.hid hrng; have HONE := Lib.hid hone; have HTH := Lib.hid hth; have HW := Lib.hid hW; have HLEN := Lib.hid hlen; have HSZ : Hid ((rowOf 532 C).size = 532) := rowOf_size _ _; have HSE : Hid (∀ i, i < 4 → SealAt w B m (sp i) (S.sl i)) := hse; clear hblk hC hse h hblk1 hblk2 hrng hone hth hW hlen; have HZ64 := Lib.hid zero64_of; have HZS := Lib.hid zero64_size
 generalize zero64 = Z at *
 generalize hP0 : ptrV (sp 0) = P0 at *
 generalize hP1 : ptrV (sp 1) = P1 at *
 generalize hP2 : ptrV (sp 2) = P2 at *
 generalize hP3 : ptrV (sp 3) = P3 at *
 clear hP0 hP1 hP2 hP3; obtain ⟨R, hR⟩ : ∃ R, R = rowOf 532 C := ⟨_, rfl⟩
 rw [← hR] at HRNG HONE HTH HW HLEN HSZ; clear hR; go_enter Tryz.func41, Tryz.ntmps41
 go_upto_region 2 with (first
  | (refine wpList_load_mid rfl 161 (.tmp 8) rfl m 0 (by simp [Act.eval]) R.toList _ HRNG.out Tryz.underlying161 rfl (by rw [HLEN.out]; exact mem_info) ?_)
  | (refine wpList_store_mid rfl 161 (.tmp 3) (.tmp 9) rfl w.heap.size 0 R (by simp [Act.eval, Act.put]) (by simp [Act.eval, Act.put]) HTH.out (by rw [HSZ.out]; exact mem_info) HONE.out ?_; rw [HW.out]))
 go_wp2_with fail
 go_loopw [14] (fun iv wr => ∃ k : Nat, k ≤ 4 ∧ iv = .int .i64 k ∧ Hid (CopyAt w wr S sp k)) (fun iv _ => 4 - (intOf iv).toNat)
 case atStart => exact ⟨0, Nat.zero_le _, rfl, HC0⟩
 case round =>
  obtain ⟨k, hk, rfl, hCP⟩ := hrel
  by_cases hlt : k < 4
  ·have x1 : (k : Int) < 4 := by omega
   have x2 : (0 : Int) ≤ (k : Int) := by omega
   have hix := fun w : World => HI.out w k hlt; have hse := HSE.out k hlt
   cases hsp : sp k with
   | none =>
    cases hsl : S.sl k with
    | some f => rw [hsp, hsl] at hse; exact hse.elim
    | none =>
     rw [hsp] at hix; have HN := Lib.hid (hCP.out.skip hsp hsl); clear hse hsp hsl hCP; simp only [ptrV, Option.map_none] at hix
     go_wp2_with fail; go_roundw
     case rel => exact ⟨k + 1, by omega, by go_num, HN⟩
     case measure => simp [intOf]; omega
   | some g =>
    cases hsl : S.sl k with
    | none => rw [hsp, hsl] at hse; exact hse.elim
    | some f =>
     rw [hsp] at hix; rw [hsp, hsl] at hse; have hgb : BlkAt wr g 108 64 (fun i => .int .u8 (f i)) := hse.2.2.via hCP.out.below hse.2.2.lt; obtain ⟨W2, hW2, hth2, hblk3, hbel2, hsz2⟩ := row_world wr 108 64 (fun i => .int .u8 (f i)) Z HZS.out; obtain ⟨n1, ⟨v0, n2⟩, n3⟩ := hCP.out.next hlt hsl hblk3 hbel2 hsz2; have HN := Lib.hid n1; have hrng2 := Lib.hid hgb.range; have HW2 := Lib.hid hW2
     have HTH2 := Lib.hid hth2; have hR2 : Hid ((rowOf 64 fun i => Value.int .u8 (f i)).toList.length = 64) := by show _ = _; rw [Array.length_toList, rowOf_size]
     have hS2 : Hid ((rowOf 64 fun i => Value.int .u8 (f i)).size = 64) := rowOf_size _ _; have hO2 : Hid ((rowOf 64 fun i => Value.int .u8 (f i)).all (·.oneCell') = true) := rowOf_one fun _ _ => rfl; have hcs := hCP.out.size; clear hse hsp hsl hCP n1 hgb hW2 hth2 hblk3 hbel2 hsz2; generalize (rowOf 64 fun i => Value.int .u8 (f i)) = R2 at *
     simp only [ptrV, Option.map_some] at hix
     go_upto_region 7 with (first
      | (refine wpList_load_mid rfl 108 (.tmp 21) rfl g 0 (by simp [Act.eval]) R2.toList _ hrng2.out Tryz.underlying108 rfl (by rw [hR2.out]; exact b64_info) ?_)
      | (refine wpList_allocTo rfl 108 rfl (some 6) rfl wr.heap.size rfl (.agg Z) HZ64.out Z rfl ?_)
      | (refine wpList_store_mid rfl 108 (.tmp 6) (.tmp 22) rfl wr.heap.size 0 R2 (by simp [Act.eval, Act.put]) (by simp [Act.eval, Act.put]) HTH2.out (by rw [hS2.out]; exact b64_info) hO2.out ?_; rw [HW2.out]))
     go_wp2_with fail; go_roundw
     case rel => exact ⟨k + 1, by omega, by go_num, HN⟩
     case measure => simp [intOf]; omega
  ·obtain rfl : k = 4 := by omega
   obtain ⟨C', sq, q1, q2, q3, q4⟩ := hCP.out.rep; have HM : Hid (MemAt wr (fun g => w.heap.size ≤ g) w.heap.size S) := ⟨Nat.le_refl _, hok.out, C', sq, q1, q2, q3⟩
   have HB := Lib.hid hCP.out.below; clear hCP q1 q2 q3 q4
   go_wp2_with fail; go_ret; exact ⟨rfl, HM.out, HB.out⟩
end Go.Proofs.YtmgngapkgcofnabGreatDoor
