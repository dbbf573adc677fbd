/- Package mem: New, Map, Unmap: the walks. -/
import Derived.Test.YtmgngapkgcofnabGreatDoorP01
import Derived.Deep.DeepCutAuto
import Derived.Great.BuildSlice
import Derived.Laws.Rows
namespace Go.Proofs.YtmgngapkgcofnabGreatDoor
open Go.RowKit
structure PageS where
 b : Nat → Int
 read : Bool
 write : Bool
structure MemS where
 p : Nat → PageS
 sl : Nat → Option (Nat → Int)
def MemS.new : MemS := ⟨fun _ => ⟨fun _ => 0, false, false⟩, fun _ => none⟩
def MemS.ok (S : MemS) : Prop := (∀ n k, 0 ≤ (S.p n).b k ∧ (S.p n).b k ≤ 255) ∧ ∀ i f, S.sl i = some f → ∀ k, 0 ≤ f k ∧ f k ≤ 255
def MemS.map (S : MemS) (k : Nat) (wr : Bool) : MemS := ⟨fun n => if n = k then ⟨if (S.p k).read then (S.p k).b else fun _ => 0, true, wr⟩ else S.p n, S.sl⟩
def MemS.unmap (S : MemS) (k : Nat) : MemS := ⟨fun n => if n = k then ⟨fun _ => 0, false, false⟩ else S.p n, S.sl⟩
def memCell (S : MemS) (sp : Nat → Option Nat) (i : Nat) : Value :=
 if i < 528 then (if i % 66 < 64 then .int .u8 ((S.p (i / 66)).b (i % 66)) else if i % 66 = 64 then .bool (S.p (i / 66)).read else .bool (S.p (i / 66)).write)
 else .pointer ((sp (i - 528)).map fun g => ⟨g, 0, none⟩)
def SealAt (w : World) (B : Nat → Prop) (m : Nat) : Option Nat → Option (Nat → Int) → Prop
 | none, none => True
 | some g, some f => B g ∧ g ≠ m ∧ BlkAt w g 108 64 (fun k => .int .u8 (f k))
 | _, _ => False
structure MemAt (w : World) (B : Nat → Prop) (m : Nat) (S : MemS) : Prop where
 base : B m
 ok : S.ok
 rep : ∃ (C : Nat → Value) (sp : Nat → Option Nat), BlkAt w m 161 532 C ∧ (∀ i, i < 532 → C i = memCell S sp i) ∧ ∀ i, i < 4 → SealAt w B m (sp i) (S.sl i)
theorem SealAt.but {w w' : World} {B : Nat → Prop} {m : Nat} {a : Option Nat} {b : Option (Nat → Int)} (h : SealAt w B m a b) (hb : But m w w') : SealAt w' B m a b := by
 unfold SealAt at *
 split at h
 ·trivial
 ·rename_i g f; exact ⟨h.1, h.2.1, (hb.block g h.2.2.lt h.2.1).trans h.2.2⟩
 ·exact h.elim
theorem memCell_byte {S : MemS} {sp : Nat → Option Nat} {n k : Nat} (hn : n < 8) (hk : k < 64) : memCell S sp (n * 66 + k) = .int .u8 ((S.p n).b k) := by
 unfold memCell; rw [if_pos (by omega), if_pos (by omega), show (n * 66 + k) / 66 = n from by omega, show (n * 66 + k) % 66 = k from by omega]
theorem memCell_read {S : MemS} {sp : Nat → Option Nat} {n : Nat} (hn : n < 8) : memCell S sp (n * 66 + 64) = .bool (S.p n).read := by
 unfold memCell; rw [if_pos (by omega), if_neg (by omega), if_pos (by omega), show (n * 66 + 64) / 66 = n from by omega]
theorem memCell_write {S : MemS} {sp : Nat → Option Nat} {n : Nat} (hn : n < 8) : memCell S sp (n * 66 + 65) = .bool (S.p n).write := by
 unfold memCell; rw [if_pos (by omega), if_neg (by omega), if_neg (by omega), show (n * 66 + 65) / 66 = n from by omega]
theorem memCell_seal {S : MemS} {sp : Nat → Option Nat} {i : Nat} (hi : i < 4) : memCell S sp (528 + i) = .pointer ((sp i).map fun g => ⟨g, 0, none⟩) := by
 unfold memCell; rw [if_neg (by omega), show 528 + i - 528 = i from by omega]
theorem memCell_map {S : MemS} {sp : Nat → Option Nat} {C : Nat → Value} (hC : ∀ i, i < 532 → C i = memCell S sp i) {k : Nat} (hk : k < 8) (wr : Bool) (hr : (S.p k).read = true) :
  ∀ i, i < 532 → setV (setV C (k * 66 + 64) (.bool true)) (k * 66 + 65) (.bool wr) i = memCell (S.map k wr) sp i := by
 intro i hi; unfold setV
 by_cases h1 : i = k * 66 + 65
 ·subst h1; rw [if_pos rfl, memCell_write hk]; simp [MemS.map]
 ·rw [if_neg h1]
  by_cases h2 : i = k * 66 + 64
  ·subst h2; rw [if_pos rfl, memCell_read hk]; simp [MemS.map]
  ·rw [if_neg h2, hC i hi]; unfold memCell MemS.map
   by_cases h3 : i < 528
   ·rw [if_pos h3, if_pos h3]
    by_cases h4 : i / 66 = k
    ·have h5 : i % 66 < 64 := by omega
     rw [if_pos h5, if_pos h5]; simp [h4, hr]
    ·simp [h4]
   ·rw [if_neg h3, if_neg h3]
theorem memCell_map0 {S : MemS} {sp : Nat → Option Nat} {C : Nat → Value} (hC : ∀ i, i < 532 → C i = memCell S sp i) {k : Nat} (hk : k < 8) (wr : Bool) (hr : (S.p k).read = false) :
  ∀ i, i < 532 → setV (setV (setVs C (k * 66) (List.replicate 64 (.int .u8 0))) (k * 66 + 64) (.bool true)) (k * 66 + 65) (.bool wr) i = memCell (S.map k wr) sp i := by
 intro i hi; unfold setV
 by_cases h1 : i = k * 66 + 65
 ·subst h1; rw [if_pos rfl, memCell_write hk]; simp [MemS.map]
 ·rw [if_neg h1]
  by_cases h2 : i = k * 66 + 64
  ·subst h2; rw [if_pos rfl, memCell_read hk]; simp [MemS.map]
  ·rw [if_neg h2]; unfold setVs
   by_cases h6 : k * 66 ≤ i ∧ i < k * 66 + 64
   ·rw [if_pos (by simpa using h6)]; unfold memCell MemS.map; rw [if_pos (by omega), if_pos (by omega)]; have h4 : i / 66 = k := by omega
    have h7 : i - k * 66 < 64 := by omega
    rw [List.getD_eq_getElem?_getD, List.getElem?_replicate, if_pos h7]; simp [h4, hr]
   ·rw [if_neg (by simpa using h6), hC i hi]; unfold memCell MemS.map
    by_cases h3 : i < 528
    ·rw [if_pos h3, if_pos h3]; have h4 : i / 66 ≠ k := by omega
     simp [h4]
    ·rw [if_neg h3, if_neg h3]
theorem map_ok {S : MemS} (h : S.ok) (k : Nat) (wr : Bool) : (S.map k wr).ok := by
 refine ⟨fun n j => ?_, h.2⟩; unfold MemS.map; simp only; split
 ·simp only; split
  ·exact h.1 k j
  ·simp
 ·exact h.1 n j
def mapE (n : Int) : Int := if n < 0 ∨ 8 ≤ n then 5 else 0
def mapS (S : MemS) (n : Int) (wr : Bool) : MemS := if n < 0 ∨ 8 ≤ n then S else S.map n.toNat wr
set_option linter.unusedSimpArgs false in
set_option maxRecDepth 100000 in
set_option maxHeartbeats 2000000 in
theorem memMap_any (m : Nat) (B : Nat → Prop) (S : MemS) (n : Int) (wr : Bool) (w : World) (h : MemAt w B m S) :
  Calls Tryz.prog 42 #[.pointer (some ⟨m, 0, none⟩), .int .i64 n, .bool wr] w fun e w' => e = .returned (errV (mapE n)) ∧ MemAt w' B m (mapS S n wr) ∧ But m w w' := by
 by_cases h1 : n < 0 ∨ 8 ≤ n
 ·have HE : Hid (errV (mapE n) = .iface 105 (.int .i64 5)) := by show _ = _; unfold mapE; rw [if_pos h1]; rfl
  have HS : Hid (mapS S n wr = S) := if_pos h1; have H := Lib.hid h; clear h
  by_cases h2 : n < 0
  ·go_enter Tryz.func42, Tryz.ntmps42
   go_wp2_with fail; go_ret; exact ⟨by rw [HE.out]; rfl, by rw [HS.out]; exact H.out, But.refl _ _⟩
  ·have h3 : 8 ≤ n := by omega
   clear h1; go_enter Tryz.func42, Tryz.ntmps42
   go_wp2_with fail; go_ret; exact ⟨by rw [HE.out]; rfl, by rw [HS.out]; exact H.out, But.refl _ _⟩
 ·obtain ⟨k, rfl⟩ : ∃ k : Nat, n = k := ⟨n.toNat, by omega⟩
  have HE : Hid (errV (mapE k) = .nilIface) := by show _ = _; unfold mapE; rw [if_neg h1]; rfl
  have HS : Hid (mapS S k wr = S.map k wr) := by show _ = _; unfold mapS; rw [if_neg h1]; simp
  have hk : k < 8 := by omega
  have y1 : ¬ (k : Int) < 0 := by omega
  have y2 : ¬ (8 : Int) ≤ (k : Int) := by omega
  have y3 : (0 : Int) ≤ (k : Int) := by omega
  have y4 : (k : Int) < 8 := by omega
  obtain ⟨hB, hok, C, sp, hblk, hC, hse⟩ := h; have c1 := hblk.cell (i := k * 66 + 64) (by omega); have c2 := hblk.cell (i := k * 66 + 65) (by omega); have f1 := hblk.frozen (k * 66 + 64); have f2 := hblk.frozen (k * 66 + 65); rw [hC _ (by omega), memCell_read hk] at c1; rw [hC _ (by omega), memCell_write hk] at c2; clear h1
  cases hr : (S.p k).read with
  | true =>
   rw [hr] at c1; have g1 := (hblk.set (k * 66 + 64) (.bool true)).set (k * 66 + 65) (.bool wr); have g2 := memCell_map hC hk wr hr; have g3 : But m w ((w.setCell ⟨m, k * 66 + 64, none⟩ (.bool true)).setCell ⟨m, k * 66 + 65, none⟩ (.bool wr)) := ((But.refl m w).setCell _ _).setCell _ _
   have HF : Hid (MemAt ((w.setCell ⟨m, k * 66 + 64, none⟩ (.bool true)).setCell ⟨m, k * 66 + 65, none⟩ (.bool wr)) B m (S.map k wr)) := ⟨hB, map_ok hok k wr, _, sp, g1, g2, fun i hi => (hse i hi).but g3⟩
   have HG := Lib.hid g3; clear g1 g2 g3 hse hC hblk hok hr; generalize (S.p k).write = v1 at *
   go_enter Tryz.func42, Tryz.ntmps42
   go_wp2_with fail; go_ret; exact ⟨by rw [HE.out]; rfl, by rw [HS.out]; exact HF.out, HG.out⟩
  | false =>
   rw [hr] at c1; obtain ⟨zs, hzs⟩ : ∃ zs, Hid (List.replicate 64 (Value.int .u8 0) = zs) := ⟨_, rfl⟩
   have hth := hblk.there (o := k * 66) (k := 64) (by omega); have g0 := BlkAt.sets zs hblk (k * 66); have g1 := (g0.set (k * 66 + 64) (.bool true)).set (k * 66 + 65) (.bool wr); have g2 := memCell_map0 hC hk wr hr; rw [hzs.out] at g2; have g4 : But m w (w.setCells m (k * 66) zs) := (But.refl m w).setCells _ _
   have g3 : But m w (((w.setCells m (k * 66) zs).setCell ⟨m, k * 66 + 64, none⟩ (.bool true)).setCell ⟨m, k * 66 + 65, none⟩ (.bool wr)) := (g4.setCell _ _).setCell _ _; have HF : Hid (MemAt (((w.setCells m (k * 66) zs).setCell ⟨m, k * 66 + 64, none⟩ (.bool true)).setCell ⟨m, k * 66 + 65, none⟩ (.bool wr)) B m (S.map k wr)) := ⟨hB, map_ok hok k wr, _, sp, g1, g2, fun i hi => (hse i hi).but g3⟩
   have HG := Lib.hid g3; have d1 := g0.frozen (k * 66 + 64); have d2 := g0.frozen (k * 66 + 65); have d3 := g0.cell (i := k * 66 + 64) (by omega); have d4 := g0.cell (i := k * 66 + 65) (by omega); have HTH := Lib.hid hth; have hz : (Tryz.prog.info? 5).bind (·.zero) = some (.int .u8 0) := by kernel_rfl
   have HZ := Lib.hid hz; generalize setVs C (k * 66) zs (k * 66 + 64) = v3 at *
   generalize setVs C (k * 66) zs (k * 66 + 65) = v4 at *
   generalize (S.p k).write = v1 at *
   clear g0 g1 g2 g3 g4 hse hC hblk hok hr hth hz; go_enter Tryz.func42, Tryz.ntmps42
   go_upto_region 6 with (refine wpList_clear rfl (.tmp 28) _ _ rfl Tryz.underlying96 HZ.out m (k * 66) 64 64 (by omega) (by simp [Act.eval]) HTH.out none rfl zs hzs.out ?_)
   generalize w.setCells m (k * 66) zs = W1 at *
   go_wp2_with fail; go_ret; exact ⟨by rw [HE.out]; rfl, by rw [HS.out]; exact HF.out, HG.out⟩
end Go.Proofs.YtmgngapkgcofnabGreatDoor
namespace Go.Proofs.YtmgngapkgcofnabGreatDoor
open Go.RowKit
def formsRow : Array Value := #[.string ⟨#[114, 101, 97, 100]⟩, .int .i64 1, .int .i64 1, .int .i64 0, .int .i64 0, .string ⟨#[119, 114, 105, 116, 101]⟩, .int .i64 1, .int .i64 1, .int .i64 0, .int .i64 0, .string ⟨#[111, 112, 101, 110]⟩, .int .i64 2, .int .i64 1, .int .i64 1, .int .i64 0, .string ⟨#[99, 108, 111, 115, 101]⟩, .int .i64 1, .int .i64 0, .int .i64 0, .int .i64 0, .string ⟨#[115, 116, 97, 116]⟩, .int .i64 2, .int .i64 0, .int .i64 0, .int .i64 0, .string ⟨#[114, 101, 110, 97, 109, 101]⟩, .int .i64 2, .int .i64 2, .int .i64 0, .int .i64 0, .string ⟨#[99, 111, 110, 110, 101, 99, 116]⟩, .int .i64 1, .int .i64 3, .int .i64 0, .int .i64 0, .string ⟨#[108, 105, 110, 107]⟩, .int .i64 2, .int .i64 2, .int .i64 1, .int .i64 0, .string ⟨#[115, 101, 110, 100]⟩, .int .i64 1, .int .i64 1, .int .i64 3, .int .i64 1]
def formsZero : Array Value := #[.string ⟨#[]⟩, .int .i64 0, .int .i64 0, .int .i64 0, .int .i64 0, .string ⟨#[]⟩, .int .i64 0, .int .i64 0, .int .i64 0, .int .i64 0, .string ⟨#[]⟩, .int .i64 0, .int .i64 0, .int .i64 0, .int .i64 0, .string ⟨#[]⟩, .int .i64 0, .int .i64 0, .int .i64 0, .int .i64 0, .string ⟨#[]⟩, .int .i64 0, .int .i64 0, .int .i64 0, .int .i64 0, .string ⟨#[]⟩, .int .i64 0, .int .i64 0, .int .i64 0, .int .i64 0, .string ⟨#[]⟩, .int .i64 0, .int .i64 0, .int .i64 0, .int .i64 0, .string ⟨#[]⟩, .int .i64 0, .int .i64 0, .int .i64 0, .int .i64 0, .string ⟨#[]⟩, .int .i64 0, .int .i64 0, .int .i64 0, .int .i64 0]
theorem heap_setRow_same {w : World} {g : Nat} {cs old : Array Value} {t : TypeId} {fr : Nat × Nat} (h : w.heap[g]? = some (.cells old t fr)) : (w.setRow g cs).heap[g]? = some (.cells cs t fr) := by
 simp [World.setRow, Array.getElem?_modify, h]
theorem below_setRow {B : Nat} {a w : World} (h : Below B a w) {g : Nat} (hg : B ≤ g) (cs : Array Value) : Below B a (w.setRow g cs) :=
 h.trans ⟨rfl, rfl, rfl, by simp, fun k hk => by simp only [World.setRow, Array.getElem?_modify]; rw [if_neg (by omega)]⟩
set_option maxRecDepth 100000 in
set_option maxHeartbeats 2000000 in
theorem forms_any (w : World) : Calls Tryz.prog 82 #[] w fun e w' => e = .returned (.agg formsRow) ∧ Below w.heap.size w w' := by
 go_enter Tryz.func82, Tryz.ntmps82; go_upto_region 1 with fail
 go_step
 refine wpList_buildTo rfl _ _ rfl (some 1) rfl #[.int .i64 1, .int .i64 1, .int .i64 0, .int .i64 0] (by kernel_rfl) ?_; refine wpList_buildTo rfl _ _ rfl (some 2) rfl #[.string ⟨#[114, 101, 97, 100]⟩, .int .i64 1, .int .i64 1, .int .i64 0, .int .i64 0] (by kernel_rfl) ?_; refine wpList_buildTo rfl _ _ rfl (some 3) rfl #[.int .i64 1, .int .i64 1, .int .i64 0, .int .i64 0] (by kernel_rfl) ?_
 refine wpList_buildTo rfl _ _ rfl (some 4) rfl #[.string ⟨#[119, 114, 105, 116, 101]⟩, .int .i64 1, .int .i64 1, .int .i64 0, .int .i64 0] (by kernel_rfl) ?_; refine wpList_buildTo rfl _ _ rfl (some 5) rfl #[.int .i64 2, .int .i64 1, .int .i64 1, .int .i64 0] (by kernel_rfl) ?_
 refine wpList_buildTo rfl _ _ rfl (some 6) rfl #[.string ⟨#[111, 112, 101, 110]⟩, .int .i64 2, .int .i64 1, .int .i64 1, .int .i64 0] (by kernel_rfl) ?_; refine wpList_buildTo rfl _ _ rfl (some 7) rfl #[.int .i64 1, .int .i64 0, .int .i64 0, .int .i64 0] (by kernel_rfl) ?_
 refine wpList_buildTo rfl _ _ rfl (some 8) rfl #[.string ⟨#[99, 108, 111, 115, 101]⟩, .int .i64 1, .int .i64 0, .int .i64 0, .int .i64 0] (by kernel_rfl) ?_; refine wpList_buildTo rfl _ _ rfl (some 9) rfl #[.int .i64 2, .int .i64 0, .int .i64 0, .int .i64 0] (by kernel_rfl) ?_
 refine wpList_buildTo rfl _ _ rfl (some 10) rfl #[.string ⟨#[115, 116, 97, 116]⟩, .int .i64 2, .int .i64 0, .int .i64 0, .int .i64 0] (by kernel_rfl) ?_; refine wpList_buildTo rfl _ _ rfl (some 11) rfl #[.int .i64 2, .int .i64 2, .int .i64 0, .int .i64 0] (by kernel_rfl) ?_
 refine wpList_buildTo rfl _ _ rfl (some 12) rfl #[.string ⟨#[114, 101, 110, 97, 109, 101]⟩, .int .i64 2, .int .i64 2, .int .i64 0, .int .i64 0] (by kernel_rfl) ?_; refine wpList_buildTo rfl _ _ rfl (some 13) rfl #[.int .i64 1, .int .i64 3, .int .i64 0, .int .i64 0] (by kernel_rfl) ?_
 refine wpList_buildTo rfl _ _ rfl (some 14) rfl #[.string ⟨#[99, 111, 110, 110, 101, 99, 116]⟩, .int .i64 1, .int .i64 3, .int .i64 0, .int .i64 0] (by kernel_rfl) ?_; refine wpList_buildTo rfl _ _ rfl (some 15) rfl #[.int .i64 2, .int .i64 2, .int .i64 1, .int .i64 0] (by kernel_rfl) ?_
 refine wpList_buildTo rfl _ _ rfl (some 16) rfl #[.string ⟨#[108, 105, 110, 107]⟩, .int .i64 2, .int .i64 2, .int .i64 1, .int .i64 0] (by kernel_rfl) ?_; refine wpList_buildTo rfl _ _ rfl (some 17) rfl #[.int .i64 1, .int .i64 1, .int .i64 3, .int .i64 1] (by kernel_rfl) ?_
 refine wpList_buildTo rfl _ _ rfl (some 18) rfl #[.string ⟨#[115, 101, 110, 100]⟩, .int .i64 1, .int .i64 1, .int .i64 3, .int .i64 1] (by kernel_rfl) ?_; refine wpList_buildTo rfl _ _ rfl (some 19) rfl formsRow (by kernel_rfl) ?_
 refine wpList_store_rowTo rfl _ _ _ rfl rfl w.heap.size formsRow (by kernel_rfl) (by kernel_rfl) 181 formsZero (heap_alloc_new _ _) (by kernel_rfl) rfl (by kernel_rfl) ?_
 go_wp2
 exact bodyPost_ret (results_cell_row rfl _ _ w.heap.size 181 formsRow (0, 0) _ (by kernel_rfl) (heap_setRow_same (heap_alloc_new _ _)) Tryz.underlying181 rfl (by kernel_rfl)) (by kernel_rfl)
  ⟨rfl, below_setRow ((Below.refl _ _).alloc (Nat.le_refl _) _) (Nat.le_refl _) _⟩
end Go.Proofs.YtmgngapkgcofnabGreatDoor
namespace Go.Proofs.YtmgngapkgcofnabGreatDoor
open Go.RowKit
structure CallD where
 arch : Int
 nr : Int
 a0 : Int
 a1 : Int
 a2 : Int
 a3 : Int
def CallD.v (c : CallD) : Value := .agg #[.int .u32 c.arch, .int .u32 c.nr, .int .u64 c.a0, .int .u64 c.a1, .int .u64 c.a2, .int .u64 c.a3]
def u64ok (x : Int) : Prop := 0 ≤ x ∧ x ≤ 18446744073709551615
def u32ok (x : Int) : Prop := 0 ≤ x ∧ x < 4294967296
def CallD.ok (c : CallD) : Prop := u32ok c.arch ∧ u32ok c.nr ∧ u64ok c.a0 ∧ u64ok c.a1 ∧ u64ok c.a2 ∧ u64ok c.a3
def CallD.record (c : CallD) : List Int := [c.nr, c.arch, c.a0 % 4294967296, c.a0 / 4294967296, c.a1 % 4294967296, c.a1 / 4294967296, c.a2 % 4294967296, c.a2 / 4294967296, c.a3 % 4294967296, c.a3 / 4294967296]
def wordE (p : Int) : Int := if p % 4 = 0 ∧ p < 40 then 0 else 1
def CallD.word (c : CallD) (p : Int) : Int := if p % 4 = 0 ∧ p < 40 then (c.record[(p / 4).toNat]?).getD 0 else 0
theorem places {p : Int} (h0 : 0 ≤ p) (h : p % 4 = 0 ∧ p < 40) : p = 0 ∨ p = 4 ∨ p = 8 ∨ p = 12 ∨ p = 16 ∨ p = 20 ∨ p = 24 ∨ p = 28 ∨ p = 32 ∨ p = 36 := by omega
set_option maxHeartbeats 1000000 in
theorem word_any (c : CallD) (p : Int) (w : World) (hc : c.ok) (h0 : 0 ≤ p) (h1 : p < 4294967296) :
    Calls Tryz.prog 144 #[c.v, .int .u32 p] w fun e w' => e = .returned (.tuple #[.int .u32 (c.word p), errV (wordE p)]) ∧ Below w.heap.size w w' := by
  by_cases hp : p % 4 = 0 ∧ p < 40
  · have HW : Hid (c.word p = (c.record[(p / 4).toNat]?).getD 0) := by show _ = _; unfold CallD.word; rw [if_pos hp]
    have HE : Hid (wordE p = 0) := by show _ = _; unfold wordE; rw [if_pos hp]
    obtain ⟨arch, nr, a0, a1, a2, a3⟩ := c
    obtain ⟨⟨_, _⟩, ⟨_, _⟩, ⟨p0, q0⟩, ⟨p1, q1⟩, ⟨p2, q2⟩, ⟨p3, q3⟩⟩ := hc
    simp only at p0 q0 p1 q1 p2 q2 p3 q3
    unfold CallD.v CallD.record at *
    simp only at HW ⊢
    rcases places h0 hp with rfl | rfl | rfl | rfl | rfl | rfl | rfl | rfl | rfl | rfl
    all_goals
      clear h0 h1 hp
      go_enter Tryz.func144, Tryz.ntmps144
      go_wp2
      go_returns
      refine ⟨by rw [HW.out, HE.out]; rfl, by go_grown⟩
  · have HW : Hid (c.word p = 0) := by show _ = _; unfold CallD.word; rw [if_neg hp]
    have HE : Hid (wordE p = 1) := by show _ = _; unfold wordE; rw [if_neg hp]
    obtain ⟨arch, nr, a0, a1, a2, a3⟩ := c
    clear hc
    unfold CallD.v at *
    go_enter Tryz.func144, Tryz.ntmps144
    go_wp2
    all_goals first
      | (exfalso; omega)
      | (go_returns
         refine ⟨by rw [HW.out, HE.out]; rfl, by go_grown⟩)
end Go.Proofs.YtmgngapkgcofnabGreatDoor
