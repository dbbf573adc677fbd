/- addr.Parse: the walk. -/
import Derived.Test.YtmgngapkgcofnabGreatDoorP10
namespace Go.Proofs.YtmgngapkgcofnabGreatDoor
open Go.RowKit Go.PlainAid
def rowN (ks : List Nat) : Array Value := #[.int .i64 (ks.getD 0 0 : Nat), .int .i64 (ks.getD 1 0 : Nat), .int .i64 (ks.getD 2 0 : Nat), .int .i64 (ks.getD 3 0 : Nat), .int .i64 (ks.getD 4 0 : Nat), .int .i64 (ks.getD 5 0 : Nat), .int .i64 (ks.getD 6 0 : Nat)]
theorem rowN_set (ks : List Nat) (k : Nat) (h : ks.length < 7) : (rowN ks).setIfInBounds ks.length (.int .i64 (k : Int)) = rowN (ks ++ [k]) := by
 have h7 : ks.length = 0 ∨ ks.length = 1 ∨ ks.length = 2 ∨ ks.length = 3 ∨ ks.length = 4 ∨ ks.length = 5 ∨ ks.length = 6 := by omega
 rcases h7 with e | e | e | e | e | e | e <;> (rw [e]; simp [rowN, e])
theorem store4 {w : World} {b : Nat} {t : TypeId} {a0 a1 a2 a3 : Value} (h : w.heap[b]? = some (.cells #[a0, a1, a2, a3] t (0, 0))) (c0 c1 c2 c3 : Value) :
  (w.setCell ⟨b, 0, none⟩ c0).cell? ⟨b, 0, none⟩ = some c0 ∧ ((w.setCell ⟨b, 0, none⟩ c0).setCell ⟨b, 1, none⟩ c1).cell? ⟨b, 1, none⟩ = some c1 ∧ (((w.setCell ⟨b, 0, none⟩ c0).setCell ⟨b, 1, none⟩ c1).setCell ⟨b, 2, none⟩ c2).cell? ⟨b, 2, none⟩ = some c2 ∧ ((((w.setCell ⟨b, 0, none⟩ c0).setCell ⟨b, 1, none⟩ c1).setCell ⟨b, 2, none⟩ c2).setCell ⟨b, 3, none⟩ c3).cell? ⟨b, 3, none⟩ = some c3 := by
 have e1 : (w.setCell ⟨b, 0, none⟩ c0).heap[b]? = some (.cells #[c0, a1, a2, a3] t (0, 0)) := by
  have := heap_setCell_same w b 0 _ _ c0 h; simpa using this
 have e2 : ((w.setCell ⟨b, 0, none⟩ c0).setCell ⟨b, 1, none⟩ c1).heap[b]? = some (.cells #[c0, c1, a2, a3] t (0, 0)) := by
  have := heap_setCell_same _ b 1 _ _ c1 e1; simpa using this
 have e3 : (((w.setCell ⟨b, 0, none⟩ c0).setCell ⟨b, 1, none⟩ c1).setCell ⟨b, 2, none⟩ c2).heap[b]? = some (.cells #[c0, c1, c2, a3] t (0, 0)) := by
  have := heap_setCell_same _ b 2 _ _ c2 e2; simpa using this
 have e4 : ((((w.setCell ⟨b, 0, none⟩ c0).setCell ⟨b, 1, none⟩ c1).setCell ⟨b, 2, none⟩ c2).setCell ⟨b, 3, none⟩ c3).heap[b]? = some (.cells #[c0, c1, c2, c3] t (0, 0)) := by
  have := heap_setCell_same _ b 3 _ _ c3 e3; simpa using this
 exact ⟨(cell_of_row _ _ _ _ _ _ e1).trans rfl, (cell_of_row _ _ _ _ _ _ e2).trans rfl, (cell_of_row _ _ _ _ _ _ e3).trans rfl, (cell_of_row _ _ _ _ _ _ e4).trans rfl⟩
theorem below_store4 {B : Nat} {w w' : World} {b : Nat} (h : Below B w w') (hb : B ≤ b) (c0 c1 c2 c3 : Value) : Below B w ((((w'.setCell ⟨b, 0, none⟩ c0).setCell ⟨b, 1, none⟩ c1).setCell ⟨b, 2, none⟩ c2).setCell ⟨b, 3, none⟩ c3) :=
 (((h.setCell hb _).setCell hb _).setCell hb _).setCell hb _
structure ParseIn (w wr : World) (ks : List Nat) : Prop where
 bel : Below w.heap.size w wr
 res : wr.heap[w.heap.size]? = some (.cells #[.int .u32 0, .int .i64 0, .int .i64 0, .int .i64 0] 45 (0, 0))
 row : wr.heap[w.heap.size + 1]? = some (.cells (rowN ks) 300 (0, 0))
theorem parse_start (w : World) : ParseIn w ((w.alloc (.cells #[.int .u32 0, .int .i64 0, .int .i64 0, .int .i64 0] 45)).alloc (.cells #[.int .i64 0, .int .i64 0, .int .i64 0, .int .i64 0, .int .i64 0, .int .i64 0, .int .i64 0] 300)) [] := by
 refine ⟨((Below.refl _ _).alloc (Nat.le_refl _) _).alloc (by simp) _, ?_, ?_⟩
 ·rw [heap_alloc_old _ _ (by simp)]; exact heap_alloc_new _ _
 ·have := heap_alloc_new (w.alloc (.cells #[.int .u32 0, .int .i64 0, .int .i64 0, .int .i64 0] 45)) (.cells #[.int .i64 0, .int .i64 0, .int .i64 0, .int .i64 0, .int .i64 0, .int .i64 0, .int .i64 0] 300); rw [show w.heap.size + 1 = (w.alloc (.cells #[.int .u32 0, .int .i64 0, .int .i64 0, .int .i64 0] 45)).heap.size from by simp]; exact this
theorem ParseIn.set {w wr : World} {ks : List Nat} (h : ParseIn w wr ks) (hl : ks.length < 7) (k : Nat) : ParseIn w (wr.setCell ⟨w.heap.size + 1, ks.length, none⟩ (.int .i64 k)) (ks ++ [k]) := by
 refine ⟨h.bel.setCell (by simp) _, (heap_setCell_other wr ⟨_, _, none⟩ _ _ (by simp)).trans h.res, ?_⟩; rw [heap_setCell_same wr _ _ _ _ _ h.row, rowN_set ks k hl]
theorem ParseIn.store {w wr : World} {ks : List Nat} (h : ParseIn w wr ks) (j : Nat) (hj : j < 7) : (∃ v, wr.cell? ⟨w.heap.size + 1, j, none⟩ = some v) ∧ wr.frozen? ⟨w.heap.size + 1, j, none⟩ = false := by
 refine ⟨?_, frozen_of_row _ _ _ _ _ h.row⟩; rw [cell_of_row _ _ _ _ _ _ h.row]; exact ⟨_, Array.getElem?_eq_getElem (by simp [rowN]; omega)⟩
theorem ParseIn.resf {w wr : World} {ks : List Nat} (h : ParseIn w wr ks) : wr.cell? ⟨w.heap.size, 0, none⟩ = some (.int .u32 0) ∧ wr.cell? ⟨w.heap.size, 1, none⟩ = some (.int .i64 0) ∧ wr.cell? ⟨w.heap.size, 2, none⟩ = some (.int .i64 0) ∧ wr.cell? ⟨w.heap.size, 3, none⟩ = some (.int .i64 0) ∧ ∀ j, wr.frozen? ⟨w.heap.size, j, none⟩ = false := by
 refine ⟨?_, ?_, ?_, ?_, fun j => frozen_of_row _ _ _ _ _ h.res⟩ <;> (rw [cell_of_row _ _ _ _ _ _ h.res]; rfl)
theorem indexByte_lt : ∀ (l : List UInt8) (c : UInt8), 0 ≤ Lib.indexByte l c → Lib.indexByte l c < l.length
 | [], c, h => by simp [Lib.indexByte] at h
 | b :: r, c, h => by
  unfold Lib.indexByte at h ⊢; split
  ·simp
  ·rename_i hb; simp only [hb] at h; split
   ·simp; omega
   ·rename_i h1; simp only [h1] at h; have hge := Lib.indexByte_ge r c; simp only [beq_iff_eq] at h1; have := indexByte_lt r c (by omega); simp; omega
def netV : Option NetD → Value × Value
 | some x => (x.v, .nilIface)
 | none => (.agg #[.int .u32 0, .int .i64 0, .int .i64 0, .int .i64 0], errV 4)
theorem readN_none {l : List UInt8} (h : pL sepsN l = none) : ReadN l none := fun x hx hf e => by
 subst e; rw [pL_text hx hf] at h; cases h
theorem readN_parts {l : List UInt8} {ns : List Nat} (h : pL sepsN l = some ns) {x : NetD} (hx : x.ok) (hf : netF x = 0) (e : l = textN x) : ns = partsN x := by
 subst e; rw [pL_text hx hf] at h; exact (Option.some.inj h).symm
theorem ParseIn.kept {w W wr : World} {ks : List Nat} (h : ParseIn w W ks) (hb : Below W.heap.size W wr) : ParseIn w wr ks := by
 have h1 := (Array.getElem?_eq_some_iff.1 h.row).1; exact ⟨h.bel.trans (hb.mono (by omega)), (hb.block _ (by omega)).trans h.res, (hb.block _ h1).trans h.row⟩
theorem list6' {α : Type} {l : List α} (h : l.length = 6) : ∃ a b c d e f, l = [a, b, c, d, e, f] := by
 match l, h with
 | [a, b, c, d, e, f], _ => exact ⟨a, b, c, d, e, f, rfl⟩
def ipJ (l : List Nat) : Nat := l.foldl (fun p x => p * 256 + x) 0
theorem ipJ_snoc (l : List Nat) (x : Nat) : ipJ (l ++ [x]) = ipJ l * 256 + x := by simp [ipJ]
theorem ipJ_lt : ∀ (l : List Nat), (∀ x ∈ l, x ≤ 255) → ipJ l < 256 ^ l.length := fun l h => by
 obtain ⟨n, hn⟩ : ∃ n, l.length = n := ⟨_, rfl⟩
 induction n generalizing l with
 | zero => obtain rfl := List.eq_nil_of_length_eq_zero hn; simp [ipJ]
 | succ n ih =>
  rcases List.eq_nil_or_concat l with rfl | ⟨t, b, rfl⟩
  ·simp at hn
  ·rw [List.concat_eq_append] at *
   have ht : t.length = n := by rw [List.length_append] at hn; simp at hn; omega
   have := ih t (fun x hx => h x (by simp [hx])) ht; have hb := h b (by simp); rw [ipJ_snoc, hn, Nat.pow_succ]; rw [ht] at this; omega
theorem or_byte (p x : Nat) (hp : p < 16777216) (hx : x ≤ 255) : bits .or .u32 ((p : Int) * 256) (x : Int) = ((p * 256 + x : Nat) : Int) := by
 rw [show (p : Int) * 256 = ((p * 256 : Nat) : Int) from by omega, u32_or_nat _ _ (by omega) (by omega), Nat.mul_comm p 256]; have := Nat.two_pow_add_eq_or_of_lt (i := 8) (show x < 2 ^ 8 by omega) p; rw [show (256 : Nat) = 2 ^ 8 from rfl, this]
set_option linter.unusedSimpArgs false in
set_option maxRecDepth 100000 in
set_option maxHeartbeats 8000000 in
theorem parse_any (s : ByteArray) (w : World) (hs : s.size ≤ 1000000) :
  Calls Tryz.prog 180 #[.string s] w fun e w' => ∃ r, ReadN s.data.toList r ∧ e = .returned (.tuple #[(netV r).1, (netV r).2]) ∧ Below w.heap.size w w' := by
 have HI0 := Lib.hid (parse_start w); go_enter Tryz.func180, Tryz.ntmps180
 go_wp2_with fail; generalize (w.alloc (.cells #[.int .u32 0, .int .i64 0, .int .i64 0, .int .i64 0] 45)).alloc (.cells #[.int .i64 0, .int .i64 0, .int .i64 0, .int .i64 0, .int .i64 0, .int .i64 0, .int .i64 0] 300) = W0 at *
 go_loopw [6, 17] (fun rv iv wr => ∃ (i : Nat) (r : ByteArray) (ks : List Nat), i ≤ 7 ∧ iv = .int .i64 i ∧ rv = .string r ∧ r.size ≤ 1000000 ∧ ks.length = i - 1 ∧ Hid (ParseIn w wr ks) ∧ Hid (pL sepsN s.data.toList = (pL (sepsN.drop (i - 1)) r.data.toList).map fun m => ks ++ m)) (fun _ iv _ => 7 - (intOf iv).toNat)
 case atStart => exact ⟨0, s, [], by omega, rfl, rfl, hs, rfl, HI0, by show _ = _; simp⟩
 case round =>
  obtain ⟨i, r, ks, hi, rfl, rfl, hrs, hks, HI, HP⟩ := hrel
  by_cases h7 : i < 7
  ·have hi7 : i = 0 ∨ i = 1 ∨ i = 2 ∨ i = 3 ∨ i = 4 ∨ i = 5 ∨ i = 6 := by omega
   clear hi h7; rcases hi7 with rfl | hi7
   ·go_wp2_with fail; go_roundw
    case rel => exact ⟨1, r, ks, by omega, rfl, rfl, hrs, hks, HI, HP⟩
    case measure => simp [intOf]
   ·rcases hi7 with rfl | rfl | rfl | rfl | rfl | rfl
    ·have hsl : r.data.toList.length = r.size := by simp
     have hge := Lib.indexByte_ge r.data.toList 46; obtain ⟨v0, v1, v2, v3, fz⟩ := HI.out.resf; have fz0 := fz 0; have fz1 := fz 1; have fz2 := fz 2; have fz3 := fz 3; clear fz
     have hP1 : pL (sepsN.drop (1 - 1)) r.data.toList = if Lib.indexByte r.data.toList 46 < 0 then none else (numP (r.data.toList.take (Lib.indexByte r.data.toList 46).toNat)).bind fun k => (pL (sepsN.drop 1) (r.data.toList.drop ((Lib.indexByte r.data.toList 46).toNat + 1))).map fun ks => k :: ks := rfl
     have hlt0 := indexByte_lt r.data.toList 46; have HIX : Hid (∀ w, Calls Tryz.prog 194 #[.string r, .int .u8 46] w fun e w' => e = .returned (.int .i64 (Lib.indexByte r.data.toList 46)) ∧ w = w') := fun w => Tryz.index_any r 46 w; generalize Lib.indexByte r.data.toList 46 = at0 at *
     by_cases hneg : at0 < 0
     ·have HF : Hid (ReadN s.data.toList none) := readN_none (by rw [HP.out, hP1, if_pos hneg]; rfl); obtain ⟨y0, y1, y2, y3⟩ := store4 HI.out.res (.int .u32 0) (.int .i64 0) (.int .i64 0) (.int .i64 0); have HB := Lib.hid (below_store4 HI.out.bel (Nat.le_refl _) (.int .u32 0) (.int .i64 0) (.int .i64 0) (.int .i64 0)); clear hP1 hlt0 hge hsl
      go_wp2_with (go_at_call 194; refine cargs (by simp [Act.eval]; try rfl) ((HIX.out _).mono ?_); rintro e w1 ⟨rfl, rfl⟩)
      try simp only [Exit.inBlock, Exit.then]
      refine bodyPost_ret (by simp [results, Tryz.results180, go_sem, y0, y1, y2, y3]; try rfl) rfl ?_; exact ⟨none, HF.out, rfl, HB.out⟩
     ·obtain ⟨at1, rfl⟩ : ∃ a : Nat, at0 = a := ⟨at0.toNat, by omega⟩
      have hlt := hlt0 (by omega); rw [hsl] at hlt; rw [if_neg hneg, Int.toNat_natCast] at hP1; clear hlt0 hge hneg; have hex : (r.extract 0 at1).data.toList = r.data.toList.take at1 := by simp
      have hex2 : (r.extract (at1 + 1) r.size).data.toList = r.data.toList.drop (at1 + 1) := by
       simp; apply List.take_of_length_le; simp
      have i1 : (at1 : Int) ≤ (r.size : Int) := by omega
      have i2 : (at1 : Int) + 1 ≤ (r.size : Int) := by omega
      have i3 : (0 : Int) ≤ (at1 : Int) := by omega
      have i4 : ¬ (at1 : Int) < 0 := by omega
      have i5 : wrap64 ((at1 : Int) + 1) = (at1 : Int) + 1 := by go_arith
      have i7 : ((at1 : Int) + 1).toNat = at1 + 1 := by omega
      have i8 : (0 : Int) ≤ (at1 : Int) + 1 := by omega
      have i6 : Hid ((r.extract (at1 + 1) r.size).size ≤ 1000000) := by show _ ≤ _; simp; omega
      clear hrs; have HNB : Hid (∀ w, Calls Tryz.prog 208 #[.string (r.extract 0 at1)] w fun e w' => NumR (r.data.toList.take at1) e ∧ w = w') := fun w => by have := number_any (r.extract 0 at1) w; rw [hex] at this; exact this
      cases hn : numP (r.data.toList.take at1) with
      | none =>
       have HF : Hid (ReadN s.data.toList none) := readN_none (by rw [HP.out, hP1, hn]; rfl); obtain ⟨y0, y1, y2, y3⟩ := store4 HI.out.res (.int .u32 0) (.int .i64 0) (.int .i64 0) (.int .i64 0); have HB := Lib.hid (below_store4 HI.out.bel (Nat.le_refl _) (.int .u32 0) (.int .i64 0) (.int .i64 0) (.int .i64 0))
       have HNB2 : Hid (∀ w, Calls Tryz.prog 208 #[.string (r.extract 0 at1)] w fun e w' => e = .returned (.tuple #[.int .i64 0, .bool false]) ∧ w = w') := fun w => (HNB.out w).mono fun e w' ⟨h, k⟩ => by
        unfold NumR at h; rw [hn] at h; exact ⟨h, k⟩
       clear hP1 hn hex hex2 hsl hlt
       go_wp2_with (first
        | (go_at_call 194; refine cargs (by simp [Act.eval]; try rfl) ((HIX.out _).mono ?_); rintro e w1 ⟨rfl, rfl⟩)
        | (go_at_call 208; refine cargs (by simp [Act.eval]) ((HNB2.out _).mono ?_); rintro e w1 ⟨rfl, rfl⟩))
       try simp only [Exit.inBlock, Exit.then]
       refine bodyPost_ret (by simp [results, Tryz.results180, go_sem, y0, y1, y2, y3]; try rfl) rfl ?_; exact ⟨none, HF.out, rfl, HB.out⟩
      | some k =>
       have HP2 : Hid (pL sepsN s.data.toList = (pL (sepsN.drop 1) (r.extract (at1 + 1) r.size).data.toList).map fun m => (ks ++ [k]) ++ m) := by
        show _ = _; rw [HP.out, hP1, hn, hex2, Option.bind_some, Option.map_map]
        congr 1
        funext m
        simp
       have HNB2 : Hid (∀ w, Calls Tryz.prog 208 #[.string (r.extract 0 at1)] w fun e w' => e = .returned (.tuple #[.int .i64 k, .bool true]) ∧ w = w') := fun w => (HNB.out w).mono fun e w' ⟨h, k⟩ => by
        unfold NumR at h; rw [hn] at h; exact ⟨h, k⟩
       obtain ⟨⟨cv, hcv⟩, hfr⟩ := HI.out.store 0 (by omega); have HS := HI.out.set (by omega) k; rw [hks] at HS; have HI2 := Lib.hid HS; clear hP1 hn hex hex2 hsl HS hlt
       go_wp2_with (first
        | (go_at_call 194; refine cargs (by simp [Act.eval]; try rfl) ((HIX.out _).mono ?_); rintro e w1 ⟨rfl, rfl⟩)
        | (go_at_call 208; refine cargs (by simp [Act.eval]) ((HNB2.out _).mono ?_); rintro e w1 ⟨rfl, rfl⟩))
       go_roundw
       case rel => exact ⟨2, _, ks ++ [k], by omega, rfl, rfl, i6.out, by simp [hks], HI2, HP2⟩
       case measure => simp [intOf]
    ·have hsl : r.data.toList.length = r.size := by simp
     have hge := Lib.indexByte_ge r.data.toList 46; obtain ⟨v0, v1, v2, v3, fz⟩ := HI.out.resf; have fz0 := fz 0; have fz1 := fz 1; have fz2 := fz 2; have fz3 := fz 3; clear fz
     have hP1 : pL (sepsN.drop (2 - 1)) r.data.toList = if Lib.indexByte r.data.toList 46 < 0 then none else (numP (r.data.toList.take (Lib.indexByte r.data.toList 46).toNat)).bind fun k => (pL (sepsN.drop 2) (r.data.toList.drop ((Lib.indexByte r.data.toList 46).toNat + 1))).map fun ks => k :: ks := rfl
     have hlt0 := indexByte_lt r.data.toList 46; have HIX : Hid (∀ w, Calls Tryz.prog 194 #[.string r, .int .u8 46] w fun e w' => e = .returned (.int .i64 (Lib.indexByte r.data.toList 46)) ∧ w = w') := fun w => Tryz.index_any r 46 w; generalize Lib.indexByte r.data.toList 46 = at0 at *
     by_cases hneg : at0 < 0
     ·have HF : Hid (ReadN s.data.toList none) := readN_none (by rw [HP.out, hP1, if_pos hneg]; rfl); obtain ⟨y0, y1, y2, y3⟩ := store4 HI.out.res (.int .u32 0) (.int .i64 0) (.int .i64 0) (.int .i64 0); have HB := Lib.hid (below_store4 HI.out.bel (Nat.le_refl _) (.int .u32 0) (.int .i64 0) (.int .i64 0) (.int .i64 0)); clear hP1 hlt0 hge hsl
      go_wp2_with (go_at_call 194; refine cargs (by simp [Act.eval]; try rfl) ((HIX.out _).mono ?_); rintro e w1 ⟨rfl, rfl⟩)
      try simp only [Exit.inBlock, Exit.then]
      refine bodyPost_ret (by simp [results, Tryz.results180, go_sem, y0, y1, y2, y3]; try rfl) rfl ?_; exact ⟨none, HF.out, rfl, HB.out⟩
     ·obtain ⟨at1, rfl⟩ : ∃ a : Nat, at0 = a := ⟨at0.toNat, by omega⟩
      have hlt := hlt0 (by omega); rw [hsl] at hlt; rw [if_neg hneg, Int.toNat_natCast] at hP1; clear hlt0 hge hneg; have hex : (r.extract 0 at1).data.toList = r.data.toList.take at1 := by simp
      have hex2 : (r.extract (at1 + 1) r.size).data.toList = r.data.toList.drop (at1 + 1) := by
       simp; apply List.take_of_length_le; simp
      have i1 : (at1 : Int) ≤ (r.size : Int) := by omega
      have i2 : (at1 : Int) + 1 ≤ (r.size : Int) := by omega
      have i3 : (0 : Int) ≤ (at1 : Int) := by omega
      have i4 : ¬ (at1 : Int) < 0 := by omega
      have i5 : wrap64 ((at1 : Int) + 1) = (at1 : Int) + 1 := by go_arith
      have i7 : ((at1 : Int) + 1).toNat = at1 + 1 := by omega
      have i8 : (0 : Int) ≤ (at1 : Int) + 1 := by omega
      have i6 : Hid ((r.extract (at1 + 1) r.size).size ≤ 1000000) := by show _ ≤ _; simp; omega
      clear hrs; have HNB : Hid (∀ w, Calls Tryz.prog 208 #[.string (r.extract 0 at1)] w fun e w' => NumR (r.data.toList.take at1) e ∧ w = w') := fun w => by have := number_any (r.extract 0 at1) w; rw [hex] at this; exact this
      cases hn : numP (r.data.toList.take at1) with
      | none =>
       have HF : Hid (ReadN s.data.toList none) := readN_none (by rw [HP.out, hP1, hn]; rfl); obtain ⟨y0, y1, y2, y3⟩ := store4 HI.out.res (.int .u32 0) (.int .i64 0) (.int .i64 0) (.int .i64 0); have HB := Lib.hid (below_store4 HI.out.bel (Nat.le_refl _) (.int .u32 0) (.int .i64 0) (.int .i64 0) (.int .i64 0))
       have HNB2 : Hid (∀ w, Calls Tryz.prog 208 #[.string (r.extract 0 at1)] w fun e w' => e = .returned (.tuple #[.int .i64 0, .bool false]) ∧ w = w') := fun w => (HNB.out w).mono fun e w' ⟨h, k⟩ => by
        unfold NumR at h; rw [hn] at h; exact ⟨h, k⟩
       clear hP1 hn hex hex2 hsl hlt
       go_wp2_with (first
        | (go_at_call 194; refine cargs (by simp [Act.eval]; try rfl) ((HIX.out _).mono ?_); rintro e w1 ⟨rfl, rfl⟩)
        | (go_at_call 208; refine cargs (by simp [Act.eval]) ((HNB2.out _).mono ?_); rintro e w1 ⟨rfl, rfl⟩))
       try simp only [Exit.inBlock, Exit.then]
       refine bodyPost_ret (by simp [results, Tryz.results180, go_sem, y0, y1, y2, y3]; try rfl) rfl ?_; exact ⟨none, HF.out, rfl, HB.out⟩
      | some k =>
       have HP2 : Hid (pL sepsN s.data.toList = (pL (sepsN.drop 2) (r.extract (at1 + 1) r.size).data.toList).map fun m => (ks ++ [k]) ++ m) := by
        show _ = _; rw [HP.out, hP1, hn, hex2, Option.bind_some, Option.map_map]
        congr 1
        funext m
        simp
       have HNB2 : Hid (∀ w, Calls Tryz.prog 208 #[.string (r.extract 0 at1)] w fun e w' => e = .returned (.tuple #[.int .i64 k, .bool true]) ∧ w = w') := fun w => (HNB.out w).mono fun e w' ⟨h, k⟩ => by
        unfold NumR at h; rw [hn] at h; exact ⟨h, k⟩
       obtain ⟨⟨cv, hcv⟩, hfr⟩ := HI.out.store 1 (by omega); have HS := HI.out.set (by omega) k; rw [hks] at HS; have HI2 := Lib.hid HS; clear hP1 hn hex hex2 hsl HS hlt
       go_wp2_with (first
        | (go_at_call 194; refine cargs (by simp [Act.eval]; try rfl) ((HIX.out _).mono ?_); rintro e w1 ⟨rfl, rfl⟩)
        | (go_at_call 208; refine cargs (by simp [Act.eval]) ((HNB2.out _).mono ?_); rintro e w1 ⟨rfl, rfl⟩))
       go_roundw
       case rel => exact ⟨3, _, ks ++ [k], by omega, rfl, rfl, i6.out, by simp [hks], HI2, HP2⟩
       case measure => simp [intOf]
    ·have hsl : r.data.toList.length = r.size := by simp
     have hge := Lib.indexByte_ge r.data.toList 46; obtain ⟨v0, v1, v2, v3, fz⟩ := HI.out.resf; have fz0 := fz 0; have fz1 := fz 1; have fz2 := fz 2; have fz3 := fz 3; clear fz
     have hP1 : pL (sepsN.drop (3 - 1)) r.data.toList = if Lib.indexByte r.data.toList 46 < 0 then none else (numP (r.data.toList.take (Lib.indexByte r.data.toList 46).toNat)).bind fun k => (pL (sepsN.drop 3) (r.data.toList.drop ((Lib.indexByte r.data.toList 46).toNat + 1))).map fun ks => k :: ks := rfl
     have hlt0 := indexByte_lt r.data.toList 46; have HIX : Hid (∀ w, Calls Tryz.prog 194 #[.string r, .int .u8 46] w fun e w' => e = .returned (.int .i64 (Lib.indexByte r.data.toList 46)) ∧ w = w') := fun w => Tryz.index_any r 46 w; generalize Lib.indexByte r.data.toList 46 = at0 at *
     by_cases hneg : at0 < 0
     ·have HF : Hid (ReadN s.data.toList none) := readN_none (by rw [HP.out, hP1, if_pos hneg]; rfl); obtain ⟨y0, y1, y2, y3⟩ := store4 HI.out.res (.int .u32 0) (.int .i64 0) (.int .i64 0) (.int .i64 0); have HB := Lib.hid (below_store4 HI.out.bel (Nat.le_refl _) (.int .u32 0) (.int .i64 0) (.int .i64 0) (.int .i64 0)); clear hP1 hlt0 hge hsl
      go_wp2_with (go_at_call 194; refine cargs (by simp [Act.eval]; try rfl) ((HIX.out _).mono ?_); rintro e w1 ⟨rfl, rfl⟩)
      try simp only [Exit.inBlock, Exit.then]
      refine bodyPost_ret (by simp [results, Tryz.results180, go_sem, y0, y1, y2, y3]; try rfl) rfl ?_; exact ⟨none, HF.out, rfl, HB.out⟩
     ·obtain ⟨at1, rfl⟩ : ∃ a : Nat, at0 = a := ⟨at0.toNat, by omega⟩
      have hlt := hlt0 (by omega); rw [hsl] at hlt; rw [if_neg hneg, Int.toNat_natCast] at hP1; clear hlt0 hge hneg; have hex : (r.extract 0 at1).data.toList = r.data.toList.take at1 := by simp
      have hex2 : (r.extract (at1 + 1) r.size).data.toList = r.data.toList.drop (at1 + 1) := by
       simp; apply List.take_of_length_le; simp
      have i1 : (at1 : Int) ≤ (r.size : Int) := by omega
      have i2 : (at1 : Int) + 1 ≤ (r.size : Int) := by omega
      have i3 : (0 : Int) ≤ (at1 : Int) := by omega
      have i4 : ¬ (at1 : Int) < 0 := by omega
      have i5 : wrap64 ((at1 : Int) + 1) = (at1 : Int) + 1 := by go_arith
      have i7 : ((at1 : Int) + 1).toNat = at1 + 1 := by omega
      have i8 : (0 : Int) ≤ (at1 : Int) + 1 := by omega
      have i6 : Hid ((r.extract (at1 + 1) r.size).size ≤ 1000000) := by show _ ≤ _; simp; omega
      clear hrs; have HNB : Hid (∀ w, Calls Tryz.prog 208 #[.string (r.extract 0 at1)] w fun e w' => NumR (r.data.toList.take at1) e ∧ w = w') := fun w => by have := number_any (r.extract 0 at1) w; rw [hex] at this; exact this
      cases hn : numP (r.data.toList.take at1) with
      | none =>
       have HF : Hid (ReadN s.data.toList none) := readN_none (by rw [HP.out, hP1, hn]; rfl); obtain ⟨y0, y1, y2, y3⟩ := store4 HI.out.res (.int .u32 0) (.int .i64 0) (.int .i64 0) (.int .i64 0); have HB := Lib.hid (below_store4 HI.out.bel (Nat.le_refl _) (.int .u32 0) (.int .i64 0) (.int .i64 0) (.int .i64 0))
       have HNB2 : Hid (∀ w, Calls Tryz.prog 208 #[.string (r.extract 0 at1)] w fun e w' => e = .returned (.tuple #[.int .i64 0, .bool false]) ∧ w = w') := fun w => (HNB.out w).mono fun e w' ⟨h, k⟩ => by
        unfold NumR at h; rw [hn] at h; exact ⟨h, k⟩
       clear hP1 hn hex hex2 hsl hlt
       go_wp2_with (first
        | (go_at_call 194; refine cargs (by simp [Act.eval]; try rfl) ((HIX.out _).mono ?_); rintro e w1 ⟨rfl, rfl⟩)
        | (go_at_call 208; refine cargs (by simp [Act.eval]) ((HNB2.out _).mono ?_); rintro e w1 ⟨rfl, rfl⟩))
       try simp only [Exit.inBlock, Exit.then]
       refine bodyPost_ret (by simp [results, Tryz.results180, go_sem, y0, y1, y2, y3]; try rfl) rfl ?_; exact ⟨none, HF.out, rfl, HB.out⟩
      | some k =>
       have HP2 : Hid (pL sepsN s.data.toList = (pL (sepsN.drop 3) (r.extract (at1 + 1) r.size).data.toList).map fun m => (ks ++ [k]) ++ m) := by
        show _ = _; rw [HP.out, hP1, hn, hex2, Option.bind_some, Option.map_map]
        congr 1
        funext m
        simp
       have HNB2 : Hid (∀ w, Calls Tryz.prog 208 #[.string (r.extract 0 at1)] w fun e w' => e = .returned (.tuple #[.int .i64 k, .bool true]) ∧ w = w') := fun w => (HNB.out w).mono fun e w' ⟨h, k⟩ => by
        unfold NumR at h; rw [hn] at h; exact ⟨h, k⟩
       obtain ⟨⟨cv, hcv⟩, hfr⟩ := HI.out.store 2 (by omega); have HS := HI.out.set (by omega) k; rw [hks] at HS; have HI2 := Lib.hid HS; clear hP1 hn hex hex2 hsl HS hlt
       go_wp2_with (first
        | (go_at_call 194; refine cargs (by simp [Act.eval]; try rfl) ((HIX.out _).mono ?_); rintro e w1 ⟨rfl, rfl⟩)
        | (go_at_call 208; refine cargs (by simp [Act.eval]) ((HNB2.out _).mono ?_); rintro e w1 ⟨rfl, rfl⟩))
       go_roundw
       case rel => exact ⟨4, _, ks ++ [k], by omega, rfl, rfl, i6.out, by simp [hks], HI2, HP2⟩
       case measure => simp [intOf]
    ·have hsl : r.data.toList.length = r.size := by simp
     have hge := Lib.indexByte_ge r.data.toList 47; obtain ⟨v0, v1, v2, v3, fz⟩ := HI.out.resf; have fz0 := fz 0; have fz1 := fz 1; have fz2 := fz 2; have fz3 := fz 3; clear fz
     have hP1 : pL (sepsN.drop (4 - 1)) r.data.toList = if Lib.indexByte r.data.toList 47 < 0 then none else (numP (r.data.toList.take (Lib.indexByte r.data.toList 47).toNat)).bind fun k => (pL (sepsN.drop 4) (r.data.toList.drop ((Lib.indexByte r.data.toList 47).toNat + 1))).map fun ks => k :: ks := rfl
     have hlt0 := indexByte_lt r.data.toList 47; have HIX : Hid (∀ w, Calls Tryz.prog 194 #[.string r, .int .u8 47] w fun e w' => e = .returned (.int .i64 (Lib.indexByte r.data.toList 47)) ∧ w = w') := fun w => Tryz.index_any r 47 w; generalize Lib.indexByte r.data.toList 47 = at0 at *
     by_cases hneg : at0 < 0
     ·have HF : Hid (ReadN s.data.toList none) := readN_none (by rw [HP.out, hP1, if_pos hneg]; rfl); obtain ⟨y0, y1, y2, y3⟩ := store4 HI.out.res (.int .u32 0) (.int .i64 0) (.int .i64 0) (.int .i64 0); have HB := Lib.hid (below_store4 HI.out.bel (Nat.le_refl _) (.int .u32 0) (.int .i64 0) (.int .i64 0) (.int .i64 0)); clear hP1 hlt0 hge hsl
      go_wp2_with (go_at_call 194; refine cargs (by simp [Act.eval]; try rfl) ((HIX.out _).mono ?_); rintro e w1 ⟨rfl, rfl⟩)
      try simp only [Exit.inBlock, Exit.then]
      refine bodyPost_ret (by simp [results, Tryz.results180, go_sem, y0, y1, y2, y3]; try rfl) rfl ?_; exact ⟨none, HF.out, rfl, HB.out⟩
     ·obtain ⟨at1, rfl⟩ : ∃ a : Nat, at0 = a := ⟨at0.toNat, by omega⟩
      have hlt := hlt0 (by omega); rw [hsl] at hlt; rw [if_neg hneg, Int.toNat_natCast] at hP1; clear hlt0 hge hneg; have hex : (r.extract 0 at1).data.toList = r.data.toList.take at1 := by simp
      have hex2 : (r.extract (at1 + 1) r.size).data.toList = r.data.toList.drop (at1 + 1) := by
       simp; apply List.take_of_length_le; simp
      have i1 : (at1 : Int) ≤ (r.size : Int) := by omega
      have i2 : (at1 : Int) + 1 ≤ (r.size : Int) := by omega
      have i3 : (0 : Int) ≤ (at1 : Int) := by omega
      have i4 : ¬ (at1 : Int) < 0 := by omega
      have i5 : wrap64 ((at1 : Int) + 1) = (at1 : Int) + 1 := by go_arith
      have i7 : ((at1 : Int) + 1).toNat = at1 + 1 := by omega
      have i8 : (0 : Int) ≤ (at1 : Int) + 1 := by omega
      have i6 : Hid ((r.extract (at1 + 1) r.size).size ≤ 1000000) := by show _ ≤ _; simp; omega
      clear hrs; have HNB : Hid (∀ w, Calls Tryz.prog 208 #[.string (r.extract 0 at1)] w fun e w' => NumR (r.data.toList.take at1) e ∧ w = w') := fun w => by have := number_any (r.extract 0 at1) w; rw [hex] at this; exact this
      cases hn : numP (r.data.toList.take at1) with
      | none =>
       have HF : Hid (ReadN s.data.toList none) := readN_none (by rw [HP.out, hP1, hn]; rfl); obtain ⟨y0, y1, y2, y3⟩ := store4 HI.out.res (.int .u32 0) (.int .i64 0) (.int .i64 0) (.int .i64 0); have HB := Lib.hid (below_store4 HI.out.bel (Nat.le_refl _) (.int .u32 0) (.int .i64 0) (.int .i64 0) (.int .i64 0))
       have HNB2 : Hid (∀ w, Calls Tryz.prog 208 #[.string (r.extract 0 at1)] w fun e w' => e = .returned (.tuple #[.int .i64 0, .bool false]) ∧ w = w') := fun w => (HNB.out w).mono fun e w' ⟨h, k⟩ => by
        unfold NumR at h; rw [hn] at h; exact ⟨h, k⟩
       clear hP1 hn hex hex2 hsl hlt
       go_wp2_with (first
        | (go_at_call 194; refine cargs (by simp [Act.eval]; try rfl) ((HIX.out _).mono ?_); rintro e w1 ⟨rfl, rfl⟩)
        | (go_at_call 208; refine cargs (by simp [Act.eval]) ((HNB2.out _).mono ?_); rintro e w1 ⟨rfl, rfl⟩))
       try simp only [Exit.inBlock, Exit.then]
       refine bodyPost_ret (by simp [results, Tryz.results180, go_sem, y0, y1, y2, y3]; try rfl) rfl ?_; exact ⟨none, HF.out, rfl, HB.out⟩
      | some k =>
       have HP2 : Hid (pL sepsN s.data.toList = (pL (sepsN.drop 4) (r.extract (at1 + 1) r.size).data.toList).map fun m => (ks ++ [k]) ++ m) := by
        show _ = _; rw [HP.out, hP1, hn, hex2, Option.bind_some, Option.map_map]
        congr 1
        funext m
        simp
       have HNB2 : Hid (∀ w, Calls Tryz.prog 208 #[.string (r.extract 0 at1)] w fun e w' => e = .returned (.tuple #[.int .i64 k, .bool true]) ∧ w = w') := fun w => (HNB.out w).mono fun e w' ⟨h, k⟩ => by
        unfold NumR at h; rw [hn] at h; exact ⟨h, k⟩
       obtain ⟨⟨cv, hcv⟩, hfr⟩ := HI.out.store 3 (by omega); have HS := HI.out.set (by omega) k; rw [hks] at HS; have HI2 := Lib.hid HS; clear hP1 hn hex hex2 hsl HS hlt
       go_wp2_with (first
        | (go_at_call 194; refine cargs (by simp [Act.eval]; try rfl) ((HIX.out _).mono ?_); rintro e w1 ⟨rfl, rfl⟩)
        | (go_at_call 208; refine cargs (by simp [Act.eval]) ((HNB2.out _).mono ?_); rintro e w1 ⟨rfl, rfl⟩))
       go_roundw
       case rel => exact ⟨5, _, ks ++ [k], by omega, rfl, rfl, i6.out, by simp [hks], HI2, HP2⟩
       case measure => simp [intOf]
    ·have hsl : r.data.toList.length = r.size := by simp
     have hge := Lib.indexByte_ge r.data.toList 58; obtain ⟨v0, v1, v2, v3, fz⟩ := HI.out.resf; have fz0 := fz 0; have fz1 := fz 1; have fz2 := fz 2; have fz3 := fz 3; clear fz
     have hP1 : pL (sepsN.drop (5 - 1)) r.data.toList = if Lib.indexByte r.data.toList 58 < 0 then none else (numP (r.data.toList.take (Lib.indexByte r.data.toList 58).toNat)).bind fun k => (pL (sepsN.drop 5) (r.data.toList.drop ((Lib.indexByte r.data.toList 58).toNat + 1))).map fun ks => k :: ks := rfl
     have hlt0 := indexByte_lt r.data.toList 58; have HIX : Hid (∀ w, Calls Tryz.prog 194 #[.string r, .int .u8 58] w fun e w' => e = .returned (.int .i64 (Lib.indexByte r.data.toList 58)) ∧ w = w') := fun w => Tryz.index_any r 58 w; generalize Lib.indexByte r.data.toList 58 = at0 at *
     by_cases hneg : at0 < 0
     ·have HF : Hid (ReadN s.data.toList none) := readN_none (by rw [HP.out, hP1, if_pos hneg]; rfl); obtain ⟨y0, y1, y2, y3⟩ := store4 HI.out.res (.int .u32 0) (.int .i64 0) (.int .i64 0) (.int .i64 0); have HB := Lib.hid (below_store4 HI.out.bel (Nat.le_refl _) (.int .u32 0) (.int .i64 0) (.int .i64 0) (.int .i64 0)); clear hP1 hlt0 hge hsl
      go_wp2_with (go_at_call 194; refine cargs (by simp [Act.eval]; try rfl) ((HIX.out _).mono ?_); rintro e w1 ⟨rfl, rfl⟩)
      try simp only [Exit.inBlock, Exit.then]
      refine bodyPost_ret (by simp [results, Tryz.results180, go_sem, y0, y1, y2, y3]; try rfl) rfl ?_; exact ⟨none, HF.out, rfl, HB.out⟩
     ·obtain ⟨at1, rfl⟩ : ∃ a : Nat, at0 = a := ⟨at0.toNat, by omega⟩
      have hlt := hlt0 (by omega); rw [hsl] at hlt; rw [if_neg hneg, Int.toNat_natCast] at hP1; clear hlt0 hge hneg; have hex : (r.extract 0 at1).data.toList = r.data.toList.take at1 := by simp
      have hex2 : (r.extract (at1 + 1) r.size).data.toList = r.data.toList.drop (at1 + 1) := by
       simp; apply List.take_of_length_le; simp
      have i1 : (at1 : Int) ≤ (r.size : Int) := by omega
      have i2 : (at1 : Int) + 1 ≤ (r.size : Int) := by omega
      have i3 : (0 : Int) ≤ (at1 : Int) := by omega
      have i4 : ¬ (at1 : Int) < 0 := by omega
      have i5 : wrap64 ((at1 : Int) + 1) = (at1 : Int) + 1 := by go_arith
      have i7 : ((at1 : Int) + 1).toNat = at1 + 1 := by omega
      have i8 : (0 : Int) ≤ (at1 : Int) + 1 := by omega
      have i6 : Hid ((r.extract (at1 + 1) r.size).size ≤ 1000000) := by show _ ≤ _; simp; omega
      clear hrs; have HNB : Hid (∀ w, Calls Tryz.prog 208 #[.string (r.extract 0 at1)] w fun e w' => NumR (r.data.toList.take at1) e ∧ w = w') := fun w => by have := number_any (r.extract 0 at1) w; rw [hex] at this; exact this
      cases hn : numP (r.data.toList.take at1) with
      | none =>
       have HF : Hid (ReadN s.data.toList none) := readN_none (by rw [HP.out, hP1, hn]; rfl); obtain ⟨y0, y1, y2, y3⟩ := store4 HI.out.res (.int .u32 0) (.int .i64 0) (.int .i64 0) (.int .i64 0); have HB := Lib.hid (below_store4 HI.out.bel (Nat.le_refl _) (.int .u32 0) (.int .i64 0) (.int .i64 0) (.int .i64 0))
       have HNB2 : Hid (∀ w, Calls Tryz.prog 208 #[.string (r.extract 0 at1)] w fun e w' => e = .returned (.tuple #[.int .i64 0, .bool false]) ∧ w = w') := fun w => (HNB.out w).mono fun e w' ⟨h, k⟩ => by
        unfold NumR at h; rw [hn] at h; exact ⟨h, k⟩
       clear hP1 hn hex hex2 hsl hlt
       go_wp2_with (first
        | (go_at_call 194; refine cargs (by simp [Act.eval]; try rfl) ((HIX.out _).mono ?_); rintro e w1 ⟨rfl, rfl⟩)
        | (go_at_call 208; refine cargs (by simp [Act.eval]) ((HNB2.out _).mono ?_); rintro e w1 ⟨rfl, rfl⟩))
       try simp only [Exit.inBlock, Exit.then]
       refine bodyPost_ret (by simp [results, Tryz.results180, go_sem, y0, y1, y2, y3]; try rfl) rfl ?_; exact ⟨none, HF.out, rfl, HB.out⟩
      | some k =>
       have HP2 : Hid (pL sepsN s.data.toList = (pL (sepsN.drop 5) (r.extract (at1 + 1) r.size).data.toList).map fun m => (ks ++ [k]) ++ m) := by
        show _ = _; rw [HP.out, hP1, hn, hex2, Option.bind_some, Option.map_map]
        congr 1
        funext m
        simp
       have HNB2 : Hid (∀ w, Calls Tryz.prog 208 #[.string (r.extract 0 at1)] w fun e w' => e = .returned (.tuple #[.int .i64 k, .bool true]) ∧ w = w') := fun w => (HNB.out w).mono fun e w' ⟨h, k⟩ => by
        unfold NumR at h; rw [hn] at h; exact ⟨h, k⟩
       obtain ⟨⟨cv, hcv⟩, hfr⟩ := HI.out.store 4 (by omega); have HS := HI.out.set (by omega) k; rw [hks] at HS; have HI2 := Lib.hid HS; clear hP1 hn hex hex2 hsl HS hlt
       go_wp2_with (first
        | (go_at_call 194; refine cargs (by simp [Act.eval]; try rfl) ((HIX.out _).mono ?_); rintro e w1 ⟨rfl, rfl⟩)
        | (go_at_call 208; refine cargs (by simp [Act.eval]) ((HNB2.out _).mono ?_); rintro e w1 ⟨rfl, rfl⟩))
       go_roundw
       case rel => exact ⟨6, _, ks ++ [k], by omega, rfl, rfl, i6.out, by simp [hks], HI2, HP2⟩
       case measure => simp [intOf]
    ·have hsl : r.data.toList.length = r.size := by simp
     have hge := Lib.indexByte_ge r.data.toList 45; obtain ⟨v0, v1, v2, v3, fz⟩ := HI.out.resf; have fz0 := fz 0; have fz1 := fz 1; have fz2 := fz 2; have fz3 := fz 3; clear fz
     have hP1 : pL (sepsN.drop (6 - 1)) r.data.toList = if Lib.indexByte r.data.toList 45 < 0 then none else (numP (r.data.toList.take (Lib.indexByte r.data.toList 45).toNat)).bind fun k => (pL (sepsN.drop 6) (r.data.toList.drop ((Lib.indexByte r.data.toList 45).toNat + 1))).map fun ks => k :: ks := rfl
     have hlt0 := indexByte_lt r.data.toList 45; have HIX : Hid (∀ w, Calls Tryz.prog 194 #[.string r, .int .u8 45] w fun e w' => e = .returned (.int .i64 (Lib.indexByte r.data.toList 45)) ∧ w = w') := fun w => Tryz.index_any r 45 w; generalize Lib.indexByte r.data.toList 45 = at0 at *
     by_cases hneg : at0 < 0
     ·have HF : Hid (ReadN s.data.toList none) := readN_none (by rw [HP.out, hP1, if_pos hneg]; rfl); obtain ⟨y0, y1, y2, y3⟩ := store4 HI.out.res (.int .u32 0) (.int .i64 0) (.int .i64 0) (.int .i64 0); have HB := Lib.hid (below_store4 HI.out.bel (Nat.le_refl _) (.int .u32 0) (.int .i64 0) (.int .i64 0) (.int .i64 0)); clear hP1 hlt0 hge hsl
      go_wp2_with (go_at_call 194; refine cargs (by simp [Act.eval]; try rfl) ((HIX.out _).mono ?_); rintro e w1 ⟨rfl, rfl⟩)
      try simp only [Exit.inBlock, Exit.then]
      refine bodyPost_ret (by simp [results, Tryz.results180, go_sem, y0, y1, y2, y3]; try rfl) rfl ?_; exact ⟨none, HF.out, rfl, HB.out⟩
     ·obtain ⟨at1, rfl⟩ : ∃ a : Nat, at0 = a := ⟨at0.toNat, by omega⟩
      have hlt := hlt0 (by omega); rw [hsl] at hlt; rw [if_neg hneg, Int.toNat_natCast] at hP1; clear hlt0 hge hneg; have hex : (r.extract 0 at1).data.toList = r.data.toList.take at1 := by simp
      have hex2 : (r.extract (at1 + 1) r.size).data.toList = r.data.toList.drop (at1 + 1) := by
       simp; apply List.take_of_length_le; simp
      have i1 : (at1 : Int) ≤ (r.size : Int) := by omega
      have i2 : (at1 : Int) + 1 ≤ (r.size : Int) := by omega
      have i3 : (0 : Int) ≤ (at1 : Int) := by omega
      have i4 : ¬ (at1 : Int) < 0 := by omega
      have i5 : wrap64 ((at1 : Int) + 1) = (at1 : Int) + 1 := by go_arith
      have i7 : ((at1 : Int) + 1).toNat = at1 + 1 := by omega
      have i8 : (0 : Int) ≤ (at1 : Int) + 1 := by omega
      have i6 : Hid ((r.extract (at1 + 1) r.size).size ≤ 1000000) := by show _ ≤ _; simp; omega
      clear hrs; have HNB : Hid (∀ w, Calls Tryz.prog 208 #[.string (r.extract 0 at1)] w fun e w' => NumR (r.data.toList.take at1) e ∧ w = w') := fun w => by have := number_any (r.extract 0 at1) w; rw [hex] at this; exact this
      cases hn : numP (r.data.toList.take at1) with
      | none =>
       have HF : Hid (ReadN s.data.toList none) := readN_none (by rw [HP.out, hP1, hn]; rfl); obtain ⟨y0, y1, y2, y3⟩ := store4 HI.out.res (.int .u32 0) (.int .i64 0) (.int .i64 0) (.int .i64 0); have HB := Lib.hid (below_store4 HI.out.bel (Nat.le_refl _) (.int .u32 0) (.int .i64 0) (.int .i64 0) (.int .i64 0))
       have HNB2 : Hid (∀ w, Calls Tryz.prog 208 #[.string (r.extract 0 at1)] w fun e w' => e = .returned (.tuple #[.int .i64 0, .bool false]) ∧ w = w') := fun w => (HNB.out w).mono fun e w' ⟨h, k⟩ => by
        unfold NumR at h; rw [hn] at h; exact ⟨h, k⟩
       clear hP1 hn hex hex2 hsl hlt
       go_wp2_with (first
        | (go_at_call 194; refine cargs (by simp [Act.eval]; try rfl) ((HIX.out _).mono ?_); rintro e w1 ⟨rfl, rfl⟩)
        | (go_at_call 208; refine cargs (by simp [Act.eval]) ((HNB2.out _).mono ?_); rintro e w1 ⟨rfl, rfl⟩))
       try simp only [Exit.inBlock, Exit.then]
       refine bodyPost_ret (by simp [results, Tryz.results180, go_sem, y0, y1, y2, y3]; try rfl) rfl ?_; exact ⟨none, HF.out, rfl, HB.out⟩
      | some k =>
       have HP2 : Hid (pL sepsN s.data.toList = (pL (sepsN.drop 6) (r.extract (at1 + 1) r.size).data.toList).map fun m => (ks ++ [k]) ++ m) := by
        show _ = _; rw [HP.out, hP1, hn, hex2, Option.bind_some, Option.map_map]
        congr 1
        funext m
        simp
       have HNB2 : Hid (∀ w, Calls Tryz.prog 208 #[.string (r.extract 0 at1)] w fun e w' => e = .returned (.tuple #[.int .i64 k, .bool true]) ∧ w = w') := fun w => (HNB.out w).mono fun e w' ⟨h, k⟩ => by
        unfold NumR at h; rw [hn] at h; exact ⟨h, k⟩
       obtain ⟨⟨cv, hcv⟩, hfr⟩ := HI.out.store 5 (by omega); have HS := HI.out.set (by omega) k; rw [hks] at HS; have HI2 := Lib.hid HS; clear hP1 hn hex hex2 hsl HS hlt
       go_wp2_with (first
        | (go_at_call 194; refine cargs (by simp [Act.eval]; try rfl) ((HIX.out _).mono ?_); rintro e w1 ⟨rfl, rfl⟩)
        | (go_at_call 208; refine cargs (by simp [Act.eval]) ((HNB2.out _).mono ?_); rintro e w1 ⟨rfl, rfl⟩))
       go_roundw
       case rel => exact ⟨7, _, ks ++ [k], by omega, rfl, rfl, i6.out, by simp [hks], HI2, HP2⟩
       case measure => simp [intOf]
  ·obtain rfl : i = 7 := by omega
   clear h7 hi; have hP1 : pL (sepsN.drop (7 - 1)) r.data.toList = (numP r.data.toList).map fun k => [k] := rfl; obtain ⟨v0, v1, v2, v3, fz⟩ := HI.out.resf; have HNB : Hid (∀ w, Calls Tryz.prog 208 #[.string r] w fun e w' => NumR r.data.toList e ∧ w = w') := fun w => number_any r w
   cases hn : numP r.data.toList with
   | none =>
    have HF : Hid (ReadN s.data.toList none) := readN_none (by rw [HP.out, hP1, hn]; rfl); obtain ⟨y0, y1, y2, y3⟩ := store4 HI.out.res (.int .u32 0) (.int .i64 0) (.int .i64 0) (.int .i64 0); have HB := Lib.hid (below_store4 HI.out.bel (Nat.le_refl _) (.int .u32 0) (.int .i64 0) (.int .i64 0) (.int .i64 0))
    have HNB2 : Hid (∀ w, Calls Tryz.prog 208 #[.string r] w fun e w' => e = .returned (.tuple #[.int .i64 0, .bool false]) ∧ w = w') := fun w => (HNB.out w).mono fun e w' ⟨h, k⟩ => by
     unfold NumR at h; rw [hn] at h; exact ⟨h, k⟩
    have fz0 := fz 0; have fz1 := fz 1; have fz2 := fz 2; have fz3 := fz 3; clear fz hP1 hn
    go_wp2_with (go_at_call 208; refine cargs (by simp [Act.eval]) ((HNB2.out _).mono ?_); rintro e w1 ⟨rfl, rfl⟩)
    try simp only [Exit.inBlock, Exit.then]
    refine bodyPost_ret (by simp [results, Tryz.results180, go_sem, y0, y1, y2, y3]; try rfl) rfl ?_; exact ⟨none, HF.out, rfl, HB.out⟩
   | some k =>
    have hpl : pL sepsN s.data.toList = some (ks ++ [k]) := by rw [HP.out, hP1, hn]; rfl
    have HNB2 : Hid (∀ w, Calls Tryz.prog 208 #[.string r] w fun e w' => e = .returned (.tuple #[.int .i64 k, .bool true]) ∧ w = w') := fun w => (HNB.out w).mono fun e w' ⟨h, k⟩ => by
     unfold NumR at h; rw [hn] at h; exact ⟨h, k⟩
    have hsm := (pL_of _ _ _ hpl).2.2; have HPL := Lib.hid hpl; obtain ⟨⟨cv, hcv⟩, hfr⟩ := HI.out.store 6 (by omega); have HS := HI.out.set (by omega) k; rw [hks] at HS; have HI2 := Lib.hid HS; obtain ⟨a, b, c, d, e, f, rfl⟩ := list6' hks; have HSM := Lib.hid hsm; clear hP1 hn fz v0 v1 v2 v3 hpl hsm HS HP hks HI
    go_upto_region 23 with (go_at_call 208; refine cargs (by simp [Act.eval]) ((HNB2.out _).mono ?_); rintro e w1 ⟨rfl, rfl⟩)
    generalize wr.setCell ⟨w.heap.size + 1, 6, none⟩ (.int .i64 k) = W1 at *
    clear hcv hfr; have m4 : W1.cell? ⟨w.heap.size + 1, 4, none⟩ = some (.int .i64 e) := (cell_of_row _ _ _ _ _ _ HI2.out.row).trans rfl; have m5 : W1.cell? ⟨w.heap.size + 1, 5, none⟩ = some (.int .i64 f) := (cell_of_row _ _ _ _ _ _ HI2.out.row).trans rfl; have m6 : W1.cell? ⟨w.heap.size + 1, 6, none⟩ = some (.int .i64 k) := (cell_of_row _ _ _ _ _ _ HI2.out.row).trans rfl
    have HX0 : Hid ((W1.alloc (.cells #[.int .u32 0, .int .i64 e, .int .i64 f, .int .i64 k] 45)).heap[W1.heap.size]? = some (.cells #[.int .u32 ((ipJ ([a, b, c, d].take 0) : Nat) : Int), .int .i64 e, .int .i64 f, .int .i64 k] 45 (0, 0))) := heap_alloc_new _ _
    have HBX : Hid (Below W1.heap.size W1 (W1.alloc (.cells #[.int .u32 0, .int .i64 e, .int .i64 f, .int .i64 k] 45))) := (Below.refl _ _).alloc (Nat.le_refl _) _
    go_wp2_with fail; generalize W1.alloc (.cells #[.int .u32 0, .int .i64 e, .int .i64 f, .int .i64 k] 45) = W2 at *
    go_loopw [75] (fun jv wr => ∃ j : Nat, j ≤ 4 ∧ jv = .int .i64 j ∧ Hid (∀ x ∈ [a, b, c, d].take j, x ≤ 255) ∧ Hid (Below W1.heap.size W1 wr) ∧ Hid (wr.heap[W1.heap.size]? = some (.cells #[.int .u32 ((ipJ ([a, b, c, d].take j) : Nat) : Int), .int .i64 e, .int .i64 f, .int .i64 k] 45 (0, 0)))) (fun jv _ => 4 - (intOf jv).toNat)
    case atStart => exact ⟨0, by omega, rfl, fun x hx => by simp at hx, HBX, HX0⟩
    case round =>
     obtain ⟨j, hj, rfl, hZ, HBw, HX⟩ := hrel; have HI3 := Lib.hid (HI2.out.kept HBw.out); obtain ⟨v0, v1, v2, v3, fz⟩ := HI3.out.resf; obtain ⟨y0, y1, y2, y3⟩ := store4 HI3.out.res (.int .u32 0) (.int .i64 0) (.int .i64 0) (.int .i64 0); have HB := Lib.hid (below_store4 HI3.out.bel (Nat.le_refl _) (.int .u32 0) (.int .i64 0) (.int .i64 0) (.int .i64 0)); have fz0 := fz 0; have fz1 := fz 1
     have fz2 := fz 2; have fz3 := fz 3; clear fz; have hip := ipJ_lt _ hZ.out; have x0 := cell_of_row _ _ 0 _ _ _ HX.out; have x1 := cell_of_row _ _ 1 _ _ _ HX.out; have x2 := cell_of_row _ _ 2 _ _ _ HX.out; have x3 := cell_of_row _ _ 3 _ _ _ HX.out; simp at x0 x1 x2 x3; have xf := frozen_of_row _ _ 0 _ _ HX.out
     by_cases h4 : j < 4
     ·have hj4 : j = 0 ∨ j = 1 ∨ j = 2 ∨ j = 3 := by omega
      clear hj h4; rcases hj4 with rfl | rfl | rfl | rfl
      ·have my : wr.cell? ⟨w.heap.size + 1, 0, none⟩ = some (.int .i64 a) := (cell_of_row _ _ _ _ _ _ HI3.out.row).trans rfl
       by_cases hy : 255 < a
       ·have HF : Hid (ReadN s.data.toList none) := fun x hx hf e => by
         have h1 := readN_parts HPL.out hx hf e; obtain ⟨a', b', c', d', e', f', k', h2, q1, q2, q3, q4, rfl⟩ := parts_of hx hf; rw [h2] at h1; simp at h1; omega
        have hy2 : (255 : Int) < (a : Int) := by omega
        clear hy hip hZ
        go_wp2_with fail
        try simp only [Exit.inBlock, Exit.then]
        refine bodyPost_ret (by simp [results, Tryz.results180, go_sem, y0, y1, y2, y3]; try rfl) rfl ?_; exact ⟨none, HF.out, rfl, HB.out⟩
       ·have hy2 : ¬ (255 : Int) < (a : Int) := by omega
        have HZ2 : Hid (∀ x ∈ [a, b, c, d].take (0 + 1), x ≤ 255) := by
         have := hZ.out; show ∀ x ∈ _, _; simp at this ⊢; omega
        have hor := or_byte (ipJ ([a, b, c, d].take 0)) a (by have : 256 ^ (List.take 0 [a, b, c, d]).length ≤ 256 ^ 3 := Nat.pow_le_pow_right (by omega) (by simp); omega) (by omega); have hsn : ipJ ([a, b, c, d].take 0) * 256 + a = ipJ ([a, b, c, d].take (0 + 1)) := (ipJ_snoc _ _).symm
        have hPb : ipJ ([a, b, c, d].take 0) < 16777216 := by have : 256 ^ (List.take 0 [a, b, c, d]).length ≤ 256 ^ 3 := Nat.pow_le_pow_right (by omega) (by simp); omega
        obtain ⟨P2, hP2⟩ : ∃ P2, Hid (ipJ ([a, b, c, d].take 1) = P2) := ⟨_, rfl⟩
        rw [hsn, show ipJ ([a, b, c, d].take (0 + 1)) = P2 from hP2.out] at hor; generalize ipJ ([a, b, c, d].take 0) = P at *
        have HX2 : Hid ((wr.setCell ⟨W1.heap.size, 0, none⟩ (.int .u32 (P2 : Int))).heap[W1.heap.size]? = some (.cells #[.int .u32 (P2 : Int), .int .i64 e, .int .i64 f, .int .i64 k] 45 (0, 0))) := by
         show _ = _; have := heap_setCell_same wr W1.heap.size 0 _ _ (.int .u32 (P2 : Int)) HX.out; simpa using this
        have HBw2 : Hid (Below W1.heap.size W1 (wr.setCell ⟨W1.heap.size, 0, none⟩ (.int .u32 (P2 : Int)))) := HBw.out.setCell (Nat.le_refl _) _; have hyb : (a : Int) < 256 := by omega
        have hpI : (P : Int) * 256 < 4294967296 := by omega
        clear hip hsn hy hZ y0 y1 y2 y3 HB
        go_wp2_with fail; go_roundw
        case rel => exact ⟨1, by omega, rfl, HZ2, HBw2, by rw [hP2.out]; exact HX2⟩
        case measure => simp [intOf]
      ·have my : wr.cell? ⟨w.heap.size + 1, 1, none⟩ = some (.int .i64 b) := (cell_of_row _ _ _ _ _ _ HI3.out.row).trans rfl
       by_cases hy : 255 < b
       ·have HF : Hid (ReadN s.data.toList none) := fun x hx hf e => by
         have h1 := readN_parts HPL.out hx hf e; obtain ⟨a', b', c', d', e', f', k', h2, q1, q2, q3, q4, rfl⟩ := parts_of hx hf; rw [h2] at h1; simp at h1; omega
        have hy2 : (255 : Int) < (b : Int) := by omega
        clear hy hip hZ
        go_wp2_with fail
        try simp only [Exit.inBlock, Exit.then]
        refine bodyPost_ret (by simp [results, Tryz.results180, go_sem, y0, y1, y2, y3]; try rfl) rfl ?_; exact ⟨none, HF.out, rfl, HB.out⟩
       ·have hy2 : ¬ (255 : Int) < (b : Int) := by omega
        have HZ2 : Hid (∀ x ∈ [a, b, c, d].take (1 + 1), x ≤ 255) := by
         have := hZ.out; show ∀ x ∈ _, _; simp at this ⊢; omega
        have hor := or_byte (ipJ ([a, b, c, d].take 1)) b (by have : 256 ^ (List.take 1 [a, b, c, d]).length ≤ 256 ^ 3 := Nat.pow_le_pow_right (by omega) (by simp); omega) (by omega); have hsn : ipJ ([a, b, c, d].take 1) * 256 + b = ipJ ([a, b, c, d].take (1 + 1)) := (ipJ_snoc _ _).symm
        have hPb : ipJ ([a, b, c, d].take 1) < 16777216 := by have : 256 ^ (List.take 1 [a, b, c, d]).length ≤ 256 ^ 3 := Nat.pow_le_pow_right (by omega) (by simp); omega
        obtain ⟨P2, hP2⟩ : ∃ P2, Hid (ipJ ([a, b, c, d].take 2) = P2) := ⟨_, rfl⟩
        rw [hsn, show ipJ ([a, b, c, d].take (1 + 1)) = P2 from hP2.out] at hor; generalize ipJ ([a, b, c, d].take 1) = P at *
        have HX2 : Hid ((wr.setCell ⟨W1.heap.size, 0, none⟩ (.int .u32 (P2 : Int))).heap[W1.heap.size]? = some (.cells #[.int .u32 (P2 : Int), .int .i64 e, .int .i64 f, .int .i64 k] 45 (0, 0))) := by
         show _ = _; have := heap_setCell_same wr W1.heap.size 0 _ _ (.int .u32 (P2 : Int)) HX.out; simpa using this
        have HBw2 : Hid (Below W1.heap.size W1 (wr.setCell ⟨W1.heap.size, 0, none⟩ (.int .u32 (P2 : Int)))) := HBw.out.setCell (Nat.le_refl _) _; have hyb : (b : Int) < 256 := by omega
        have hpI : (P : Int) * 256 < 4294967296 := by omega
        clear hip hsn hy hZ y0 y1 y2 y3 HB
        go_wp2_with fail; go_roundw
        case rel => exact ⟨2, by omega, rfl, HZ2, HBw2, by rw [hP2.out]; exact HX2⟩
        case measure => simp [intOf]
      ·have my : wr.cell? ⟨w.heap.size + 1, 2, none⟩ = some (.int .i64 c) := (cell_of_row _ _ _ _ _ _ HI3.out.row).trans rfl
       by_cases hy : 255 < c
       ·have HF : Hid (ReadN s.data.toList none) := fun x hx hf e => by
         have h1 := readN_parts HPL.out hx hf e; obtain ⟨a', b', c', d', e', f', k', h2, q1, q2, q3, q4, rfl⟩ := parts_of hx hf; rw [h2] at h1; simp at h1; omega
        have hy2 : (255 : Int) < (c : Int) := by omega
        clear hy hip hZ
        go_wp2_with fail
        try simp only [Exit.inBlock, Exit.then]
        refine bodyPost_ret (by simp [results, Tryz.results180, go_sem, y0, y1, y2, y3]; try rfl) rfl ?_; exact ⟨none, HF.out, rfl, HB.out⟩
       ·have hy2 : ¬ (255 : Int) < (c : Int) := by omega
        have HZ2 : Hid (∀ x ∈ [a, b, c, d].take (2 + 1), x ≤ 255) := by
         have := hZ.out; show ∀ x ∈ _, _; simp at this ⊢; omega
        have hor := or_byte (ipJ ([a, b, c, d].take 2)) c (by have : 256 ^ (List.take 2 [a, b, c, d]).length ≤ 256 ^ 3 := Nat.pow_le_pow_right (by omega) (by simp); omega) (by omega); have hsn : ipJ ([a, b, c, d].take 2) * 256 + c = ipJ ([a, b, c, d].take (2 + 1)) := (ipJ_snoc _ _).symm
        have hPb : ipJ ([a, b, c, d].take 2) < 16777216 := by have : 256 ^ (List.take 2 [a, b, c, d]).length ≤ 256 ^ 3 := Nat.pow_le_pow_right (by omega) (by simp); omega
        obtain ⟨P2, hP2⟩ : ∃ P2, Hid (ipJ ([a, b, c, d].take 3) = P2) := ⟨_, rfl⟩
        rw [hsn, show ipJ ([a, b, c, d].take (2 + 1)) = P2 from hP2.out] at hor; generalize ipJ ([a, b, c, d].take 2) = P at *
        have HX2 : Hid ((wr.setCell ⟨W1.heap.size, 0, none⟩ (.int .u32 (P2 : Int))).heap[W1.heap.size]? = some (.cells #[.int .u32 (P2 : Int), .int .i64 e, .int .i64 f, .int .i64 k] 45 (0, 0))) := by
         show _ = _; have := heap_setCell_same wr W1.heap.size 0 _ _ (.int .u32 (P2 : Int)) HX.out; simpa using this
        have HBw2 : Hid (Below W1.heap.size W1 (wr.setCell ⟨W1.heap.size, 0, none⟩ (.int .u32 (P2 : Int)))) := HBw.out.setCell (Nat.le_refl _) _; have hyb : (c : Int) < 256 := by omega
        have hpI : (P : Int) * 256 < 4294967296 := by omega
        clear hip hsn hy hZ y0 y1 y2 y3 HB
        go_wp2_with fail; go_roundw
        case rel => exact ⟨3, by omega, rfl, HZ2, HBw2, by rw [hP2.out]; exact HX2⟩
        case measure => simp [intOf]
      ·have my : wr.cell? ⟨w.heap.size + 1, 3, none⟩ = some (.int .i64 d) := (cell_of_row _ _ _ _ _ _ HI3.out.row).trans rfl
       by_cases hy : 255 < d
       ·have HF : Hid (ReadN s.data.toList none) := fun x hx hf e => by
         have h1 := readN_parts HPL.out hx hf e; obtain ⟨a', b', c', d', e', f', k', h2, q1, q2, q3, q4, rfl⟩ := parts_of hx hf; rw [h2] at h1; simp at h1; omega
        have hy2 : (255 : Int) < (d : Int) := by omega
        clear hy hip hZ
        go_wp2_with fail
        try simp only [Exit.inBlock, Exit.then]
        refine bodyPost_ret (by simp [results, Tryz.results180, go_sem, y0, y1, y2, y3]; try rfl) rfl ?_; exact ⟨none, HF.out, rfl, HB.out⟩
       ·have hy2 : ¬ (255 : Int) < (d : Int) := by omega
        have HZ2 : Hid (∀ x ∈ [a, b, c, d].take (3 + 1), x ≤ 255) := by
         have := hZ.out; show ∀ x ∈ _, _; simp at this ⊢; omega
        have hor := or_byte (ipJ ([a, b, c, d].take 3)) d (by have : 256 ^ (List.take 3 [a, b, c, d]).length ≤ 256 ^ 3 := Nat.pow_le_pow_right (by omega) (by simp); omega) (by omega); have hsn : ipJ ([a, b, c, d].take 3) * 256 + d = ipJ ([a, b, c, d].take (3 + 1)) := (ipJ_snoc _ _).symm
        have hPb : ipJ ([a, b, c, d].take 3) < 16777216 := by have : 256 ^ (List.take 3 [a, b, c, d]).length ≤ 256 ^ 3 := Nat.pow_le_pow_right (by omega) (by simp); omega
        obtain ⟨P2, hP2⟩ : ∃ P2, Hid (ipJ ([a, b, c, d].take 4) = P2) := ⟨_, rfl⟩
        rw [hsn, show ipJ ([a, b, c, d].take (3 + 1)) = P2 from hP2.out] at hor; generalize ipJ ([a, b, c, d].take 3) = P at *
        have HX2 : Hid ((wr.setCell ⟨W1.heap.size, 0, none⟩ (.int .u32 (P2 : Int))).heap[W1.heap.size]? = some (.cells #[.int .u32 (P2 : Int), .int .i64 e, .int .i64 f, .int .i64 k] 45 (0, 0))) := by
         show _ = _; have := heap_setCell_same wr W1.heap.size 0 _ _ (.int .u32 (P2 : Int)) HX.out; simpa using this
        have HBw2 : Hid (Below W1.heap.size W1 (wr.setCell ⟨W1.heap.size, 0, none⟩ (.int .u32 (P2 : Int)))) := HBw.out.setCell (Nat.le_refl _) _; have hyb : (d : Int) < 256 := by omega
        have hpI : (P : Int) * 256 < 4294967296 := by omega
        clear hip hsn hy hZ y0 y1 y2 y3 HB
        go_wp2_with fail; go_roundw
        case rel => exact ⟨4, by omega, rfl, HZ2, HBw2, by rw [hP2.out]; exact HX2⟩
        case measure => simp [intOf]
     ·obtain rfl : j = 4 := by omega
      have hz4 : a ≤ 255 ∧ b ≤ 255 ∧ c ≤ 255 ∧ d ≤ 255 := by
       have := hZ.out
       simpa using this
      obtain ⟨ha, hb', hc, hd⟩ := hz4; have hP : ipJ ([a, b, c, d].take 4) = ((a * 256 + b) * 256 + c) * 256 + d := by simp [ipJ]
      have hsm := HSM.out; simp only [List.mem_append, List.mem_cons, List.not_mem_nil, or_false] at hsm; have hke := hsm e (by simp); have hkf := hsm f (by simp); have hkk := hsm k (by simp)
      have hok : (ofParts a b c d e f k).ok := by
       refine ⟨?_, ?_, ?_, ?_⟩
       ·simp only [ofParts]; omega
       ·simp [ofParts, Lit.wf, IntKind.min, IntKind.max, IntKind.signed, IntKind.bits]; omega
       ·simp [ofParts, Lit.wf, IntKind.min, IntKind.max, IntKind.signed, IntKind.bits]; omega
       ·simp [ofParts, Lit.wf, IntKind.min, IntKind.max, IntKind.signed, IntKind.bits]; omega
      have hpt := partsN_of a b c d e f k ha hb' hc hd
      have HCK : Hid (∀ w, Calls Tryz.prog 171 #[.agg #[.int .u32 ((ipJ ([a, b, c, d].take 4) : Nat) : Int), .int .i64 e, .int .i64 f, .int .i64 k]] w fun e' w' => e' = .returned (errV (netF (ofParts a b c d e f k))) ∧ Below w.heap.size w w') := fun w => by
       have := netCheck_any (ofParts a b c d e f k) w hok; rw [hP]; exact this
      have HVV : Hid ((ofParts a b c d e f k).v = .agg #[.int .u32 ((ipJ ([a, b, c, d].take 4) : Nat) : Int), .int .i64 e, .int .i64 f, .int .i64 k]) := by show _ = _; rw [hP]; rfl
      have HEQ : Hid (∀ x : NetD, x.ok → netF x = 0 → s.data.toList = textN x → x = ofParts a b c d e f k) := fun x hx hf e => by
       have h1 := readN_parts HPL.out hx hf e; obtain ⟨a', b', c', d', e', f', k', h2, q1, q2, q3, q4, rfl⟩ := parts_of hx hf; rw [h2] at h1; simp at h1; obtain ⟨rfl, rfl, rfl, rfl, rfl, rfl, rfl⟩ := h1; rfl
      have HPL2 : Hid (pL sepsN s.data.toList = some (partsN (ofParts a b c d e f k))) := by show _ = _; rw [hpt]; exact HPL.out
      generalize ipJ ([a, b, c, d].take 4) = P at *
      clear hip hZ hP hpt hsm hke hkf hkk HSM
      by_cases hz : netF (ofParts a b c d e f k) = 0
      ·have HF : Hid (ReadN s.data.toList (some (ofParts a b c d e f k))) := ⟨hok, hz, by
        have := (pL_of _ _ _ HPL2.out).1; exact this⟩
       rw [hz] at HCK; have HC2 : Hid (∀ w, Calls Tryz.prog 171 #[.agg #[.int .u32 (P : Int), .int .i64 e, .int .i64 f, .int .i64 k]] w fun e' w' => e' = .returned .nilIface ∧ Below w.heap.size w w') := HCK.out; clear HCK hz hok y0 y1 y2 y3 HB
       go_upto_region 33 with (go_at_call 171; refine cargs (by simp [Act.eval]) ((HC2.out _).mono ?_); rintro e2 w4 ⟨rfl, hb4⟩)
       have HI4 := Lib.hid (HI3.out.kept hb4); have HX4 := (hb4.block _ (Array.getElem?_eq_some_iff.1 HX.out).1).trans HX.out; obtain ⟨u0, u1, u2, u3, gz⟩ := HI4.out.resf; obtain ⟨y0, y1, y2, y3⟩ := store4 HI4.out.res (.int .u32 P) (.int .i64 e) (.int .i64 f) (.int .i64 k); have HB := Lib.hid (below_store4 HI4.out.bel (Nat.le_refl _) (.int .u32 P) (.int .i64 e) (.int .i64 f) (.int .i64 k))
       have gz0 := gz 0; have gz1 := gz 1; have gz2 := gz 2; have gz3 := gz 3; have z0 := cell_of_row _ _ 0 _ _ _ HX4; have z1 := cell_of_row _ _ 1 _ _ _ HX4; have z2 := cell_of_row _ _ 2 _ _ _ HX4; have z3 := cell_of_row _ _ 3 _ _ _ HX4; simp at z0 z1 z2 z3; clear gz HX4 hb4
       go_wp2_with fail
       try simp only [Exit.inBlock, Exit.then]
       refine bodyPost_ret (by simp [results, Tryz.results180, go_sem, y0, y1, y2, y3]; try rfl) rfl ?_; exact ⟨some (ofParts a b c d e f k), HF.out, by simp only [netV]; rw [HVV.out], HB.out⟩
      ·have HF : Hid (ReadN s.data.toList none) := fun x hx hf e => hz (HEQ.out x hx hf e ▸ hf); rw [errV_pos hz] at HCK; generalize netF (ofParts a b c d e f k) = nf at *
       have HC2 : Hid (∀ w, Calls Tryz.prog 171 #[.agg #[.int .u32 (P : Int), .int .i64 e, .int .i64 f, .int .i64 k]] w fun e' w' => e' = .returned (.iface 105 (.int .i64 nf)) ∧ Below w.heap.size w w') := HCK.out; clear HCK hz hok y0 y1 y2 y3 HB
       go_upto_region 32 with (go_at_call 171; refine cargs (by simp [Act.eval]) ((HC2.out _).mono ?_); rintro e2 w4 ⟨rfl, hb4⟩)
       have HI4 := Lib.hid (HI3.out.kept hb4); obtain ⟨u0, u1, u2, u3, gz⟩ := HI4.out.resf; obtain ⟨y0, y1, y2, y3⟩ := store4 HI4.out.res (.int .u32 0) (.int .i64 0) (.int .i64 0) (.int .i64 0); have HB := Lib.hid (below_store4 HI4.out.bel (Nat.le_refl _) (.int .u32 0) (.int .i64 0) (.int .i64 0) (.int .i64 0)); have gz0 := gz 0; have gz1 := gz 1; have gz2 := gz 2; have gz3 := gz 3; clear gz hb4
       go_wp2_with fail
       try simp only [Exit.inBlock, Exit.then]
       refine bodyPost_ret (by simp [results, Tryz.results180, go_sem, y0, y1, y2, y3]; try rfl) rfl ?_; exact ⟨none, HF.out, rfl, HB.out⟩
end Go.Proofs.YtmgngapkgcofnabGreatDoor
