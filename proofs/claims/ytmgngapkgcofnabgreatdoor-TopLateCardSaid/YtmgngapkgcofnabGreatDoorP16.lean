/- glob.parts: the walk. -/
import Derived.Test.YtmgngapkgcofnabGreatDoorP14
import Derived.Maps.AppendAt
import Derived.OwnWalk
import Derived.Deep.CutBlock
import Derived.Test.YtmgngapkgcofnabGreatDoorP15
import Derived.Laws.MakeOwn
import Derived.Test.YtmgngapkgcofnabGreatDoorP11
import Derived.Deep.RegionHeld3
import Derived.Deep.DeepCutAuto
import Derived.Deep.RegionLaw
import Derived.Deep.AppendLies
import Derived.BigRegion
import Derived.MapKept
import Derived.Carry
namespace Go.Proofs.YtmgngapkgcofnabGreatDoor
open Go.RowKit
theorem row_slice {ops : Array Oper} {rest : List Oper} {o : Oper} {a : Act} {w : World} {Q : Exit → Act → World → Prop} (hg : o.guard = none) (x : Operand) (ho : o.op = .buildSlice 268 1 #[(0, x)])
  (R : Array Value) (hR : R.size = 257) (hx : a.eval x = .agg R) (d : Option Tmp) (hd : o.dst = d)
  (h : wpList Tryz.prog ops Q rest (a.put d (.slice (some ⟨w.heap.size, 0, none⟩) 1 1)) (w.alloc (.cells R 275))) : wpList Tryz.prog ops Q (o :: rest) a w := by
 subst hd; have hi := part_info; have hz : ((Tryz.prog.info? 275).bind (·.zero)) = some (.agg Tryz.zeroCells275) := by kernel_rfl
 cases hie : Tryz.prog.info? 275 with
 | none => simp [hie] at hi
 | some ie =>
  simp only [hie, Option.map_some, Option.some.injEq, Option.bind_some] at hi hz; refine wpList_buildSlice hg _ _ 1 _ ho R ie _ Tryz.underlying268 hie hz (by rw [hi]; decide) (by rw [hi]; decide) ?_ h
  have := Great.fill_whole (s := 257) (by decide) [.agg R] ((Array.range (1 * 257)).map ((Value.agg Tryz.zeroCells275).cells[· % (Value.agg Tryz.zeroCells275).cells.size]!)) (by intro v hv; simp at hv; subst hv; exact hR) (by simp); rw [hi]; simp only [List.map_toArray, hx, List.map_cons, List.map_nil]
  simpa [Value.cells] using this
theorem row_load {ops : Array Oper} {rest : List Oper} {o : Oper} {a : Act} {w : World} {Q : Exit → Act → World → Prop} (hgd : o.guard = none) (x : Operand) (ho : o.op = .load 275 x) (dst : Option Tmp) (hdst : o.dst = dst)
  (ad : Addr) (hx : a.eval x = .pointer (some ad)) (p : Part) (R : Array Value) (hR : p.row = R) (hc : ∀ j v, R[j]? = some v → w.cell? (ad.add j) = some v)
  (h : wpList Tryz.prog ops Q rest (a.put dst (.agg R)) w) : wpList Tryz.prog ops Q (o :: rest) a w := by
 subst hR; exact part_load hgd x ho dst hdst ad hx p hc h
def flatP (l : List Part) : List Value := l.flatMap fun p => p.row.toList
theorem flatP_snoc (l : List Part) (p : Part) : flatP (l ++ [p]) = flatP l ++ p.row.toList := by simp [flatP]
theorem part_i : (Tryz.prog.info? 275).map (fun i => (i.zero, i.size, i.bytes)) = some (some (.agg Tryz.zeroCells275), 257, 257) := by kernel_rfl
theorem own_ge' {w : World} {B : Nat} {e : TypeId} {sz n : Nat} {v : Value} {xs : List Value} (h : w.ownsRow B e sz v n xs) : ∀ k, v.ownBlock = some k → B ≤ k := by
 obtain ⟨_, (⟨rfl, _⟩ | ⟨g, cap, cur, rfl, hB, _⟩)⟩ := h
 ·intro k h; simp [Value.ownBlock] at h
 ·intro k h; simp [Value.ownBlock] at h; omega
theorem own_below {w w' : World} {B H : Nat} {e : TypeId} {sz n : Nat} {v : Value} {xs : List Value} (h : w.ownsRow B e sz v n xs) (hb : Below H w w') (hH : w.heap.size ≤ H) : w'.ownsRow B e sz v n xs := by
 obtain ⟨h1, (⟨rfl, h2⟩ | ⟨g, cap, cur, rfl, hB, hg, h3⟩)⟩ := h
 ·exact ⟨h1, .inl ⟨rfl, h2⟩⟩
 ·have hlt : g < w.heap.size := by
   rcases Nat.lt_or_ge g w.heap.size with h | h
   ·exact h
   ·simp [Array.getElem?_eq_none h] at hg
  exact ⟨h1, .inr ⟨g, cap, cur, rfl, hB, (hb.block g (by omega)).trans hg, h3⟩⟩
def PartsR (l : List Int) (B : Nat) (e : Ending) (w' : World) : Prop := match partsF l with
 | some ps => ∃ v, e = .returned (.tuple #[v, .bool true]) ∧ w'.ownsRow B 275 257 v ps.length (flatP ps)
 | none => e = .returned (.tuple #[.slice none 0 0, .bool false])
theorem partsF_nil : partsF [] = some [] := rfl
theorem partsF_cons {l : List Int} (h : l ≠ []) : partsF l = (partL l).bind fun x => (partsF x.2).map (x.1 :: ·) := by
 rw [partsF_eq, partsP_cons h]
 cases partL l with
 | none => rfl
 | some x =>
  simp only [Option.bind_some]; rw [partsF_eq]
  cases partsP x.2 <;> rfl
theorem partL_star {x : Int} (h : x ≠ 42) (r : List Int) : partL (((42 : Nat) : Int) :: x :: r) = some (anyP false true, x :: r) := by
 simp only [partL]; split
 ·split
  ·rename_i e; simp at e; exact (h e.1).elim
  ·rfl
 ·rename_i e; exact (e rfl).elim
theorem partL_esc {x : Nat} (h : specialF (x : Int) = true) (r : List Int) : partL (((92 : Nat) : Int) :: (x : Int) :: r) = some (oneP x, r) := by
 simp [partL, h]
theorem partL_noesc {x : Int} (h : specialF x = false) (r : List Int) : partL (((92 : Nat) : Int) :: x :: r) = none := by
 simp [partL, h]
theorem partL_plain {c : Int} (h1 : c ≠ 42) (h2 : c ≠ 63) (h3 : c ≠ 91) (h4 : c ≠ 92) (h : plainF c = true) (r : List Int) : partL (c :: r) = some (oneP c, r) := by
 simp [partL, h1, h2, h3, h4, h]
theorem partL_bad {c : Int} (h1 : c ≠ 42) (h2 : c ≠ 63) (h3 : c ≠ 91) (h4 : c ≠ 92) (h : plainF c = false) (r : List Int) : partL (c :: r) = none := by
 simp [partL, h1, h2, h3, h4, h]
theorem upd_one (c : Nat) : (⟨upd (⟨fun _ => false, false⟩ : Part).has c true, (⟨fun _ => false, false⟩ : Part).many⟩ : Part) = oneP c := by
 unfold oneP upd
 congr 1
 funext i
 by_cases h : i = c
 ·subst h; simp
 ·rw [if_neg h]; simp; omega
theorem class_yes (s : ByteArray) (w : World) (hs : s.size ≤ 4096) {p : Part} {r : List Int} (h : classF (bytesOf s) = some (p, r)) :
  Calls Tryz.prog 202 #[.string s] w fun e w' => ∃ t : ByteArray, bytesOf t = r ∧ e = .returned (.tuple #[.agg p.row, .string t, .bool true]) ∧ Below w.heap.size w w' :=
 (class_any s w hs).mono fun e w' ⟨h1, h2⟩ => by
  unfold ClassR at h1; rw [h] at h1; obtain ⟨t, h3, h4⟩ := h1; exact ⟨t, h3, h4, h2⟩
theorem class_no (s : ByteArray) (w : World) (hs : s.size ≤ 4096) (h : classF (bytesOf s) = none) :
  Calls Tryz.prog 202 #[.string s] w fun e w' => e = .returned (.tuple #[.agg Part.zero.row, .string ⟨#[]⟩, .bool false]) ∧ Below w.heap.size w w' :=
 (class_any s w hs).mono fun e w' ⟨h1, h2⟩ => by
  unfold ClassR at h1; rw [h] at h1; exact ⟨h1, h2⟩
def SwR (l : List Int) (g : Nat) (W : World) (sv okv : Value) (wc : World) : Prop := Below g W wc ∧ match partL l with
 | some (p, r) => ∃ t2 : ByteArray, sv = .string t2 ∧ bytesOf t2 = r ∧ okv = .bool true ∧ PartAt wc g p
 | none => okv = .bool false
theorem SwR.yes {l : List Int} {g : Nat} {W : World} {t2 : ByteArray} {wc : World} {p : Part} (hb : Below g W wc) (h : partL l = some (p, bytesOf t2)) (hp : PartAt wc g p) : SwR l g W (.string t2) (.bool true) wc := by
 unfold SwR; rw [h]; exact ⟨hb, t2, rfl, rfl, rfl, hp⟩
theorem SwR.no {l : List Int} {g : Nat} {W : World} {sv : Value} {wc : World} (hb : Below g W wc) (h : partL l = none) : SwR l g W sv (.bool false) wc := by
 unfold SwR; rw [h]; exact ⟨hb, rfl⟩
set_option linter.unusedSimpArgs false in
set_option maxRecDepth 100000 in
set_option maxHeartbeats 4000000 in
theorem parts_any (s : ByteArray) (w : World) (hs : s.size ≤ 4096) :
  Calls Tryz.prog 172 #[.string s] w fun e w' => PartsR (bytesOf s) w.heap.size e w' ∧ Below w.heap.size w w' := by
 have hPR : Hid (∀ e w', PartsR (bytesOf s) w.heap.size e w' = PartsR (bytesOf s) w.heap.size e w') := fun _ _ => rfl; obtain ⟨i0, hi, hz0, hz1, hz2⟩ := info_parts part_i; go_enter Tryz.func172, Tryz.ntmps172
 go_wp2_with fail
 go_loopw [0, 4] (fun sv lv wr => ∃ (t' : ByteArray) (ps : List Part), sv = .string t' ∧ ps.length + t'.size ≤ s.size ∧ wr.ownsRow w.heap.size 275 257 lv ps.length (flatP ps) ∧ Below w.heap.size w wr ∧ Hid ((partsF (bytesOf t')).map (ps ++ ·) = partsF (bytesOf s))) (fun sv _ _ => strLen sv)
 case atStart =>
  refine ⟨s, [], rfl, by simp, World.ownsRow_nil _ _ _ _, Below.refl _ _, ?_⟩; show _ = _
  cases partsF (bytesOf s) <;> rfl
 case round =>
  obtain ⟨t', ps, rfl, hn, hown, hb, hC⟩ := hrel; rcases Nat.eq_zero_or_pos t'.size with h0 | h0
  ·have y1 : t'.toList.isEmpty = true := by rw [isEmpty_of]; simpa using h0
   have hF : Hid (partsF (bytesOf s) = some ps) := by
    show _ = _; rw [← hC.out, bytesOf_nil h0, partsF_nil]; simp
   clear hC; have HO := Lib.hid hown; clear hown
   go_wp2_with fail
   go_ret2
   refine ⟨?_, hb⟩; unfold PartsR; rw [hF.out]; exact ⟨_, rfl, HO.out⟩
  ·have y1 : t'.toList.isEmpty = false := by rw [isEmpty_of]; exact decide_eq_false (by omega)
   have y2 : ∃ l, Hid (bytesOf t' = l) := ⟨_, rfl⟩
   obtain ⟨l, hl⟩ := y2; have hcons := bytesOf_cons t' h0; have y3 := bytesOf_range t'; rw [hl.out] at hcons y3 hC; generalize hd : t'[0].toNat = c at *
   have hs' : ¬ ((t'.size : Int) < 1) := by omega
   have hs2 : (1 : Int) ≤ (t'.size : Int) := by omega
   have HO := Lib.hid hown; have HC := Lib.hid hcons
   have HL : Hid (∀ p r, partL l = some (p, r) → ps.length + 1 + r.length ≤ s.size ∧ r.length < t'.size) := by
    intro p r h; have := partL_len h; rw [← hl.out, bytesOf_length] at this; omega
   have HLn : Hid (l ≠ []) := by
    show _ ≠ _; rw [hcons]; simp
   clear hown hcons
   go_upto_block 2 with fail
   have r1 : t'.size = (t'.extract 1 t'.size).size + 1 := by simp; omega
   generalize t'.extract 1 t'.size = t1 at *
   have e0 : (wr.alloc (.cells Tryz.zeroCells275 275)).heap[wr.heap.size]? = some (.cells Tryz.zeroCells275 275 (0, 0)) := heap_alloc_new _ _; have e2 : (wr.alloc (.cells Tryz.zeroCells275 275)).heap.size = wr.heap.size + 1 := by simp
   have e3 : Below wr.heap.size wr (wr.alloc (.cells Tryz.zeroCells275 275)) := (Below.refl _ _).alloc (Nat.le_refl _) _; generalize wr.alloc (.cells Tryz.zeroCells275 275) = W at *
   have HE3 := Lib.hid e3; clear e3
   go_cut [0, 7] (fun sv okv wc => SwR l wr.heap.size W sv okv wc)
   case first =>
    by_cases c42 : c = 42
    ·subst c42; rcases Nat.eq_zero_or_pos t1.size with z0 | z0
     ·have z1 : t1.toList.isEmpty = true := by rw [isEmpty_of]; simpa using z0
      have HP : Hid (partL l = some (anyP false true, bytesOf t1)) := by show _ = _; rw [HC.out, bytesOf_nil z0]; rfl
      clear HC HL HLn hC
      go_wp2_with (first
       | (go_at_call 201; refine (any_any _ _ _).mono ?_; rintro e w1 ⟨rfl, hb1⟩; have e1 : w1.heap[wr.heap.size]? = some (.cells Tryz.zeroCells275 275 (0, 0)) := (hb1.block _ (by omega)).trans e0)
       | (refine part_store rfl (.tmp 6) (.tmp 32) rfl rfl wr.heap.size (anyP false true) (by simp [Act.eval]) (by simp [Act.eval]) Tryz.zeroCells275 e1 Tryz.zeroCells275_size ?_))
      go_meet
      exact SwR.yes (below_setRow_at (hb1.mono (by omega)) (Nat.le_refl _) _) HP.out (heap_setRow_at e1)
     ·have z1 : t1.toList.isEmpty = false := by rw [isEmpty_of]; exact decide_eq_false (by omega)
      have HT := bytesOf_cons t1 z0; have z4 : 1 ≤ t1.size := z0; have z5 : ¬ ((t1.size : Int) < 1) := by omega
      have z6 : (1 : Int) ≤ (t1.size : Int) := by omega
      by_cases z2 : t1[0].toNat = 42
      ·have HP : Hid (partL l = some (anyP true true, bytesOf (t1.extract 1 t1.size))) := by show _ = _; rw [HC.out, HT, z2]; rfl
       clear HC HL HLn hC HT
       go_wp2_with (first
        | (go_at_call 201; refine (any_any _ _ _).mono ?_; rintro e w1 ⟨rfl, hb1⟩; have e1 : w1.heap[wr.heap.size]? = some (.cells Tryz.zeroCells275 275 (0, 0)) := (hb1.block _ (by omega)).trans e0)
        | (refine part_store rfl (.tmp 6) (.tmp 28) rfl rfl wr.heap.size (anyP true true) (by simp [Act.eval]) (by simp [Act.eval]) Tryz.zeroCells275 e1 Tryz.zeroCells275_size ?_))
       go_meet
       exact SwR.yes (below_setRow_at (hb1.mono (by omega)) (Nat.le_refl _) _) HP.out (heap_setRow_at e1)
      ·have HP : Hid (partL l = some (anyP false true, bytesOf t1)) := by
        show _ = _; rw [HC.out, HT]; exact partL_star (by omega) _
       have z3 : ((t1[0].toNat : Int) == 42) = false := by simp; omega
       clear HC HL HLn hC HT
       go_wp2_with (first
        | (go_at_call 201; refine (any_any _ _ _).mono ?_; rintro e w1 ⟨rfl, hb1⟩; have e1 : w1.heap[wr.heap.size]? = some (.cells Tryz.zeroCells275 275 (0, 0)) := (hb1.block _ (by omega)).trans e0)
        | (refine part_store rfl (.tmp 6) (.tmp 32) rfl rfl wr.heap.size (anyP false true) (by simp [Act.eval]) (by simp [Act.eval]) Tryz.zeroCells275 e1 Tryz.zeroCells275_size ?_))
       go_meet
       exact SwR.yes (below_setRow_at (hb1.mono (by omega)) (Nat.le_refl _) _) HP.out (heap_setRow_at e1)
    ·have d42 : ((c : Int) == 42) = false := by simp; omega
     by_cases c63 : c = 63
     ·subst c63; have HP : Hid (partL l = some (anyP false false, bytesOf t1)) := by show _ = _; rw [HC.out]; rfl
      clear HC HL HLn hC
      go_wp2_with (first
       | (go_at_call 201; refine (any_any _ _ _).mono ?_; rintro e w1 ⟨rfl, hb1⟩; have e1 : w1.heap[wr.heap.size]? = some (.cells Tryz.zeroCells275 275 (0, 0)) := (hb1.block _ (by omega)).trans e0)
       | (refine part_store rfl (.tmp 6) (.tmp 36) rfl rfl wr.heap.size (anyP false false) (by simp [Act.eval]) (by simp [Act.eval]) Tryz.zeroCells275 e1 Tryz.zeroCells275_size ?_))
      go_meet
      exact SwR.yes (below_setRow_at (hb1.mono (by omega)) (Nat.le_refl _) _) HP.out (heap_setRow_at e1)
     ·have d63 : ((c : Int) == 63) = false := by simp; omega
      by_cases c91 : c = 91
      ·subst c91; have hsz : t1.size ≤ 4096 := by omega
       cases hcl : classF (bytesOf t1) with
       | none =>
        have HP : Hid (partL l = none) := by show _ = _; rw [HC.out]; exact hcl
        have HK := Lib.hid hcl; clear HC HL HLn hC hcl
        go_wp2_with (first
         | (go_at_call 202; refine (class_no _ _ hsz HK.out).mono ?_; rintro e w1 ⟨rfl, hb1⟩; have e1 : w1.heap[wr.heap.size]? = some (.cells Tryz.zeroCells275 275 (0, 0)) := (hb1.block _ (by omega)).trans e0)
         | (refine part_store rfl (.tmp 6) (.tmp 43) rfl rfl wr.heap.size Part.zero (by simp [Act.eval]) (by simp [Act.eval, zero_row]) Tryz.zeroCells275 e1 Tryz.zeroCells275_size ?_))
        go_meet
        exact SwR.no (below_setRow_at (hb1.mono (by omega)) (Nat.le_refl _) _) HP.out
       | some x =>
        obtain ⟨p, r⟩ := x; have HP : Hid (partL l = some (p, r)) := by show _ = _; rw [HC.out]; exact hcl
        have HK := Lib.hid hcl; clear HC HL HLn hC hcl
        go_wp2_with (first
         | (go_at_call 202; refine (class_yes _ _ hsz HK.out).mono ?_; rintro e w1 ⟨t2, ht2, rfl, hb1⟩; have HT2 := Lib.hid ht2; clear ht2; have e1 : w1.heap[wr.heap.size]? = some (.cells Tryz.zeroCells275 275 (0, 0)) := (hb1.block _ (by omega)).trans e0)
         | (refine part_store rfl (.tmp 6) (.tmp 43) rfl rfl wr.heap.size p (by simp [Act.eval]) (by simp [Act.eval]) Tryz.zeroCells275 e1 Tryz.zeroCells275_size ?_))
        go_meet
        exact SwR.yes (below_setRow_at (hb1.mono (by omega)) (Nat.le_refl _) _) (by rw [HT2.out]; exact HP.out) (heap_setRow_at e1)
      ·have d91 : ((c : Int) == 91) = false := by simp; omega
       by_cases c92 : c = 92
       ·subst c92; have pl : plainF ((92 : Nat) : Int) = false := by decide
        rcases Nat.eq_zero_or_pos t1.size with z0 | z0
        ·have z1 : t1.toList.isEmpty = true := by rw [isEmpty_of]; simpa using z0
         have HP : Hid (partL l = none) := by show _ = _; rw [HC.out, bytesOf_nil z0]; rfl
         clear HC HL HLn hC
         go_wp2_with (go_at_call 203; refine (plain_any _ _).mono ?_; rintro e w1 ⟨rfl, rfl⟩)
         go_meet
         exact SwR.no (Below.refl _ _) HP.out
        ·have z1 : t1.toList.isEmpty = false := by rw [isEmpty_of]; exact decide_eq_false (by omega)
         have HT := bytesOf_cons t1 z0; have z4 : 1 ≤ t1.size := z0; have z5 : ¬ ((t1.size : Int) < 1) := by omega
         have z6 : (1 : Int) ≤ (t1.size : Int) := by omega
         by_cases hsp : specialF (t1[0].toNat : Int) = true
         ·have h5 : t1[0].toNat = 42 ∨ t1[0].toNat = 63 ∨ t1[0].toNat = 91 ∨ t1[0].toNat = 93 ∨ t1[0].toNat = 92 := by
           simp [specialF] at hsp; omega
          have HP : Hid (partL l = some (oneP t1[0].toNat, bytesOf (t1.extract 1 t1.size))) := by show _ = _; rw [HC.out, HT]; exact partL_esc hsp _
          clear HC HL HLn hC HT hsp; rcases h5 with h5 | h5 | h5 | h5 | h5
          all_goals rw [h5] at HP
          ·have f0 : PartAt W wr.heap.size ⟨fun _ => false, false⟩ := by
            show _ = _; rw [show (⟨fun _ => false, false⟩ : Part).row = Tryz.zeroCells275 from zero_row.symm]; exact e0
           have f1 := f0.frozen 42; have f2 := f0.at (i := 42) (by omega)
           have f3 : Hid (PartAt (W.setCell ⟨wr.heap.size, 42, none⟩ (.bool true)) wr.heap.size (oneP 42)) := by
            have := f0.set (i := 42) (by omega) true; rw [show (⟨upd (⟨fun _ => false, false⟩ : Part).has 42 true, (⟨fun _ => false, false⟩ : Part).many⟩ : Part) = oneP 42 from upd_one 42] at this; exact this
           have f4 : Hid (Below wr.heap.size W (W.setCell ⟨wr.heap.size, 42, none⟩ (.bool true))) := (Below.refl wr.heap.size W).setCell (p := ⟨wr.heap.size, 42, none⟩) (Nat.le_refl _) _; have x5 : (42 : Int) < 256 := by omega
           have x6 : (0 : Int) ≤ (42 : Int) := by omega
           clear f0
           go_wp2_with fail
           go_meet
           exact SwR.yes f4.out HP.out f3.out
          ·have f0 : PartAt W wr.heap.size ⟨fun _ => false, false⟩ := by
            show _ = _; rw [show (⟨fun _ => false, false⟩ : Part).row = Tryz.zeroCells275 from zero_row.symm]; exact e0
           have f1 := f0.frozen 63; have f2 := f0.at (i := 63) (by omega)
           have f3 : Hid (PartAt (W.setCell ⟨wr.heap.size, 63, none⟩ (.bool true)) wr.heap.size (oneP 63)) := by
            have := f0.set (i := 63) (by omega) true; rw [show (⟨upd (⟨fun _ => false, false⟩ : Part).has 63 true, (⟨fun _ => false, false⟩ : Part).many⟩ : Part) = oneP 63 from upd_one 63] at this; exact this
           have f4 : Hid (Below wr.heap.size W (W.setCell ⟨wr.heap.size, 63, none⟩ (.bool true))) := (Below.refl wr.heap.size W).setCell (p := ⟨wr.heap.size, 63, none⟩) (Nat.le_refl _) _; have x5 : (63 : Int) < 256 := by omega
           have x6 : (0 : Int) ≤ (63 : Int) := by omega
           clear f0
           go_wp2_with fail
           go_meet
           exact SwR.yes f4.out HP.out f3.out
          ·have f0 : PartAt W wr.heap.size ⟨fun _ => false, false⟩ := by
            show _ = _; rw [show (⟨fun _ => false, false⟩ : Part).row = Tryz.zeroCells275 from zero_row.symm]; exact e0
           have f1 := f0.frozen 91; have f2 := f0.at (i := 91) (by omega)
           have f3 : Hid (PartAt (W.setCell ⟨wr.heap.size, 91, none⟩ (.bool true)) wr.heap.size (oneP 91)) := by
            have := f0.set (i := 91) (by omega) true; rw [show (⟨upd (⟨fun _ => false, false⟩ : Part).has 91 true, (⟨fun _ => false, false⟩ : Part).many⟩ : Part) = oneP 91 from upd_one 91] at this; exact this
           have f4 : Hid (Below wr.heap.size W (W.setCell ⟨wr.heap.size, 91, none⟩ (.bool true))) := (Below.refl wr.heap.size W).setCell (p := ⟨wr.heap.size, 91, none⟩) (Nat.le_refl _) _; have x5 : (91 : Int) < 256 := by omega
           have x6 : (0 : Int) ≤ (91 : Int) := by omega
           clear f0
           go_wp2_with fail
           go_meet
           exact SwR.yes f4.out HP.out f3.out
          ·have f0 : PartAt W wr.heap.size ⟨fun _ => false, false⟩ := by
            show _ = _; rw [show (⟨fun _ => false, false⟩ : Part).row = Tryz.zeroCells275 from zero_row.symm]; exact e0
           have f1 := f0.frozen 93; have f2 := f0.at (i := 93) (by omega)
           have f3 : Hid (PartAt (W.setCell ⟨wr.heap.size, 93, none⟩ (.bool true)) wr.heap.size (oneP 93)) := by
            have := f0.set (i := 93) (by omega) true; rw [show (⟨upd (⟨fun _ => false, false⟩ : Part).has 93 true, (⟨fun _ => false, false⟩ : Part).many⟩ : Part) = oneP 93 from upd_one 93] at this; exact this
           have f4 : Hid (Below wr.heap.size W (W.setCell ⟨wr.heap.size, 93, none⟩ (.bool true))) := (Below.refl wr.heap.size W).setCell (p := ⟨wr.heap.size, 93, none⟩) (Nat.le_refl _) _; have x5 : (93 : Int) < 256 := by omega
           have x6 : (0 : Int) ≤ (93 : Int) := by omega
           clear f0
           go_wp2_with fail
           go_meet
           exact SwR.yes f4.out HP.out f3.out
          ·have f0 : PartAt W wr.heap.size ⟨fun _ => false, false⟩ := by
            show _ = _; rw [show (⟨fun _ => false, false⟩ : Part).row = Tryz.zeroCells275 from zero_row.symm]; exact e0
           have f1 := f0.frozen 92; have f2 := f0.at (i := 92) (by omega)
           have f3 : Hid (PartAt (W.setCell ⟨wr.heap.size, 92, none⟩ (.bool true)) wr.heap.size (oneP 92)) := by
            have := f0.set (i := 92) (by omega) true; rw [show (⟨upd (⟨fun _ => false, false⟩ : Part).has 92 true, (⟨fun _ => false, false⟩ : Part).many⟩ : Part) = oneP 92 from upd_one 92] at this; exact this
           have f4 : Hid (Below wr.heap.size W (W.setCell ⟨wr.heap.size, 92, none⟩ (.bool true))) := (Below.refl wr.heap.size W).setCell (p := ⟨wr.heap.size, 92, none⟩) (Nat.le_refl _) _; have x5 : (92 : Int) < 256 := by omega
           have x6 : (0 : Int) ≤ (92 : Int) := by omega
           clear f0
           go_wp2_with fail
           go_meet
           exact SwR.yes f4.out HP.out f3.out
         ·have HP : Hid (partL l = none) := by show _ = _; rw [HC.out, HT]; exact partL_noesc (by simpa using hsp) _
          have q1 : ((t1[0].toNat : Int) == 42) = false := by simp [specialF] at hsp ⊢; omega
          have q2 : ((t1[0].toNat : Int) == 63) = false := by simp [specialF] at hsp ⊢; omega
          have q3 : ((t1[0].toNat : Int) == 91) = false := by simp [specialF] at hsp ⊢; omega
          have q4 : ((t1[0].toNat : Int) == 93) = false := by simp [specialF] at hsp ⊢; omega
          have q5 : ((t1[0].toNat : Int) == 92) = false := by simp [specialF] at hsp ⊢; omega
          clear HC HL HLn hC HT hsp
          go_wp2_with (go_at_call 203; refine (plain_any _ _).mono ?_; rintro e w1 ⟨rfl, rfl⟩)
          go_meet
          exact SwR.no (Below.refl _ _) HP.out
       ·have d92 : ((c : Int) == 92) = false := by simp; omega
        cases pl : plainF (c : Int) with
        | false =>
         have HP : Hid (partL l = none) := by show _ = _; rw [HC.out]; exact partL_bad (by omega) (by omega) (by omega) (by omega) pl _
         clear HC HL HLn hC
         go_wp2_with (go_at_call 203; refine (plain_any _ _).mono ?_; rintro e w1 ⟨rfl, rfl⟩)
         go_meet
         exact SwR.no (Below.refl _ _) HP.out
        | true =>
         have HP : Hid (partL l = some (oneP c, bytesOf t1)) := by show _ = _; rw [HC.out]; exact partL_plain (by omega) (by omega) (by omega) (by omega) pl _
         have c255 : c < 256 := by have := t'[0].toNat_lt; omega
         clear HC HL HLn hC
         have f0 : PartAt W wr.heap.size ⟨fun _ => false, false⟩ := by
          show _ = _; rw [show (⟨fun _ => false, false⟩ : Part).row = Tryz.zeroCells275 from zero_row.symm]; exact e0
         have f1 := f0.frozen c; have f2 := f0.at (i := c) (by omega)
         have f3 : Hid (PartAt (W.setCell ⟨wr.heap.size, c, none⟩ (.bool true)) wr.heap.size (oneP c)) := by
          have := f0.set (i := c) (by omega) true; rw [show (⟨upd (⟨fun _ => false, false⟩ : Part).has c true, (⟨fun _ => false, false⟩ : Part).many⟩ : Part) = oneP c from upd_one c] at this; exact this
         have f4 : Hid (Below wr.heap.size W (W.setCell ⟨wr.heap.size, c, none⟩ (.bool true))) := (Below.refl wr.heap.size W).setCell (p := ⟨wr.heap.size, c, none⟩) (Nat.le_refl _) _; have x5 : (c : Int) < 256 := by omega
         have x6 : (0 : Int) ≤ (c : Int) := by omega
         clear f0
         go_wp2_with (go_at_call 203; refine (plain_any _ _).mono ?_; rintro e w1 ⟨rfl, rfl⟩)
         go_meet
         exact SwR.yes f4.out HP.out f3.out
   case rest =>
    have HCU := Lib.hid hcut; clear hcut
    cases hp : partL l with
    | none =>
     have h7 : u7 = .bool false := by have := HCU.out; unfold SwR at this; rw [hp] at this; exact this.2
     have hF : Hid (partsF (bytesOf s) = none) := by
      show _ = _; rw [← hC.out, partsF_cons HLn.out, hp]; rfl
     have hbc : Below wr.heap.size W wc := HCU.out.1; subst h7
     go_wp2_with fail
     go_ret2
     refine ⟨?_, hb.trans ((HE3.out.trans hbc).mono hb.size)⟩; unfold PartsR; rw [hF.out]; rfl
    | some x =>
     obtain ⟨p, r⟩ := x; obtain ⟨t2, h0', ht2, h7, hpa⟩ : ∃ t2 : ByteArray, u0 = .string t2 ∧ bytesOf t2 = r ∧ u7 = .bool true ∧ PartAt wc wr.heap.size p := by have := HCU.out; unfold SwR at this; rw [hp] at this; exact this.2
     have hbc : Below wr.heap.size W wc := HCU.out.1; have hlen := HL.out p r hp; rw [← ht2, bytesOf_length] at hlen; obtain ⟨hlen, hlen2⟩ := hlen
     have hF : Hid ((partsF (bytesOf t2)).map ((ps ++ [p]) ++ ·) = partsF (bytesOf s)) := by
      show _ = _; rw [← hC.out, partsF_cons HLn.out, hp, ← ht2]; simp only [Option.bind_some]
      cases partsF (bytesOf t2) <;> simp
     have HT := Lib.hid ht2; have HA := Lib.hid hpa.all; have hown2 : Hid (wc.ownsRow w.heap.size 275 257 u4 ps.length (flatP ps)) := own_below HO.out (HE3.out.trans hbc) (Nat.le_refl _); have hbw : Below w.heap.size w wc := hb.trans ((HE3.out.trans hbc).mono hb.size); have hwc : wr.heap.size + 1 ≤ wc.heap.size := by have := hbc.size; omega
     have hbs := hb.size; obtain ⟨R, hR⟩ : ∃ R, Hid (p.row = R) := ⟨_, rfl⟩
     have hRs : R.size = 257 := by rw [← hR.out]; exact p.row_size
     have hR1 : Hid (∀ u ∈ R.toList, u.oneCell' = true) := by rw [← hR.out]; exact p.row_ones
     have hnews : Hid (∀ (j : Nat) (u : Value), R.toList[j]? = some u → (wc.alloc (.cells R 275)).cell? ((⟨wc.heap.size, 0, none⟩ : Addr).add j) = some u) := by
      intro j u hu; rw [add_plain, cell_of_row _ _ _ _ _ _ (heap_alloc_new _ _)]
      simpa using hu
     rw [hR.out] at HA; clear hC HL ht2 hp HCU hpa HO; subst h0' h7; go_upto_region 24 with fail; refine wp_region_lit ?_; refine list_move rfl _ u4 (.inl rfl) rfl (some 92) rfl ?_; simp only [Act.put, List.setIfInBounds_toArray, List.set_cons_zero, List.set_cons_succ]; refine row_load rfl (.tmp 6) rfl (some 93) rfl ⟨wr.heap.size, 0, none⟩ rfl p R hR.out HA.out ?_
     simp only [Act.put, List.setIfInBounds_toArray, List.set_cons_zero, List.set_cons_succ]; refine row_slice rfl (.tmp 93) rfl R hRs rfl (some 94) rfl ?_; simp only [Act.put, List.setIfInBounds_toArray, List.set_cons_zero, List.set_cons_succ]
     refine wpList_append_own _ rfl (.tmp 92) (.tmp 94) _ rfl w.heap.size 275 i0 _ 257 257 Tryz.underlying268 hi hz0 hz1 hz2 Tryz.zeroCells275_size (by omega) u4 ps.length (flatP ps) rfl (hown2.out.alloc _) ⟨wc.heap.size, 0, none⟩ 1 1 R.toList rfl (by simpa using hRs) hnews.out hR1.out (by unfold maxLen; omega) (by omega) (by simp; omega) ?_; intro v' w1 hown3 hgrow _
     simp only [Act.put, List.setIfInBounds_toArray, List.set_cons_zero, List.set_cons_succ]; refine list_move rfl _ v' (.inr rfl) rfl (some 4) rfl ?_; simp only [Act.put, List.setIfInBounds_toArray, List.set_cons_zero, List.set_cons_succ]; refine wpList_nil ?_; have hb4 : Below w.heap.size w w1 := (hbw.alloc (by omega) _).grown hgrow (by simp; omega) (own_ge' hown2.out)
     have hown5 : w1.ownsRow w.heap.size 275 257 v' (ps ++ [p]).length (flatP (ps ++ [p])) := by
      rw [flatP_snoc, hR.out]
      simpa using hown3
     have hown4 := Lib.hid hown5; clear hown5; clear hown3 hgrow hnews hR1 HA hown2
     go_wp2_with fail; go_roundw
     case rel => exact ⟨t2, ps ++ [p], rfl, by simp; omega, hown4.out, hb4, hF⟩
     case measure => simp [strLen]; omega
end Go.Proofs.YtmgngapkgcofnabGreatDoor
namespace Go.Proofs.YtmgngapkgcofnabGreatDoor
open Go.RowKit
theorem parts_yes (s : ByteArray) (w : World) (hs : s.size ≤ 4096) {ps : List Part} (h : partsF (bytesOf s) = some ps) :
  Calls Tryz.prog 172 #[.string s] w fun e w' => ∃ v, e = .returned (.tuple #[v, .bool true]) ∧ w'.ownsRow w.heap.size 275 257 v ps.length (flatP ps) ∧ Below w.heap.size w w' :=
 (parts_any s w hs).mono fun e w' ⟨h1, h2⟩ => by
  unfold PartsR at h1; rw [h] at h1; obtain ⟨v, h3, h4⟩ := h1; exact ⟨v, h3, h4, h2⟩
theorem parts_no (s : ByteArray) (w : World) (hs : s.size ≤ 4096) (h : partsF (bytesOf s) = none) :
  Calls Tryz.prog 172 #[.string s] w fun e w' => e = .returned (.tuple #[.slice none 0 0, .bool false]) ∧ Below w.heap.size w w' :=
 (parts_any s w hs).mono fun e w' ⟨h1, h2⟩ => by
  unfold PartsR at h1; rw [h] at h1; exact ⟨h1, h2⟩
set_option maxHeartbeats 1000000 in
theorem globCheck_any (p : ByteArray) (w : World) (hsB : p.size ≤ 100000) :
  Calls Tryz.prog 170 #[.string p] w fun e w' => e = .returned (errV (globF (bytesOf p))) ∧ Below w.heap.size w w' := by
 by_cases h24 : 24 < p.size
 ·have HF : Hid (globF (bytesOf p) = 2) := by show _ = _; unfold globF; rw [bytesOf_length, if_pos h24]
  have k : (24 : Int) < (p.size : Int) := by omega
  clear h24; go_enter Tryz.func170, Tryz.ntmps170
  go_wp2_with fail; go_ret; exact ⟨by rw [HF.out]; rfl, Below.refl _ _⟩
 ·have hs : p.size ≤ 4096 := by omega
  have k : ¬ (24 : Int) < (p.size : Int) := by omega
  rcases Nat.eq_zero_or_pos p.size with h0 | h0
  ·have y1 : p.toList.isEmpty = true := by rw [isEmpty_of]; simpa using h0
   have HF : Hid (globF (bytesOf p) = 4) := by show _ = _; unfold globF; rw [bytesOf_length, if_neg h24, if_pos (bytesOf_nil h0)]
   have hp : Hid (partsF (bytesOf p) = some []) := by show _ = _; rw [bytesOf_nil h0]; rfl
   clear h24 h0; go_enter Tryz.func170, Tryz.ntmps170
   go_wp2_with (go_at_call 172; refine (parts_yes _ _ hs hp.out).mono ?_; rintro e w1 ⟨v, rfl, hown, hb⟩; have hown2 := Lib.hid hown; clear hown)
   go_ret; exact ⟨by rw [HF.out]; rfl, hb⟩
  ·have y1 : p.toList.isEmpty = false := by rw [isEmpty_of]; exact decide_eq_false (by omega)
   have hne : bytesOf p ≠ [] := by intro h; have := bytesOf_length p; rw [h] at this; simp at this; omega
   cases hp : partsF (bytesOf p) with
   | none =>
    have HF : Hid (globF (bytesOf p) = 4) := by show _ = _; unfold globF; rw [bytesOf_length, if_neg h24, if_neg hne, hp]
    have HP := Lib.hid hp; clear h24 h0 hp hne; go_enter Tryz.func170, Tryz.ntmps170
    go_wp2_with (go_at_call 172; refine (parts_no _ _ hs HP.out).mono ?_; rintro e w1 ⟨rfl, hb⟩)
    go_ret; exact ⟨by rw [HF.out]; rfl, hb⟩
   | some ps =>
    have HF : Hid (globF (bytesOf p) = 0) := by show _ = _; unfold globF; rw [bytesOf_length, if_neg h24, if_neg hne, hp]
    have HP := Lib.hid hp; clear h24 h0 hp hne; go_enter Tryz.func170, Tryz.ntmps170
    go_wp2_with (go_at_call 172; refine (parts_yes _ _ hs HP.out).mono ?_; rintro e w1 ⟨v, rfl, hown, hb⟩; have hown2 := Lib.hid hown; clear hown)
    go_ret; exact ⟨by rw [HF.out]; rfl, hb⟩
def byteN (s : ByteArray) (j : Nat) : Nat := if h : j < s.size then s[j].toNat else 0
def matchB (p s : ByteArray) : Bool := if globF (bytesOf p) ≠ 0 then false else match partsF (bytesOf p) with
 | none => false
 | some l => Mk l (byteN s) l.length s.size
theorem matchB_some {p s : ByteArray} {l : List Part} (h0 : globF (bytesOf p) = 0) (h : partsF (bytesOf p) = some l) : matchB p s = Mk l (byteN s) l.length s.size := by
 unfold matchB; rw [if_neg (by rw [h0]; simp), h]
theorem globF_parts {l : List Int} (h : globF l = 0) : ∃ ps, partsF l = some ps ∧ l.length ≤ 24 ∧ l ≠ [] := by
 unfold globF at h; split at h
 ·simp at h
 ·split at h
  ·simp at h
  ·cases hp : partsF l with
   | none => rw [hp] at h; simp at h
   | some ps => exact ⟨ps, rfl, by omega, by assumption⟩
theorem partsL_length : ∀ (n : Nat) (l : List Int) (ps : List Part), partsL n l = some ps → ps.length ≤ l.length := by
 intro n
 induction n with
 | zero => intro l ps h; rcases l with _ | ⟨c, r⟩ <;> simp [partsL] at h; subst h; simp
 | succ n ih =>
  intro l ps h; rcases l with _ | ⟨c, r⟩
  ·simp [partsL] at h; subst h; simp
  ·simp only [partsL] at h
   cases hp : partL (c :: r) with
   | none => simp [hp] at h
   | some x =>
    simp only [hp, Option.bind_some, Option.map_eq_some_iff] at h; obtain ⟨qs, h1, rfl⟩ := h; have := ih _ _ h1; have := partL_len (p := x.1) (r := x.2) hp; simp at this ⊢; omega
theorem partsF_length {l : List Int} {ps : List Part} (h : partsF l = some ps) : ps.length ≤ l.length := partsL_length _ _ _ h
theorem partsF_pos {l : List Int} {ps : List Part} (h : partsF l = some ps) (hl : l ≠ []) : 0 < ps.length := by
 rw [partsF_cons hl] at h
 cases hp : partL l with
 | none => simp [hp] at h
 | some x =>
  simp only [hp, Option.bind_some, Option.map_eq_some_iff] at h; obtain ⟨qs, _, rfl⟩ := h; simp
theorem flatP_at (l : List Part) (i : Nat) (p : Part) (hp : l[i]? = some p) (j : Nat) (v : Value) (hv : p.row[j]? = some v) : (flatP l)[i * 257 + j]? = some v := by
 have hj : j < 257 := by
  rw [← p.row_size]; rcases Nat.lt_or_ge j p.row.size with h | h
  ·exact h
  ·simp [Array.getElem?_eq_none h] at hv
 induction l generalizing i with
 | nil => simp at hp
 | cons q l ih =>
  rcases i with _ | i
  ·simp at hp; subst hp; simp only [flatP, List.flatMap_cons, Nat.zero_mul, Nat.zero_add]; rw [List.getElem?_append_left (by rw [Part.row_len]; exact hj)]
   simpa using hv
  ·simp only [List.getElem?_cons_succ] at hp; have := ih i hp; simp only [flatP, List.flatMap_cons] at this ⊢; rw [List.getElem?_append_right (by rw [Part.row_len]; omega), Part.row_len, show (i + 1) * 257 + j - 257 = i * 257 + j from by omega]; exact this
theorem parts_of_own {w : World} {B : Nat} {v : Value} {l : List Part} (h : w.ownsRow B 275 257 v l.length (flatP l)) (hl : 0 < l.length) :
  ∃ g cap, v = .slice (some ⟨g, 0, none⟩) l.length cap ∧ B ≤ g ∧ g < w.heap.size ∧ PartsAt w g 0 l := by
 obtain ⟨h1, (⟨rfl, h2⟩ | ⟨g, cap, cur, rfl, hB, hg, h3, h4, h5, h6⟩)⟩ := h
 ·omega
 ·refine ⟨g, cap, rfl, hB, ?_, ?_⟩
  ·rcases Nat.lt_or_ge g w.heap.size with h | h
   ·exact h
   ·simp [Array.getElem?_eq_none h] at hg
  ·intro i p hp j v hv; have h7 := flatP_at l i p hp j v hv; rw [cell_of_row w _ _ _ _ _ hg, Nat.zero_add]; rw [← h6, List.getElem?_take] at h7; split at h7
   ·simpa using h7
   ·simp at h7
theorem bool_i : (Tryz.prog.info? 4).map (fun i => (i.zero, i.size, i.bytes)) = some (some (.bool false), 1, 1) := by kernel_rfl
theorem run_make_bools (w : World) (n : Nat) (hn : n ≤ 1000000) : (Instr.makeSlice 271 (.int .i64 ((n : Int) + 1)) (.int .i64 ((n : Int) + 1))).run Tryz.prog w = .ok (.slice (some ⟨w.heap.size, 0, none⟩) (n + 1) (n + 1)) (w.alloc (.cells (boolRow (n + 1) fun _ => false) 4)) := by
 obtain ⟨i0, hi, hz0, hz1, hz2⟩ := info_parts bool_i; have := run_make w 271 4 i0 (.bool false) Tryz.underlying271 hi hz0 .i64 .i64 ((n : Int) + 1) ((n : Int) + 1) (by omega) (by omega) (by rw [hz2]; omega) (by omega); rw [this]; have e : ((n : Int) + 1).toNat = n + 1 := by omega
 rw [e, hz1, Nat.mul_one]
 have e2 : madeCells (Value.bool false).cells (n + 1) = boolRow (n + 1) fun _ => false := by
  unfold madeCells boolRow; apply Array.ext (by simp); intro i h1 h2; simp [Value.cells]; rw [Nat.mod_one]; rfl
 rw [e2]
theorem upd_zero : upd (fun _ => false) 0 true = fun i => i == 0 := by
 funext i
 unfold upd
 by_cases h : i = 0
 ·subst h; rfl
 ·rw [if_neg h]; simp [h]
theorem byteN_at {s : ByteArray} {i : Nat} (h : i < s.size) : byteN s i = s[i].toNat := by simp [byteN, h]
theorem stepF_yes {l : List Part} {f : Nat → Bool} {c k : Nat} {p : Part} (h : l[k]? = some p) (h1 : f k = true) (h2 : p.has c = true) :
  stepF l f c (k + 1) = upd (upd (stepF l f c k) k (stepF l f c k k || p.many)) (k + 1) (stepF l f c k (k + 1) || !p.many) := by
 funext i
 simp only [stepF, h, h1, h2, Bool.and_self, if_true, upd]
 by_cases e : i = k
 ·subst e; simp
 ·rw [if_neg e]
  by_cases e2 : i = k + 1
  ·subst e2; simp
  ·rw [if_neg e2, if_neg e2, if_neg e]
theorem stepF_no {l : List Part} {f : Nat → Bool} {c k : Nat} {p : Part} (h : l[k]? = some p) (h1 : f k = false ∨ p.has c = false) : stepF l f c (k + 1) = stepF l f c k := by
 funext i
 simp only [stepF, h]; rw [if_neg]; rcases h1 with h | h <;> simp [h]
theorem bools_lt {w : World} {b n : Nat} {f : Nat → Bool} (h : BoolsAt w b n f) : b < w.heap.size := by
 rcases Nat.lt_or_ge b w.heap.size with h1 | h1
 ·exact h1
 ·have h2 : w.heap[b]? = some _ := h; simp [Array.getElem?_eq_none h1] at h2
theorem stepF_above (l : List Part) (f : Nat → Bool) (c : Nat) : ∀ k i, k < i → stepF l f c k i = false := by
 intro k
 induction k with
 | zero => intro i _; rfl
 | succ k ih =>
  intro i hi; simp only [stepF]; split
  ·exact ih i (by omega)
  ·split
   ·rw [if_neg (by omega), if_neg (by omega)]; exact ih i (by omega)
   ·exact ih i (by omega)
set_option linter.unusedSimpArgs false in
set_option maxRecDepth 100000 in
set_option maxHeartbeats 4000000 in
theorem globMatch_any (p s : ByteArray) (w : World) (hp : p.size ≤ 4096) (hs : s.size ≤ 100000) :
  Calls Tryz.prog 130 #[.string p, .string s] w fun e w' => e = .returned (.bool (matchB p s)) ∧ Below w.heap.size w w' := by
 by_cases h0 : globF (bytesOf p) = 0
 case neg =>
  have HM : Hid (matchB p s = false) := by show _ = _; unfold matchB; rw [if_pos h0]
  have HF : Hid (errV (globF (bytesOf p)) = .iface 105 (.int .i64 (globF (bytesOf p)))) := errV_pos h0; clear h0; go_enter Tryz.func130, Tryz.ntmps130
  go_wp2_with (go_at_call 170; refine (globCheck_any _ _ (Nat.le_trans hp (by decide))).mono ?_; rintro e w1 ⟨rfl, hb1⟩; rw [HF.out])
  go_ret; exact ⟨by rw [HM.out]; rfl, hb1⟩
 case pos =>
 obtain ⟨l, hl, h24, hne⟩ := globF_parts h0; have hln := partsF_length hl; have hpos := partsF_pos hl hne; have hn : l.length ≤ 24 := by omega
 have HM : Hid (matchB p s = Mk l (byteN s) l.length s.size) := matchB_some h0 hl; have HF : Hid (errV (globF (bytesOf p)) = .nilIface) := by show _ = _; rw [h0]; rfl
 have HP := Lib.hid hl; clear h0 hl h24 hne hln; have hmk := fun w : World => run_make_bools w l.length (by omega); go_enter Tryz.func130, Tryz.ntmps130
 go_upto_region 4 with (first
  | (go_at_call 170; refine (globCheck_any _ _ (Nat.le_trans hp (by decide))).mono ?_; rintro e w1 ⟨rfl, hb1⟩; rw [HF.out])
  | (go_at_call 172; refine (parts_yes _ _ hp HP.out).mono ?_; rintro e w2 ⟨v, rfl, hown, hb2⟩; have HO := Lib.hid hown; clear hown))
 obtain ⟨g, cap, rfl, hg, hg2, hPA⟩ := parts_of_own HO.out hpos; have HPA := Lib.hid hPA; have hb : Below w.heap.size w w2 := hb1.trans (hb2.mono hb1.size); clear HO hPA hb1 hb2 HP; have m1 : BoolsAt (w2.alloc (.cells (boolRow (l.length + 1) fun _ => false) 4)) w2.heap.size (l.length + 1) (fun _ => false) := heap_alloc_new _ _; have m2 := m1.frozen 0; have m3 := m1.at (i := 0) (by omega)
 have m4 : Hid (BoolsAt (w2.alloc (.cells ((boolRow (l.length + 1) fun _ => false).setIfInBounds 0 (.bool true)) 4)) w2.heap.size (l.length + 1) (fun i => i == 0)) := by
  show _ = _; rw [boolRow_set, upd_zero]; exact heap_alloc_new _ _
 have m5 : Hid (Below w2.heap.size w2 (w2.alloc (.cells ((boolRow (l.length + 1) fun _ => false).setIfInBounds 0 (.bool true)) 4))) := (Below.refl w2.heap.size w2).alloc (Nat.le_refl _) _; have x1 : (0 : Int) < ((l.length + 1 : Nat) : Int) := by omega
 clear m1; have hpl : Hid (PartsAt (w2.alloc (.cells ((boolRow (l.length + 1) fun _ => false).setIfInBounds 0 (.bool true)) 4)) g 0 l) := HPA.out.below m5.out hg2
 go_wp2_with (go_at_call 173; refine (skip_any g cap w2.heap.size l (fun i => i == 0) _ hpl.out hg2 (by omega) m4.out).mono ?_; rintro e w3 ⟨rfl, hs1, hs2⟩; have M1 : Hid (BoolsAt w3 w2.heap.size (l.length + 1) (cS l (byteN s) 0)) := hs1; have M2 : Hid (Below w2.heap.size w2 w3) := m5.out.trans hs2; clear hs1 hs2)
 clear m4 m5 hpl
 go_loopw [7, 31] (fun av iv wr => ∃ i b : Nat, i ≤ s.size ∧ iv = .int .i64 i ∧ av = .slice (some ⟨b, 0, none⟩) (l.length + 1) (l.length + 1) ∧ g < b ∧ Hid (BoolsAt wr b (l.length + 1) (cS l (byteN s) i)) ∧ Hid (Below w2.heap.size w2 wr)) (fun _ iv _ => s.size - (intOf iv).toNat)
 case atStart => exact ⟨0, w2.heap.size, Nat.zero_le _, rfl, rfl, hg2, M1, M2⟩
 case round =>
  obtain ⟨i, b, hi, rfl, rfl, hgb, hB, hW⟩ := hrel; clear M1 M2; have hbsz : b < wr.heap.size := bools_lt hB.out
  by_cases hlt : i < s.size
  ·have hbn := Lib.hid (byteN_at hlt); have x5 : (i : Int) < (s.size : Int) := by omega
   have x6 : (0 : Int) ≤ (i : Int) := by omega
   have hcS : Hid (cS l (byteN s) (i + 1) = skipF l (stepF l (cS l (byteN s) i) (byteN s i) l.length) l.length) := rfl; have hc255 : s[i].toNat < 256 := s[i].toNat_lt; rw [hbn.out] at hcS; have hbW : Below w2.heap.size w2 (wr.alloc (.cells (boolRow (l.length + 1) fun _ => false) 4)) := hW.out.alloc hW.out.size _
   have n1 : BoolsAt (wr.alloc (.cells (boolRow (l.length + 1) fun _ => false) 4)) wr.heap.size (l.length + 1) (fun _ => false) := heap_alloc_new _ _; have n2 : (wr.alloc (.cells (boolRow (l.length + 1) fun _ => false) 4)).heap.size = wr.heap.size + 1 := by simp
   have n3 : BoolsAt (wr.alloc (.cells (boolRow (l.length + 1) fun _ => false) 4)) b (l.length + 1) (cS l (byteN s) i) := ((((Below.refl wr.heap.size wr).alloc (Nat.le_refl _) _).block b hbsz)).trans hB.out; have hpW := HPA.out.below hbW hg2; go_upto_region 11 with fail; have HbW := Lib.hid hbW; have Hn1 := Lib.hid n1; have Hn3 := Lib.hid n3; have HpW := Lib.hid hpW; clear hbW n1 n3 hpW
   generalize wr.alloc (.cells (boolRow (l.length + 1) fun _ => false) 4) = V at *
   generalize hF : cS l (byteN s) i = F at *
   clear hF; generalize hcc : s[i].toNat = c at *
   have hgn : g < wr.heap.size := by omega
   have hNW := hW.out.size; generalize wr.heap.size = NB at *
   go_wp2_with fail
   go_loopw [40] (fun kv wl => ∃ j : Nat, j ≤ l.length ∧ kv = .int .i64 j ∧ BoolsAt wl NB (l.length + 1) (stepF l F c j) ∧ Below NB V wl) (fun kv _ => l.length - (intOf kv).toNat)
   case atStart => exact ⟨0, Nat.zero_le _, rfl, Hn1.out, Below.refl _ _⟩
   case round =>
    obtain ⟨j, hj, rfl, hbj, hbl⟩ := hrel
    by_cases hlj : j < l.length
    ·have hP : PartsAt wr g 0 l := HpW.out.below hbl hgn; have hlq : l[j]? = some l[j] := by simp
     have HY := Lib.hid (fun h1 h2 => stepF_yes (f := F) (c := c) hlq h1 h2); have HN := Lib.hid (fun h1 => stepF_no (f := F) (c := c) hlq h1); have hz1 : stepF l F c j (j + 1) = false := stepF_above l F c j (j + 1) (by omega); have hc := hP j l[j] hlq; generalize l[j] = q at *
     have hsz := hbl.size; generalize stepF l F c j = G at *
     have x1 : (j : Int) < (l.length : Int) := by omega
     have x2 : (0 : Int) ≤ (j : Int) := by omega
     have HC : Hid (∀ k v, q.row[k]? = some v → wr.cell? ((⟨g, j * 257, none⟩ : Addr).add k) = some v) := fun k v hv => by
      rw [add_plain]; simpa using hc k v hv
     have hB2 : BoolsAt wr b (l.length + 1) F := (hbl.block b (by omega)).trans Hn3.out; clear hc hP hlq; obtain ⟨W2, hW2, c1, c2, c3⟩ := part_copy wr q; have c4 : Below NB V W2 := hbl.trans (c2.mono (by omega)); have c5 : BoolsAt W2 NB (l.length + 1) G := (c2.block NB (by omega)).trans hbj; have c6 : BoolsAt W2 b (l.length + 1) F := (c2.block b (by omega)).trans hB2
     have c7 : W2.cell? ⟨wr.heap.size, 256, none⟩ = some (.bool q.many) := by rw [cell_of_row W2 _ _ _ _ _ c1]; exact q.row_many
     have c8 : W2.cell? ⟨wr.heap.size, c, none⟩ = some (.bool (q.has c)) := by rw [cell_of_row W2 _ _ _ _ _ c1]; exact q.row_at (by omega)
     have c9 : W2.cell? ⟨b, j, none⟩ = some (.bool (F j)) := c6.at (by omega); have c10 : W2.cell? ⟨NB, j, none⟩ = some (.bool (G j)) := c5.at (by omega); have c11 : W2.cell? ⟨NB, j + 1, none⟩ = some (.bool (G (j + 1))) := c5.at (by omega); have c12 := c5.frozen j; have c13 := c5.frozen (j + 1); rw [hz1] at c11; have Hc5 := Lib.hid c5; have Hc4 := Lib.hid c4; have HZ1 := Lib.hid hz1
     clear hbj hB2 c6 hz1; have y1 : (c : Int) < 256 := by omega
     have y2 : (0 : Int) ≤ (c : Int) := by omega
     go_upto_region 14 with (first
      | (refine part_load rfl (.tmp 43) rfl (some 44) rfl ⟨g, j * 257, none⟩ (by simp [Act.eval]) q HC.out ?_)
      | (refine part_store rfl (.tmp 11) (.tmp 44) rfl rfl wr.heap.size q (by simp [Act.eval]) (by simp [Act.eval]) Tryz.zeroCells275 (heap_alloc_new _ _) Tryz.zeroCells275_size ?_))
     rw [hW2]; clear hW2 HC c1 c2 c4 c5; generalize q.row = R at *
     cases hFj : F j with
     | false =>
      rw [hFj] at c9; have HG : Hid (BoolsAt W2 NB (l.length + 1) (stepF l F c (j + 1))) := by rw [HN.out (Or.inl hFj)]; exact Hc5.out
      clear hFj
      go_wp2_with fail; go_roundw
      case rel => exact ⟨j + 1, by omega, by go_num, HG.out, Hc4.out⟩
      case measure => simp [intOf]; omega
     | true =>
      rw [hFj] at c9
      cases hqc : q.has c with
      | false =>
       rw [hqc] at c8; have HG : Hid (BoolsAt W2 NB (l.length + 1) (stepF l F c (j + 1))) := by rw [HN.out (Or.inr hqc)]; exact Hc5.out
       clear hFj hqc
       go_wp2_with fail; go_roundw
       case rel => exact ⟨j + 1, by omega, by go_num, HG.out, Hc4.out⟩
       case measure => simp [intOf]; omega
      | true =>
       rw [hqc] at c8
       have HST : Hid (stepF l F c (j + 1) = upd (upd G j (G j || q.many)) (j + 1) (!q.many)) := by
        show _ = _; rw [HY.out hFj hqc, HZ1.out]; rfl
       clear hFj hqc; generalize hgj : G j = gv at *
       generalize q.many = mv at *
       cases gv
       ·cases mv
        ·have d0 := Hc5.out.set j false; have d1 := d0.frozen (j + 1); have d2 := d0.at (i := j + 1) (by omega); have d3 : (W2.setCell ⟨NB, j, none⟩ (.bool false)).cell? ⟨wr.heap.size, 256, none⟩ = W2.cell? ⟨wr.heap.size, 256, none⟩ := World.cell?_setCell_far _ _ _ _ (by simp; omega); rw [c7] at d3; rw [show upd G j false (j + 1) = false from by unfold upd; rw [if_neg (by omega)]; exact HZ1.out] at d2
         have d5 : Hid (BoolsAt ((W2.setCell ⟨NB, j, none⟩ (.bool false)).setCell ⟨NB, j + 1, none⟩ (.bool true)) NB (l.length + 1) (stepF l F c (j + 1))) := by
          rw [HST.out]; exact d0.set (j + 1) true
         have d6 : Hid (Below NB V ((W2.setCell ⟨NB, j, none⟩ (.bool false)).setCell ⟨NB, j + 1, none⟩ (.bool true))) := (Hc4.out.setCell (p := ⟨NB, j, none⟩) (Nat.le_refl _) _).setCell (p := ⟨NB, j + 1, none⟩) (Nat.le_refl _) _; clear d0; go_upto_region 16 with fail; generalize W2.setCell ⟨NB, j, none⟩ (.bool false) = W3 at *
         go_wp2_with fail; go_roundw
         case rel => exact ⟨j + 1, by omega, by go_num, d5.out, d6.out⟩
         case measure => simp [intOf]; omega
        ·have d0 := Hc5.out.set j true; have d1 := d0.frozen (j + 1); have d2 := d0.at (i := j + 1) (by omega); have d3 : (W2.setCell ⟨NB, j, none⟩ (.bool true)).cell? ⟨wr.heap.size, 256, none⟩ = W2.cell? ⟨wr.heap.size, 256, none⟩ := World.cell?_setCell_far _ _ _ _ (by simp; omega); rw [c7] at d3; rw [show upd G j true (j + 1) = false from by unfold upd; rw [if_neg (by omega)]; exact HZ1.out] at d2
         have d5 : Hid (BoolsAt ((W2.setCell ⟨NB, j, none⟩ (.bool true)).setCell ⟨NB, j + 1, none⟩ (.bool false)) NB (l.length + 1) (stepF l F c (j + 1))) := by
          rw [HST.out]; exact d0.set (j + 1) false
         have d6 : Hid (Below NB V ((W2.setCell ⟨NB, j, none⟩ (.bool true)).setCell ⟨NB, j + 1, none⟩ (.bool false))) := (Hc4.out.setCell (p := ⟨NB, j, none⟩) (Nat.le_refl _) _).setCell (p := ⟨NB, j + 1, none⟩) (Nat.le_refl _) _; clear d0; go_upto_region 16 with fail; generalize W2.setCell ⟨NB, j, none⟩ (.bool true) = W3 at *
         go_wp2_with fail; go_roundw
         case rel => exact ⟨j + 1, by omega, by go_num, d5.out, d6.out⟩
         case measure => simp [intOf]; omega
       ·cases mv
        ·have d0 := Hc5.out.set j true; have d1 := d0.frozen (j + 1); have d2 := d0.at (i := j + 1) (by omega); have d3 : (W2.setCell ⟨NB, j, none⟩ (.bool true)).cell? ⟨wr.heap.size, 256, none⟩ = W2.cell? ⟨wr.heap.size, 256, none⟩ := World.cell?_setCell_far _ _ _ _ (by simp; omega); rw [c7] at d3; rw [show upd G j true (j + 1) = false from by unfold upd; rw [if_neg (by omega)]; exact HZ1.out] at d2
         have d5 : Hid (BoolsAt ((W2.setCell ⟨NB, j, none⟩ (.bool true)).setCell ⟨NB, j + 1, none⟩ (.bool true)) NB (l.length + 1) (stepF l F c (j + 1))) := by
          rw [HST.out]; exact d0.set (j + 1) true
         have d6 : Hid (Below NB V ((W2.setCell ⟨NB, j, none⟩ (.bool true)).setCell ⟨NB, j + 1, none⟩ (.bool true))) := (Hc4.out.setCell (p := ⟨NB, j, none⟩) (Nat.le_refl _) _).setCell (p := ⟨NB, j + 1, none⟩) (Nat.le_refl _) _; clear d0; go_upto_region 16 with fail; generalize W2.setCell ⟨NB, j, none⟩ (.bool true) = W3 at *
         go_wp2_with fail; go_roundw
         case rel => exact ⟨j + 1, by omega, by go_num, d5.out, d6.out⟩
         case measure => simp [intOf]; omega
        ·have d0 := Hc5.out.set j true; have d1 := d0.frozen (j + 1); have d2 := d0.at (i := j + 1) (by omega); have d3 : (W2.setCell ⟨NB, j, none⟩ (.bool true)).cell? ⟨wr.heap.size, 256, none⟩ = W2.cell? ⟨wr.heap.size, 256, none⟩ := World.cell?_setCell_far _ _ _ _ (by simp; omega); rw [c7] at d3; rw [show upd G j true (j + 1) = false from by unfold upd; rw [if_neg (by omega)]; exact HZ1.out] at d2
         have d5 : Hid (BoolsAt ((W2.setCell ⟨NB, j, none⟩ (.bool true)).setCell ⟨NB, j + 1, none⟩ (.bool false)) NB (l.length + 1) (stepF l F c (j + 1))) := by
          rw [HST.out]; exact d0.set (j + 1) false
         have d6 : Hid (Below NB V ((W2.setCell ⟨NB, j, none⟩ (.bool true)).setCell ⟨NB, j + 1, none⟩ (.bool false))) := (Hc4.out.setCell (p := ⟨NB, j, none⟩) (Nat.le_refl _) _).setCell (p := ⟨NB, j + 1, none⟩) (Nat.le_refl _) _; clear d0; go_upto_region 16 with fail; generalize W2.setCell ⟨NB, j, none⟩ (.bool true) = W3 at *
         go_wp2_with fail; go_roundw
         case rel => exact ⟨j + 1, by omega, by go_num, d5.out, d6.out⟩
         case measure => simp [intOf]; omega
    ·obtain rfl : j = l.length := by omega
     have hpl : PartsAt wr g 0 l := HpW.out.below hbl hgn; have hnb : NB < V.heap.size := by omega
     have HB3 : Hid (Below w2.heap.size w2 wr) := HbW.out.trans (hbl.mono (by omega))
     go_wp2_with (go_at_call 173; refine (skip_any g cap NB l _ _ hpl hgn (by omega) hbj).mono ?_; rintro e w3 ⟨rfl, hs1, hs2⟩; have M1 : Hid (BoolsAt w3 NB (l.length + 1) (cS l (byteN s) (i + 1))) := (by rw [hcS.out]; exact hs1); have M2 : Hid (Below w2.heap.size w2 w3) := HB3.out.trans (hs2.mono (by omega)); clear hs1 hs2)
     go_roundw
     case rel => exact ⟨i + 1, NB, by omega, by go_num, rfl, by omega, M1, M2⟩
     case measure => simp [intOf]; omega
  ·obtain rfl : i = s.size := by omega
   have e1 := hB.out.at (i := l.length) (by omega); have hR : Hid (cS l (byteN s) s.size l.length = matchB p s) := by show _ = _; rw [HM.out, cS_end]
   generalize cS l (byteN s) s.size l.length = RES at *
   have y1 : (l.length : Int) < ((l.length + 1 : Nat) : Int) := by omega
   go_wp2_with fail; go_ret; exact ⟨ret_bool hR.out, hb.trans (hW.out.mono hb.size)⟩
end Go.Proofs.YtmgngapkgcofnabGreatDoor
namespace Go.Proofs.YtmgngapkgcofnabGreatDoor
open Go.RowKit
set_option linter.unusedSimpArgs false in
set_option maxRecDepth 100000 in
set_option maxHeartbeats 4000000 in
theorem checkCond_any (nr : Nat) (c : CondD) (w : World) (hn : nr < 9) (hok : c.ok) (hg : c.glob.size ≤ 100000) :
  Calls Tryz.prog 127 #[.int .i64 nr, c.val] w fun e w' => e = .returned (errV (condF nr c)) ∧ Below w.heap.size w w' := by
 obtain ⟨arg, op, v, m, glob, ⟨ip, bits, lo, hi⟩⟩ := c; obtain ⟨_, _, ⟨v0, v1⟩, ⟨m0, m1⟩, _, hnet⟩ := hok; simp only at v0 v1 m0 m1 hg hnet; unfold CondD.val; have HGC : Hid (∀ w : World, Calls Tryz.prog 170 #[.string glob] w fun e w' => e = .returned (errV (globF (bytesOf glob))) ∧ Below w.heap.size w w') := fun w => globCheck_any glob w hg
 have HNC : Hid (∀ w : World, Calls Tryz.prog 171 #[.agg #[.int .u32 ip, .int .i64 bits, .int .i64 lo, .int .i64 hi]] w fun e w' => e = .returned (errV (netF ⟨ip, bits, lo, hi⟩)) ∧ Below w.heap.size w w') := fun w => netCheck_any ⟨ip, bits, lo, hi⟩ w hnet; obtain ⟨GV, hGV⟩ : ∃ V : Value, V = errV (globF (bytesOf glob)) := ⟨_, rfl⟩
 obtain ⟨NV, hNV⟩ : ∃ V : Value, V = errV (netF ⟨ip, bits, lo, hi⟩) := ⟨_, rfl⟩
 rw [← hGV] at HGC; rw [← hNV] at HNC; have HGV := Lib.hid hGV; have HNV := Lib.hid hNV; have hge := isEmpty_of2 glob; have HGE := Lib.hid hge; clear hGV hNV hnet hge
 by_cases h0 : arg < 0
 ·have HF : Hid (errV (condF nr ⟨arg, op, v, m, glob, ⟨ip, bits, lo, hi⟩⟩) = .iface 105 (.int .i64 1)) := by show _ = _; unfold condF; rw [if_pos (Or.inl h0)]; rfl
  go_enter Tryz.func127, Tryz.ntmps127
  go_wp2_with fail; go_ret; exact ⟨by rw [HF.out]; rfl, by go_grown⟩
 ·skip
  by_cases h1 : 3 < arg
  ·have HF : Hid (errV (condF nr ⟨arg, op, v, m, glob, ⟨ip, bits, lo, hi⟩⟩) = .iface 105 (.int .i64 1)) := by show _ = _; unfold condF; rw [if_pos (Or.inr (Or.inl h1))]; rfl
   go_enter Tryz.func127, Tryz.ntmps127
   go_wp2_with fail; go_ret; exact ⟨by rw [HF.out]; rfl, by go_grown⟩
  ·skip
   by_cases h2 : op < 1
   ·have HF : Hid (errV (condF nr ⟨arg, op, v, m, glob, ⟨ip, bits, lo, hi⟩⟩) = .iface 105 (.int .i64 1)) := by show _ = _; unfold condF; rw [if_pos (Or.inr (Or.inr (Or.inl h2)))]; rfl
    go_enter Tryz.func127, Tryz.ntmps127
    go_wp2_with fail; go_ret; exact ⟨by rw [HF.out]; rfl, by go_grown⟩
   ·skip
    by_cases h3 : 9 < op
    ·have HF : Hid (errV (condF nr ⟨arg, op, v, m, glob, ⟨ip, bits, lo, hi⟩⟩) = .iface 105 (.int .i64 1)) := by show _ = _; unfold condF; rw [if_pos (Or.inr (Or.inr (Or.inr h3)))]; rfl
     go_enter Tryz.func127, Tryz.ntmps127
     go_wp2_with fail; go_ret; exact ⟨by rw [HF.out]; rfl, by go_grown⟩
    ·skip
     obtain ⟨a, rfl⟩ : ∃ a : Nat, arg = a := ⟨arg.toNat, by omega⟩
     have ha : a < 4 := by omega
     have z1 : (a : Int) < 4 := by omega
     have z2 : (0 : Int) ≤ (a : Int) := by omega
     have z3 : (nr : Int) < 9 := by omega
     have z4 : (0 : Int) ≤ (nr : Int) := by omega
     have HF0 : condF nr ⟨(a : Int), op, v, m, glob, ⟨ip, bits, lo, hi⟩⟩ = if CondD.bad nr ⟨(a : Int), op, v, m, glob, ⟨ip, bits, lo, hi⟩⟩ then 3 else if op = 8 then globF (bytesOf glob) else if op = 9 then netF ⟨ip, bits, lo, hi⟩ else 0 := by
      unfold condF; rw [if_neg (by rintro (h | h | h | h) <;> simp only at h <;> omega)]
     have HX := Lib.hid HF0; have HBD : Hid (CondD.bad nr ⟨(a : Int), op, v, m, glob, ⟨ip, bits, lo, hi⟩⟩ ↔ (kindF nr a ≠ kindOf op ∨ (op ≠ 7 ∧ m ≠ 0) ∨ (7 < op ∧ v ≠ 0) ∨ (op ≠ 8 ∧ glob.size ≠ 0) ∨ (op ≠ 9 ∧ (⟨ip, bits, lo, hi⟩ : NetD) ≠ ⟨0, 0, 0, 0⟩))) := by show _ ↔ _; unfold CondD.bad; simp
     have hix := fun w : World => formIdx nr hn w; have hfl := formFld; have hix2 := fun w : World => argIdx nr a ha w; have hnq := fun w : World => netNeq ⟨ip, bits, lo, hi⟩ w; simp only at hnq; obtain ⟨Z, hZ⟩ : ∃ Z, Z = decide ((⟨ip, bits, lo, hi⟩ : NetD) ≠ ⟨0, 0, 0, 0⟩) := ⟨_, rfl⟩
     rw [← hZ] at hnq; have HZ := Lib.hid hZ; obtain ⟨kk, hkk⟩ : ∃ kk, kk = kindF nr a := ⟨_, rfl⟩
     rw [← hkk] at hix2; have HKK := Lib.hid hkk
     have HALL : Hid (∀ W' : World, Below (w.alloc (.cells #[.int .i64 (a : Int), .int .i64 op, .int .u64 v, .int .u64 m, .string glob, .int .u32 ip, .int .i64 bits, .int .i64 lo, .int .i64 hi] 47)).heap.size (w.alloc (.cells #[.int .i64 (a : Int), .int .i64 op, .int .u64 v, .int .u64 m, .string glob, .int .u32 ip, .int .i64 bits, .int .i64 lo, .int .i64 hi] 47)) W' → W'.cell? ⟨w.heap.size, 0, none⟩ = some (.int .i64 (a : Int)) ∧ W'.cell? ⟨w.heap.size, 1, none⟩ = some (.int .i64 op) ∧ W'.cell? ⟨w.heap.size, 2, none⟩ = some (.int .u64 v) ∧ W'.cell? ⟨w.heap.size, 3, none⟩ = some (.int .u64 m) ∧ W'.cell? ⟨w.heap.size, 4, none⟩ = some (.string glob) ∧ W'.cell? ⟨w.heap.size, 5, none⟩ = some (.int .u32 ip) ∧ W'.cell? ⟨w.heap.size, 6, none⟩ = some (.int .i64 bits) ∧ W'.cell? ⟨w.heap.size, 7, none⟩ = some (.int .i64 lo) ∧ W'.cell? ⟨w.heap.size, 8, none⟩ = some (.int .i64 hi)) := fun W' h => by
      have hs : w.heap.size < (w.alloc (.cells #[.int .i64 (a : Int), .int .i64 op, .int .u64 v, .int .u64 m, .string glob, .int .u32 ip, .int .i64 bits, .int .i64 lo, .int .i64 hi] 47)).heap.size := by simp
      refine ⟨?_, ?_, ?_, ?_, ?_, ?_, ?_, ?_, ?_⟩ <;> (rw [h.cell (p := ⟨w.heap.size, _, none⟩) hs, cell_of_row _ _ _ _ _ _ (heap_alloc_new _ _)]; rfl)
     have HBW : Hid (∀ W' : World, Below (w.alloc (.cells #[.int .i64 (a : Int), .int .i64 op, .int .u64 v, .int .u64 m, .string glob, .int .u32 ip, .int .i64 bits, .int .i64 lo, .int .i64 hi] 47)).heap.size (w.alloc (.cells #[.int .i64 (a : Int), .int .i64 op, .int .u64 v, .int .u64 m, .string glob, .int .u32 ip, .int .i64 bits, .int .i64 lo, .int .i64 hi] 47)) W' → Below w.heap.size w W') := fun W' h => ((Below.refl _ _).alloc (Nat.le_refl _) _).trans (h.mono (by simp))
     generalize kindF nr 0 = f0 at *
     generalize kindF nr 1 = f1 at *
     generalize kindF nr 2 = f2 at *
     generalize kindF nr 3 = f3 at *
     generalize formName nr = fname at *
     have HFR : Hid (∀ w : World, Calls Tryz.prog 82 #[] w fun e w' => e = .returned (.agg formsRow) ∧ Below w.heap.size w w') := fun w => forms_any w; generalize formsRow = FR at *
     clear hZ hkk HF0 hn ha
     by_cases q7 : op = 7
     ·subst q7; have hko : kindOf 7 = 1 := rfl; rw [hko] at HBD
      by_cases hk : kk = 1
      ·subst hk
       by_cases hgs : glob.size = 0
       ·have ge : glob.toList.isEmpty = true := by rw [HGE.out]; exact decide_eq_true hgs
        have gl : ¬ (0 : Int) < (glob.size : Int) := by omega
        by_cases hnn : (⟨ip, bits, lo, hi⟩ : NetD) = ⟨0, 0, 0, 0⟩
        ·have hzf : Z = false := by rw [HZ.out]; exact decide_eq_false (fun h => h hnn)
         subst hzf
         have hnb : ¬ CondD.bad nr ⟨(a : Int), 7, v, m, glob, ⟨ip, bits, lo, hi⟩⟩ := fun hb => (show False from by
          have hb2 := HBD.out.1 hb; rw [← HKK.out] at hb2
          revert hb2
          rintro (h | h | h | h | h) <;> first | exact h rfl | omega | exact h.2 hgs | exact h.2 hnn | exact h.2 rfl)
         have HFI : condF nr ⟨(a : Int), 7, v, m, glob, ⟨ip, bits, lo, hi⟩⟩ = 0 := by rw [HX.out, if_neg hnb]; rfl
         have HF : Hid (errV (condF nr ⟨(a : Int), 7, v, m, glob, ⟨ip, bits, lo, hi⟩⟩) = .nilIface) := by show _ = _; rw [HFI]; rfl
         clear HFI hnb HX HBD hko HKK HZ HGE
         try clear hnn
         go_enter Tryz.func127, Tryz.ntmps127
         go_wp2_with fail
         go_region_held3 (fun W' : World => W'.cell? ⟨w.heap.size, 0, none⟩ = some (.int .i64 (a : Int))) (first | exact (HALL.out _ ((Below.refl _ _).trans ⟨rfl, rfl, rfl, Nat.le_refl _, fun _ _ => rfl⟩)).1 | exact (HALL.out _ ⟨hb1.os, hb1.tape, hb1.output, hb1.size, hb1.block⟩).1) (first
          | (go_at_call 82; refine cargs (by simp [Act.eval]) ((HFR.out _).mono ?_); rintro e w1 ⟨rfl, hb1⟩))
         obtain ⟨g0, g1, g2, g3, g4, g5, g6, g7, g8⟩ := HALL.out w1 ⟨hb1.os, hb1.tape, hb1.output, hb1.size, hb1.block⟩; have HB1 := Lib.hid (HBW.out w1 ⟨hb1.os, hb1.tape, hb1.output, hb1.size, hb1.block⟩); clear hb1
         go_wp2_with (fail)
         all_goals first
          | (exfalso; omega)
          | (go_ret; exact ⟨by rw [HF.out]; rfl, HB1.out⟩)
        ·have hzf : Z = true := by rw [HZ.out]; exact decide_eq_true hnn
         subst hzf; have HF : Hid (errV (condF nr ⟨(a : Int), 7, v, m, glob, ⟨ip, bits, lo, hi⟩⟩) = .iface 105 (.int .i64 3)) := by show _ = _; rw [HX.out, if_pos (HBD.out.2 (Or.inr (Or.inr (Or.inr (Or.inr ⟨by omega, hnn⟩)))))]; rfl
         clear HX HBD hko HKK HZ HGE
         try clear hnn
         go_enter Tryz.func127, Tryz.ntmps127
         go_wp2_with fail
         go_region_held3 (fun W' : World => W'.cell? ⟨w.heap.size, 0, none⟩ = some (.int .i64 (a : Int))) (first | exact (HALL.out _ ((Below.refl _ _).trans ⟨rfl, rfl, rfl, Nat.le_refl _, fun _ _ => rfl⟩)).1 | exact (HALL.out _ ⟨hb1.os, hb1.tape, hb1.output, hb1.size, hb1.block⟩).1) (first
          | (go_at_call 82; refine cargs (by simp [Act.eval]) ((HFR.out _).mono ?_); rintro e w1 ⟨rfl, hb1⟩))
         obtain ⟨g0, g1, g2, g3, g4, g5, g6, g7, g8⟩ := HALL.out w1 ⟨hb1.os, hb1.tape, hb1.output, hb1.size, hb1.block⟩; have HB1 := Lib.hid (HBW.out w1 ⟨hb1.os, hb1.tape, hb1.output, hb1.size, hb1.block⟩); clear hb1
         go_wp2_with (fail)
         all_goals first
          | (exfalso; omega)
          | (go_ret; exact ⟨by rw [HF.out]; rfl, HB1.out⟩)
       ·have ge : glob.toList.isEmpty = false := by rw [HGE.out]; exact decide_eq_false hgs
        have gl : (0 : Int) < (glob.size : Int) := by omega
        have gl2 : 0 < glob.size := by omega
        have HF : Hid (errV (condF nr ⟨(a : Int), 7, v, m, glob, ⟨ip, bits, lo, hi⟩⟩) = .iface 105 (.int .i64 3)) := by show _ = _; rw [HX.out, if_pos (HBD.out.2 (Or.inr (Or.inr (Or.inr (Or.inl ⟨by omega, hgs⟩)))))]; rfl
        clear HX HBD hko HKK HZ HGE
        try clear hnn
        go_enter Tryz.func127, Tryz.ntmps127
        go_wp2_with fail
        go_region_held3 (fun W' : World => W'.cell? ⟨w.heap.size, 0, none⟩ = some (.int .i64 (a : Int))) (first | exact (HALL.out _ ((Below.refl _ _).trans ⟨rfl, rfl, rfl, Nat.le_refl _, fun _ _ => rfl⟩)).1 | exact (HALL.out _ ⟨hb1.os, hb1.tape, hb1.output, hb1.size, hb1.block⟩).1) (first
         | (go_at_call 82; refine cargs (by simp [Act.eval]) ((HFR.out _).mono ?_); rintro e w1 ⟨rfl, hb1⟩))
        obtain ⟨g0, g1, g2, g3, g4, g5, g6, g7, g8⟩ := HALL.out w1 ⟨hb1.os, hb1.tape, hb1.output, hb1.size, hb1.block⟩; have HB1 := Lib.hid (HBW.out w1 ⟨hb1.os, hb1.tape, hb1.output, hb1.size, hb1.block⟩); clear hb1
        go_wp2_with (fail)
        all_goals first
         | (exfalso; omega)
         | (go_ret; exact ⟨by rw [HF.out]; rfl, HB1.out⟩)
      ·have hkq : (kk != 1) = true := by simp; exact hk
       have HF : Hid (errV (condF nr ⟨(a : Int), 7, v, m, glob, ⟨ip, bits, lo, hi⟩⟩) = .iface 105 (.int .i64 3)) := by show _ = _; rw [HX.out, if_pos (HBD.out.2 (Or.inl (by rw [← HKK.out]; exact hk)))]; rfl
       clear HX HBD hko HKK HZ HGE
       try clear hnn
       go_enter Tryz.func127, Tryz.ntmps127
       go_wp2_with fail
       go_region_held3 (fun W' : World => W'.cell? ⟨w.heap.size, 0, none⟩ = some (.int .i64 (a : Int))) (first | exact (HALL.out _ ((Below.refl _ _).trans ⟨rfl, rfl, rfl, Nat.le_refl _, fun _ _ => rfl⟩)).1 | exact (HALL.out _ ⟨hb1.os, hb1.tape, hb1.output, hb1.size, hb1.block⟩).1) (first
        | (go_at_call 82; refine cargs (by simp [Act.eval]) ((HFR.out _).mono ?_); rintro e w1 ⟨rfl, hb1⟩))
       obtain ⟨g0, g1, g2, g3, g4, g5, g6, g7, g8⟩ := HALL.out w1 ⟨hb1.os, hb1.tape, hb1.output, hb1.size, hb1.block⟩; have HB1 := Lib.hid (HBW.out w1 ⟨hb1.os, hb1.tape, hb1.output, hb1.size, hb1.block⟩); clear hb1
       go_wp2_with (fail)
       all_goals first
        | (exfalso; omega)
        | (go_ret; exact ⟨by rw [HF.out]; rfl, HB1.out⟩)
     ·skip
      by_cases q8 : op = 8
      ·subst q8; have hko : kindOf 8 = 2 := rfl; rw [hko] at HBD
       by_cases hk : kk = 2
       ·subst hk
        by_cases hm : m = 0
        ·subst hm
         by_cases hv : v = 0
         ·subst hv
          by_cases hnn : (⟨ip, bits, lo, hi⟩ : NetD) = ⟨0, 0, 0, 0⟩
          ·have hzf : Z = false := by rw [HZ.out]; exact decide_eq_false (fun h => h hnn)
           subst hzf
           have hnb : ¬ CondD.bad nr ⟨(a : Int), 8, 0, 0, glob, ⟨ip, bits, lo, hi⟩⟩ := fun hb => (show False from by
            have hb2 := HBD.out.1 hb; rw [← HKK.out] at hb2
            revert hb2
            rintro (h | h | h | h | h) <;> first | exact h rfl | omega | exact h.2 hm | exact h.2 hv | exact h.2 hnn | exact h.2 rfl)
           have HFI : condF nr ⟨(a : Int), 8, 0, 0, glob, ⟨ip, bits, lo, hi⟩⟩ = globF (bytesOf glob) := by rw [HX.out, if_neg hnb, if_pos rfl]
           have HF : Hid (errV (condF nr ⟨(a : Int), 8, 0, 0, glob, ⟨ip, bits, lo, hi⟩⟩) = GV) := by show _ = _; rw [HFI, HGV.out]
           clear HFI hnb HX HBD hko HKK HZ HGE
           try clear hnn
           go_enter Tryz.func127, Tryz.ntmps127
           go_wp2_with fail
           go_region_held3 (fun W' : World => W'.cell? ⟨w.heap.size, 0, none⟩ = some (.int .i64 (a : Int))) (first | exact (HALL.out _ ((Below.refl _ _).trans ⟨rfl, rfl, rfl, Nat.le_refl _, fun _ _ => rfl⟩)).1 | exact (HALL.out _ ⟨hb1.os, hb1.tape, hb1.output, hb1.size, hb1.block⟩).1) (first
            | (go_at_call 82; refine cargs (by simp [Act.eval]) ((HFR.out _).mono ?_); rintro e w1 ⟨rfl, hb1⟩))
           obtain ⟨g0, g1, g2, g3, g4, g5, g6, g7, g8⟩ := HALL.out w1 ⟨hb1.os, hb1.tape, hb1.output, hb1.size, hb1.block⟩; have HB1 := Lib.hid (HBW.out w1 ⟨hb1.os, hb1.tape, hb1.output, hb1.size, hb1.block⟩); clear hb1
           go_wp2_with ((go_at_call 170; refine cargs (by simp [Act.eval]) ((HGC.out _).mono ?_); rintro e w3 ⟨rfl, hb3⟩))
           all_goals first
            | (exfalso; omega)
            | (go_ret; exact ⟨by rw [HF.out]; rfl, HB1.out.trans (hb3.mono HB1.out.size)⟩)
          ·have hzf : Z = true := by rw [HZ.out]; exact decide_eq_true hnn
           subst hzf; have HF : Hid (errV (condF nr ⟨(a : Int), 8, 0, 0, glob, ⟨ip, bits, lo, hi⟩⟩) = .iface 105 (.int .i64 3)) := by show _ = _; rw [HX.out, if_pos (HBD.out.2 (Or.inr (Or.inr (Or.inr (Or.inr ⟨by omega, hnn⟩)))))]; rfl
           clear HX HBD hko HKK HZ HGE
           try clear hnn
           go_enter Tryz.func127, Tryz.ntmps127
           go_wp2_with fail
           go_region_held3 (fun W' : World => W'.cell? ⟨w.heap.size, 0, none⟩ = some (.int .i64 (a : Int))) (first | exact (HALL.out _ ((Below.refl _ _).trans ⟨rfl, rfl, rfl, Nat.le_refl _, fun _ _ => rfl⟩)).1 | exact (HALL.out _ ⟨hb1.os, hb1.tape, hb1.output, hb1.size, hb1.block⟩).1) (first
            | (go_at_call 82; refine cargs (by simp [Act.eval]) ((HFR.out _).mono ?_); rintro e w1 ⟨rfl, hb1⟩))
           obtain ⟨g0, g1, g2, g3, g4, g5, g6, g7, g8⟩ := HALL.out w1 ⟨hb1.os, hb1.tape, hb1.output, hb1.size, hb1.block⟩; have HB1 := Lib.hid (HBW.out w1 ⟨hb1.os, hb1.tape, hb1.output, hb1.size, hb1.block⟩); clear hb1
           go_wp2_with (fail)
           all_goals first
            | (exfalso; omega)
            | (go_ret; exact ⟨by rw [HF.out]; rfl, HB1.out⟩)
         ·have hvp : (v != 0) = true := by simp; exact hv
          have hvq : 0 < v := by omega
          have HF : Hid (errV (condF nr ⟨(a : Int), 8, v, 0, glob, ⟨ip, bits, lo, hi⟩⟩) = .iface 105 (.int .i64 3)) := by show _ = _; rw [HX.out, if_pos (HBD.out.2 (Or.inr (Or.inr (Or.inl ⟨by omega, hv⟩))))]; rfl
          clear HX HBD hko HKK HZ HGE
          try clear hnn
          go_enter Tryz.func127, Tryz.ntmps127
          go_wp2_with fail
          go_region_held3 (fun W' : World => W'.cell? ⟨w.heap.size, 0, none⟩ = some (.int .i64 (a : Int))) (first | exact (HALL.out _ ((Below.refl _ _).trans ⟨rfl, rfl, rfl, Nat.le_refl _, fun _ _ => rfl⟩)).1 | exact (HALL.out _ ⟨hb1.os, hb1.tape, hb1.output, hb1.size, hb1.block⟩).1) (first
           | (go_at_call 82; refine cargs (by simp [Act.eval]) ((HFR.out _).mono ?_); rintro e w1 ⟨rfl, hb1⟩))
          obtain ⟨g0, g1, g2, g3, g4, g5, g6, g7, g8⟩ := HALL.out w1 ⟨hb1.os, hb1.tape, hb1.output, hb1.size, hb1.block⟩; have HB1 := Lib.hid (HBW.out w1 ⟨hb1.os, hb1.tape, hb1.output, hb1.size, hb1.block⟩); clear hb1
          go_wp2_with (fail)
          all_goals first
           | (exfalso; omega)
           | (go_ret; exact ⟨by rw [HF.out]; rfl, HB1.out⟩)
        ·have hmp : (m != 0) = true := by simp; exact hm
         have hmq : 0 < m := by omega
         have HF : Hid (errV (condF nr ⟨(a : Int), 8, v, m, glob, ⟨ip, bits, lo, hi⟩⟩) = .iface 105 (.int .i64 3)) := by show _ = _; rw [HX.out, if_pos (HBD.out.2 (Or.inr (Or.inl ⟨by omega, hm⟩)))]; rfl
         clear HX HBD hko HKK HZ HGE
         try clear hnn
         go_enter Tryz.func127, Tryz.ntmps127
         go_wp2_with fail
         go_region_held3 (fun W' : World => W'.cell? ⟨w.heap.size, 0, none⟩ = some (.int .i64 (a : Int))) (first | exact (HALL.out _ ((Below.refl _ _).trans ⟨rfl, rfl, rfl, Nat.le_refl _, fun _ _ => rfl⟩)).1 | exact (HALL.out _ ⟨hb1.os, hb1.tape, hb1.output, hb1.size, hb1.block⟩).1) (first
          | (go_at_call 82; refine cargs (by simp [Act.eval]) ((HFR.out _).mono ?_); rintro e w1 ⟨rfl, hb1⟩))
         obtain ⟨g0, g1, g2, g3, g4, g5, g6, g7, g8⟩ := HALL.out w1 ⟨hb1.os, hb1.tape, hb1.output, hb1.size, hb1.block⟩; have HB1 := Lib.hid (HBW.out w1 ⟨hb1.os, hb1.tape, hb1.output, hb1.size, hb1.block⟩); clear hb1
         go_wp2_with (fail)
         all_goals first
          | (exfalso; omega)
          | (go_ret; exact ⟨by rw [HF.out]; rfl, HB1.out⟩)
       ·have hkq : (kk != 2) = true := by simp; exact hk
        have HF : Hid (errV (condF nr ⟨(a : Int), 8, v, m, glob, ⟨ip, bits, lo, hi⟩⟩) = .iface 105 (.int .i64 3)) := by show _ = _; rw [HX.out, if_pos (HBD.out.2 (Or.inl (by rw [← HKK.out]; exact hk)))]; rfl
        clear HX HBD hko HKK HZ HGE
        try clear hnn
        go_enter Tryz.func127, Tryz.ntmps127
        go_wp2_with fail
        go_region_held3 (fun W' : World => W'.cell? ⟨w.heap.size, 0, none⟩ = some (.int .i64 (a : Int))) (first | exact (HALL.out _ ((Below.refl _ _).trans ⟨rfl, rfl, rfl, Nat.le_refl _, fun _ _ => rfl⟩)).1 | exact (HALL.out _ ⟨hb1.os, hb1.tape, hb1.output, hb1.size, hb1.block⟩).1) (first
         | (go_at_call 82; refine cargs (by simp [Act.eval]) ((HFR.out _).mono ?_); rintro e w1 ⟨rfl, hb1⟩))
        obtain ⟨g0, g1, g2, g3, g4, g5, g6, g7, g8⟩ := HALL.out w1 ⟨hb1.os, hb1.tape, hb1.output, hb1.size, hb1.block⟩; have HB1 := Lib.hid (HBW.out w1 ⟨hb1.os, hb1.tape, hb1.output, hb1.size, hb1.block⟩); clear hb1
        go_wp2_with (fail)
        all_goals first
         | (exfalso; omega)
         | (go_ret; exact ⟨by rw [HF.out]; rfl, HB1.out⟩)
      ·skip
       by_cases q9 : op = 9
       ·subst q9; have hko : kindOf 9 = 3 := rfl; rw [hko] at HBD
        by_cases hk : kk = 3
        ·subst hk
         by_cases hm : m = 0
         ·subst hm
          by_cases hv : v = 0
          ·subst hv
           by_cases hgs : glob.size = 0
           ·have ge : glob.toList.isEmpty = true := by rw [HGE.out]; exact decide_eq_true hgs
            have gl : ¬ (0 : Int) < (glob.size : Int) := by omega
            have hnb : ¬ CondD.bad nr ⟨(a : Int), 9, 0, 0, glob, ⟨ip, bits, lo, hi⟩⟩ := fun hb => (show False from by
             have hb2 := HBD.out.1 hb; rw [← HKK.out] at hb2
             revert hb2
             rintro (h | h | h | h | h) <;> first | exact h rfl | omega | exact h.2 hm | exact h.2 hv | exact h.2 hgs | exact h.2 rfl)
            have HFI : condF nr ⟨(a : Int), 9, 0, 0, glob, ⟨ip, bits, lo, hi⟩⟩ = netF ⟨ip, bits, lo, hi⟩ := by rw [HX.out, if_neg hnb, if_neg (by omega), if_pos rfl]
            have HF : Hid (errV (condF nr ⟨(a : Int), 9, 0, 0, glob, ⟨ip, bits, lo, hi⟩⟩) = NV) := by show _ = _; rw [HFI, HNV.out]
            clear HFI hnb HX HBD hko HKK HZ HGE
            try clear hnn
            go_enter Tryz.func127, Tryz.ntmps127
            go_wp2_with fail
            go_region_held3 (fun W' : World => W'.cell? ⟨w.heap.size, 0, none⟩ = some (.int .i64 (a : Int))) (first | exact (HALL.out _ ((Below.refl _ _).trans ⟨rfl, rfl, rfl, Nat.le_refl _, fun _ _ => rfl⟩)).1 | exact (HALL.out _ ⟨hb1.os, hb1.tape, hb1.output, hb1.size, hb1.block⟩).1) (first
             | (go_at_call 82; refine cargs (by simp [Act.eval]) ((HFR.out _).mono ?_); rintro e w1 ⟨rfl, hb1⟩))
            obtain ⟨g0, g1, g2, g3, g4, g5, g6, g7, g8⟩ := HALL.out w1 ⟨hb1.os, hb1.tape, hb1.output, hb1.size, hb1.block⟩; have HB1 := Lib.hid (HBW.out w1 ⟨hb1.os, hb1.tape, hb1.output, hb1.size, hb1.block⟩); clear hb1
            go_wp2_with ((go_at_call 171; refine cargs (by simp [Act.eval]) ((HNC.out _).mono ?_); rintro e w3 ⟨rfl, hb3⟩))
            all_goals first
             | (exfalso; omega)
             | (go_ret; exact ⟨by rw [HF.out]; rfl, HB1.out.trans (hb3.mono HB1.out.size)⟩)
           ·have ge : glob.toList.isEmpty = false := by rw [HGE.out]; exact decide_eq_false hgs
            have gl : (0 : Int) < (glob.size : Int) := by omega
            have gl2 : 0 < glob.size := by omega
            have HF : Hid (errV (condF nr ⟨(a : Int), 9, 0, 0, glob, ⟨ip, bits, lo, hi⟩⟩) = .iface 105 (.int .i64 3)) := by show _ = _; rw [HX.out, if_pos (HBD.out.2 (Or.inr (Or.inr (Or.inr (Or.inl ⟨by omega, hgs⟩)))))]; rfl
            clear HX HBD hko HKK HZ HGE
            try clear hnn
            go_enter Tryz.func127, Tryz.ntmps127
            go_wp2_with fail
            go_region_held3 (fun W' : World => W'.cell? ⟨w.heap.size, 0, none⟩ = some (.int .i64 (a : Int))) (first | exact (HALL.out _ ((Below.refl _ _).trans ⟨rfl, rfl, rfl, Nat.le_refl _, fun _ _ => rfl⟩)).1 | exact (HALL.out _ ⟨hb1.os, hb1.tape, hb1.output, hb1.size, hb1.block⟩).1) (first
             | (go_at_call 82; refine cargs (by simp [Act.eval]) ((HFR.out _).mono ?_); rintro e w1 ⟨rfl, hb1⟩))
            obtain ⟨g0, g1, g2, g3, g4, g5, g6, g7, g8⟩ := HALL.out w1 ⟨hb1.os, hb1.tape, hb1.output, hb1.size, hb1.block⟩; have HB1 := Lib.hid (HBW.out w1 ⟨hb1.os, hb1.tape, hb1.output, hb1.size, hb1.block⟩); clear hb1
            go_wp2_with (fail)
            all_goals first
             | (exfalso; omega)
             | (go_ret; exact ⟨by rw [HF.out]; rfl, HB1.out⟩)
          ·have hvp : (v != 0) = true := by simp; exact hv
           have hvq : 0 < v := by omega
           have HF : Hid (errV (condF nr ⟨(a : Int), 9, v, 0, glob, ⟨ip, bits, lo, hi⟩⟩) = .iface 105 (.int .i64 3)) := by show _ = _; rw [HX.out, if_pos (HBD.out.2 (Or.inr (Or.inr (Or.inl ⟨by omega, hv⟩))))]; rfl
           clear HX HBD hko HKK HZ HGE
           try clear hnn
           go_enter Tryz.func127, Tryz.ntmps127
           go_wp2_with fail
           go_region_held3 (fun W' : World => W'.cell? ⟨w.heap.size, 0, none⟩ = some (.int .i64 (a : Int))) (first | exact (HALL.out _ ((Below.refl _ _).trans ⟨rfl, rfl, rfl, Nat.le_refl _, fun _ _ => rfl⟩)).1 | exact (HALL.out _ ⟨hb1.os, hb1.tape, hb1.output, hb1.size, hb1.block⟩).1) (first
            | (go_at_call 82; refine cargs (by simp [Act.eval]) ((HFR.out _).mono ?_); rintro e w1 ⟨rfl, hb1⟩))
           obtain ⟨g0, g1, g2, g3, g4, g5, g6, g7, g8⟩ := HALL.out w1 ⟨hb1.os, hb1.tape, hb1.output, hb1.size, hb1.block⟩; have HB1 := Lib.hid (HBW.out w1 ⟨hb1.os, hb1.tape, hb1.output, hb1.size, hb1.block⟩); clear hb1
           go_wp2_with (fail)
           all_goals first
            | (exfalso; omega)
            | (go_ret; exact ⟨by rw [HF.out]; rfl, HB1.out⟩)
         ·have hmp : (m != 0) = true := by simp; exact hm
          have hmq : 0 < m := by omega
          have HF : Hid (errV (condF nr ⟨(a : Int), 9, v, m, glob, ⟨ip, bits, lo, hi⟩⟩) = .iface 105 (.int .i64 3)) := by show _ = _; rw [HX.out, if_pos (HBD.out.2 (Or.inr (Or.inl ⟨by omega, hm⟩)))]; rfl
          clear HX HBD hko HKK HZ HGE
          try clear hnn
          go_enter Tryz.func127, Tryz.ntmps127
          go_wp2_with fail
          go_region_held3 (fun W' : World => W'.cell? ⟨w.heap.size, 0, none⟩ = some (.int .i64 (a : Int))) (first | exact (HALL.out _ ((Below.refl _ _).trans ⟨rfl, rfl, rfl, Nat.le_refl _, fun _ _ => rfl⟩)).1 | exact (HALL.out _ ⟨hb1.os, hb1.tape, hb1.output, hb1.size, hb1.block⟩).1) (first
           | (go_at_call 82; refine cargs (by simp [Act.eval]) ((HFR.out _).mono ?_); rintro e w1 ⟨rfl, hb1⟩))
          obtain ⟨g0, g1, g2, g3, g4, g5, g6, g7, g8⟩ := HALL.out w1 ⟨hb1.os, hb1.tape, hb1.output, hb1.size, hb1.block⟩; have HB1 := Lib.hid (HBW.out w1 ⟨hb1.os, hb1.tape, hb1.output, hb1.size, hb1.block⟩); clear hb1
          go_wp2_with (fail)
          all_goals first
           | (exfalso; omega)
           | (go_ret; exact ⟨by rw [HF.out]; rfl, HB1.out⟩)
        ·have hkq : (kk != 3) = true := by simp; exact hk
         have HF : Hid (errV (condF nr ⟨(a : Int), 9, v, m, glob, ⟨ip, bits, lo, hi⟩⟩) = .iface 105 (.int .i64 3)) := by show _ = _; rw [HX.out, if_pos (HBD.out.2 (Or.inl (by rw [← HKK.out]; exact hk)))]; rfl
         clear HX HBD hko HKK HZ HGE
         try clear hnn
         go_enter Tryz.func127, Tryz.ntmps127
         go_wp2_with fail
         go_region_held3 (fun W' : World => W'.cell? ⟨w.heap.size, 0, none⟩ = some (.int .i64 (a : Int))) (first | exact (HALL.out _ ((Below.refl _ _).trans ⟨rfl, rfl, rfl, Nat.le_refl _, fun _ _ => rfl⟩)).1 | exact (HALL.out _ ⟨hb1.os, hb1.tape, hb1.output, hb1.size, hb1.block⟩).1) (first
          | (go_at_call 82; refine cargs (by simp [Act.eval]) ((HFR.out _).mono ?_); rintro e w1 ⟨rfl, hb1⟩))
         obtain ⟨g0, g1, g2, g3, g4, g5, g6, g7, g8⟩ := HALL.out w1 ⟨hb1.os, hb1.tape, hb1.output, hb1.size, hb1.block⟩; have HB1 := Lib.hid (HBW.out w1 ⟨hb1.os, hb1.tape, hb1.output, hb1.size, hb1.block⟩); clear hb1
         go_wp2_with (fail)
         all_goals first
          | (exfalso; omega)
          | (go_ret; exact ⟨by rw [HF.out]; rfl, HB1.out⟩)
       ·skip
        have hko : kindOf op = 1 := by unfold kindOf; rw [if_neg (by omega), if_neg (by omega)]
        rw [hko] at HBD; have hop6 : op < 7 := by omega
        have hop1 : 1 ≤ op := by omega
        have hop7 : ¬ (7 : Int) < op := by omega
        by_cases hk : kk = 1
        ·subst hk
         by_cases hm : m = 0
         ·subst hm
          by_cases hgs : glob.size = 0
          ·have ge : glob.toList.isEmpty = true := by rw [HGE.out]; exact decide_eq_true hgs
           have gl : ¬ (0 : Int) < (glob.size : Int) := by omega
           by_cases hnn : (⟨ip, bits, lo, hi⟩ : NetD) = ⟨0, 0, 0, 0⟩
           ·have hzf : Z = false := by rw [HZ.out]; exact decide_eq_false (fun h => h hnn)
            subst hzf
            have hnb : ¬ CondD.bad nr ⟨(a : Int), op, v, 0, glob, ⟨ip, bits, lo, hi⟩⟩ := fun hb => (show False from by
             have hb2 := HBD.out.1 hb; rw [← HKK.out] at hb2
             revert hb2
             rintro (h | h | h | h | h) <;> first | exact h rfl | omega | exact h.2 hm | exact h.2 hgs | exact h.2 hnn | exact h.2 rfl)
            have HFI : condF nr ⟨(a : Int), op, v, 0, glob, ⟨ip, bits, lo, hi⟩⟩ = 0 := by rw [HX.out, if_neg hnb, if_neg (by omega), if_neg (by omega)]
            have HF : Hid (errV (condF nr ⟨(a : Int), op, v, 0, glob, ⟨ip, bits, lo, hi⟩⟩) = .nilIface) := by show _ = _; rw [HFI]; rfl
            clear HFI hnb HX HBD hko HKK HZ HGE
            try clear hnn
            go_enter Tryz.func127, Tryz.ntmps127
            go_wp2_with fail
            go_region_held3 (fun W' : World => W'.cell? ⟨w.heap.size, 0, none⟩ = some (.int .i64 (a : Int))) (first | exact (HALL.out _ ((Below.refl _ _).trans ⟨rfl, rfl, rfl, Nat.le_refl _, fun _ _ => rfl⟩)).1 | exact (HALL.out _ ⟨hb1.os, hb1.tape, hb1.output, hb1.size, hb1.block⟩).1) (first
             | (go_at_call 82; refine cargs (by simp [Act.eval]) ((HFR.out _).mono ?_); rintro e w1 ⟨rfl, hb1⟩))
            obtain ⟨g0, g1, g2, g3, g4, g5, g6, g7, g8⟩ := HALL.out w1 ⟨hb1.os, hb1.tape, hb1.output, hb1.size, hb1.block⟩; have HB1 := Lib.hid (HBW.out w1 ⟨hb1.os, hb1.tape, hb1.output, hb1.size, hb1.block⟩); clear hb1
            go_wp2_with (fail)
            all_goals first
             | (exfalso; omega)
             | (go_ret; exact ⟨by rw [HF.out]; rfl, HB1.out⟩)
           ·have hzf : Z = true := by rw [HZ.out]; exact decide_eq_true hnn
            subst hzf; have HF : Hid (errV (condF nr ⟨(a : Int), op, v, 0, glob, ⟨ip, bits, lo, hi⟩⟩) = .iface 105 (.int .i64 3)) := by show _ = _; rw [HX.out, if_pos (HBD.out.2 (Or.inr (Or.inr (Or.inr (Or.inr ⟨by omega, hnn⟩)))))]; rfl
            clear HX HBD hko HKK HZ HGE
            try clear hnn
            go_enter Tryz.func127, Tryz.ntmps127
            go_wp2_with fail
            go_region_held3 (fun W' : World => W'.cell? ⟨w.heap.size, 0, none⟩ = some (.int .i64 (a : Int))) (first | exact (HALL.out _ ((Below.refl _ _).trans ⟨rfl, rfl, rfl, Nat.le_refl _, fun _ _ => rfl⟩)).1 | exact (HALL.out _ ⟨hb1.os, hb1.tape, hb1.output, hb1.size, hb1.block⟩).1) (first
             | (go_at_call 82; refine cargs (by simp [Act.eval]) ((HFR.out _).mono ?_); rintro e w1 ⟨rfl, hb1⟩))
            obtain ⟨g0, g1, g2, g3, g4, g5, g6, g7, g8⟩ := HALL.out w1 ⟨hb1.os, hb1.tape, hb1.output, hb1.size, hb1.block⟩; have HB1 := Lib.hid (HBW.out w1 ⟨hb1.os, hb1.tape, hb1.output, hb1.size, hb1.block⟩); clear hb1
            go_wp2_with (fail)
            all_goals first
             | (exfalso; omega)
             | (go_ret; exact ⟨by rw [HF.out]; rfl, HB1.out⟩)
          ·have ge : glob.toList.isEmpty = false := by rw [HGE.out]; exact decide_eq_false hgs
           have gl : (0 : Int) < (glob.size : Int) := by omega
           have gl2 : 0 < glob.size := by omega
           have HF : Hid (errV (condF nr ⟨(a : Int), op, v, 0, glob, ⟨ip, bits, lo, hi⟩⟩) = .iface 105 (.int .i64 3)) := by show _ = _; rw [HX.out, if_pos (HBD.out.2 (Or.inr (Or.inr (Or.inr (Or.inl ⟨by omega, hgs⟩)))))]; rfl
           clear HX HBD hko HKK HZ HGE
           try clear hnn
           go_enter Tryz.func127, Tryz.ntmps127
           go_wp2_with fail
           go_region_held3 (fun W' : World => W'.cell? ⟨w.heap.size, 0, none⟩ = some (.int .i64 (a : Int))) (first | exact (HALL.out _ ((Below.refl _ _).trans ⟨rfl, rfl, rfl, Nat.le_refl _, fun _ _ => rfl⟩)).1 | exact (HALL.out _ ⟨hb1.os, hb1.tape, hb1.output, hb1.size, hb1.block⟩).1) (first
            | (go_at_call 82; refine cargs (by simp [Act.eval]) ((HFR.out _).mono ?_); rintro e w1 ⟨rfl, hb1⟩))
           obtain ⟨g0, g1, g2, g3, g4, g5, g6, g7, g8⟩ := HALL.out w1 ⟨hb1.os, hb1.tape, hb1.output, hb1.size, hb1.block⟩; have HB1 := Lib.hid (HBW.out w1 ⟨hb1.os, hb1.tape, hb1.output, hb1.size, hb1.block⟩); clear hb1
           go_wp2_with (fail)
           all_goals first
            | (exfalso; omega)
            | (go_ret; exact ⟨by rw [HF.out]; rfl, HB1.out⟩)
         ·have hmp : (m != 0) = true := by simp; exact hm
          have hmq : 0 < m := by omega
          have HF : Hid (errV (condF nr ⟨(a : Int), op, v, m, glob, ⟨ip, bits, lo, hi⟩⟩) = .iface 105 (.int .i64 3)) := by show _ = _; rw [HX.out, if_pos (HBD.out.2 (Or.inr (Or.inl ⟨by omega, hm⟩)))]; rfl
          clear HX HBD hko HKK HZ HGE
          try clear hnn
          go_enter Tryz.func127, Tryz.ntmps127
          go_wp2_with fail
          go_region_held3 (fun W' : World => W'.cell? ⟨w.heap.size, 0, none⟩ = some (.int .i64 (a : Int))) (first | exact (HALL.out _ ((Below.refl _ _).trans ⟨rfl, rfl, rfl, Nat.le_refl _, fun _ _ => rfl⟩)).1 | exact (HALL.out _ ⟨hb1.os, hb1.tape, hb1.output, hb1.size, hb1.block⟩).1) (first
           | (go_at_call 82; refine cargs (by simp [Act.eval]) ((HFR.out _).mono ?_); rintro e w1 ⟨rfl, hb1⟩))
          obtain ⟨g0, g1, g2, g3, g4, g5, g6, g7, g8⟩ := HALL.out w1 ⟨hb1.os, hb1.tape, hb1.output, hb1.size, hb1.block⟩; have HB1 := Lib.hid (HBW.out w1 ⟨hb1.os, hb1.tape, hb1.output, hb1.size, hb1.block⟩); clear hb1
          go_wp2_with (fail)
          all_goals first
           | (exfalso; omega)
           | (go_ret; exact ⟨by rw [HF.out]; rfl, HB1.out⟩)
        ·have hkq : (kk != 1) = true := by simp; exact hk
         have HF : Hid (errV (condF nr ⟨(a : Int), op, v, m, glob, ⟨ip, bits, lo, hi⟩⟩) = .iface 105 (.int .i64 3)) := by show _ = _; rw [HX.out, if_pos (HBD.out.2 (Or.inl (by rw [← HKK.out]; exact hk)))]; rfl
         clear HX HBD hko HKK HZ HGE
         try clear hnn
         go_enter Tryz.func127, Tryz.ntmps127
         go_wp2_with fail
         go_region_held3 (fun W' : World => W'.cell? ⟨w.heap.size, 0, none⟩ = some (.int .i64 (a : Int))) (first | exact (HALL.out _ ((Below.refl _ _).trans ⟨rfl, rfl, rfl, Nat.le_refl _, fun _ _ => rfl⟩)).1 | exact (HALL.out _ ⟨hb1.os, hb1.tape, hb1.output, hb1.size, hb1.block⟩).1) (first
          | (go_at_call 82; refine cargs (by simp [Act.eval]) ((HFR.out _).mono ?_); rintro e w1 ⟨rfl, hb1⟩))
         obtain ⟨g0, g1, g2, g3, g4, g5, g6, g7, g8⟩ := HALL.out w1 ⟨hb1.os, hb1.tape, hb1.output, hb1.size, hb1.block⟩; have HB1 := Lib.hid (HBW.out w1 ⟨hb1.os, hb1.tape, hb1.output, hb1.size, hb1.block⟩); clear hb1
         go_wp2_with (fail)
         all_goals first
          | (exfalso; omega)
          | (go_ret; exact ⟨by rw [HF.out]; rfl, HB1.out⟩)
end Go.Proofs.YtmgngapkgcofnabGreatDoor
namespace Go.Proofs.YtmgngapkgcofnabGreatDoor
open Go.RowKit
theorem cell4 (w : World) (p q r s : Value) (t : TypeId) (W : World) (h : Below (w.alloc (.cells #[p, q, r, s] t)).heap.size (w.alloc (.cells #[p, q, r, s] t)) W) :
  W.cell? ⟨w.heap.size, 0, none⟩ = some p ∧ W.cell? ⟨w.heap.size, 1, none⟩ = some q ∧ W.cell? ⟨w.heap.size, 2, none⟩ = some r ∧ W.cell? ⟨w.heap.size, 3, none⟩ = some s := by
 have hs : w.heap.size < (w.alloc (.cells #[p, q, r, s] t)).heap.size := by simp
 refine ⟨?_, ?_, ?_, ?_⟩ <;> (rw [h.cell (p := ⟨w.heap.size, _, none⟩) hs, cell_of_row _ _ _ _ _ _ (heap_alloc_new _ _)]; rfl)
theorem cell3 (w : World) (p q r : Value) (t : TypeId) (W : World) (h : Below (w.alloc (.cells #[p, q, r] t)).heap.size (w.alloc (.cells #[p, q, r] t)) W) :
  W.cell? ⟨w.heap.size, 0, none⟩ = some p ∧ W.cell? ⟨w.heap.size, 1, none⟩ = some q ∧ W.cell? ⟨w.heap.size, 2, none⟩ = some r := by
 have hs : w.heap.size < (w.alloc (.cells #[p, q, r] t)).heap.size := by simp
 refine ⟨?_, ?_, ?_⟩ <;> (rw [h.cell (p := ⟨w.heap.size, _, none⟩) hs, cell_of_row _ _ _ _ _ _ (heap_alloc_new _ _)]; rfl)
theorem cell9 (w : World) (a b c d e f g i j : Value) (t : TypeId) (W : World) (h : Below (w.alloc (.cells #[a, b, c, d, e, f, g, i, j] t)).heap.size (w.alloc (.cells #[a, b, c, d, e, f, g, i, j] t)) W) :
  W.cell? ⟨w.heap.size, 0, none⟩ = some a ∧ W.cell? ⟨w.heap.size, 1, none⟩ = some b ∧ W.cell? ⟨w.heap.size, 2, none⟩ = some c ∧ W.cell? ⟨w.heap.size, 3, none⟩ = some d ∧ W.cell? ⟨w.heap.size, 4, none⟩ = some e ∧ W.cell? ⟨w.heap.size, 5, none⟩ = some f ∧ W.cell? ⟨w.heap.size, 6, none⟩ = some g ∧ W.cell? ⟨w.heap.size, 7, none⟩ = some i ∧ W.cell? ⟨w.heap.size, 8, none⟩ = some j := by
 have hs : w.heap.size < (w.alloc (.cells #[a, b, c, d, e, f, g, i, j] t)).heap.size := by simp
 refine ⟨?_, ?_, ?_, ?_, ?_, ?_, ?_, ?_, ?_⟩ <;> (rw [h.cell (p := ⟨w.heap.size, _, none⟩) hs, cell_of_row _ _ _ _ _ _ (heap_alloc_new _ _)]; rfl)
theorem above (w : World) (o : Obj) (W : World) (h : Below (w.alloc o).heap.size (w.alloc o) W) : Below w.heap.size w W := ((Below.refl _ _).alloc (Nat.le_refl _) _).trans (h.mono (by simp))
set_option linter.unusedSimpArgs false in
set_option maxRecDepth 100000 in
set_option maxHeartbeats 4000000 in
theorem polCheck_any (v : Value) (p : PolD) (w : World) (h : PolAt w w.heap.size v p) (hg : ∀ r ∈ p.rules, ∀ c ∈ r.conds, c.glob.size ≤ 100000) (hl : p.rules.length ≤ 100000) (hcl : ∀ r ∈ p.rules, r.conds.length ≤ 100000) :
  Calls Tryz.prog 72 #[v] w fun e w' => e = .returned (errV (polF p)) ∧ Below w.heap.size w w' := by
 obtain ⟨A, cp, rfl, hr⟩ := h; obtain ⟨A1, cp1, hA, hr⟩ := hr; obtain ⟨rfl, rfl⟩ : A = A1 ∧ cp = cp1 := by simpa using hA
 clear hA; obtain ⟨rules, pk, pe⟩ := p; simp only at hr hg hl hcl ⊢; have HR := Lib.hid hr; have HG := Lib.hid hg; have HCL := Lib.hid hcl; clear hr hg hcl; have HAC : Hid (∀ k e (w : World), Calls Tryz.prog 126 #[.agg #[.int .i64 k, .int .i64 e]] w fun e' w' => e' = .returned (errV (actF k e)) ∧ Below w.heap.size w w') := fun k e w => checkAction_any k e w
 by_cases h12 : 12 < rules.length
 ·have HF : Hid (errV (polF ⟨rules, pk, pe⟩) = .iface 105 (.int .i64 2)) := by show _ = _; unfold polF; rw [if_pos h12]; rfl
  have x1 : (12 : Int) < (rules.length : Int) := by omega
  clear h12; go_enter Tryz.func72, Tryz.ntmps72
  go_wp2_with fail; go_ret; exact ⟨by rw [HF.out]; rfl, by go_grown⟩
 ·have x1 : ¬ (12 : Int) < (rules.length : Int) := by omega
  by_cases ha : actF pk pe = 0
  ·have HF0 : Hid (polF ⟨rules, pk, pe⟩ = firstNZ ruleF rules) := by show _ = _; unfold polF; rw [if_neg h12, if_neg (fun k => k ha)]
   have HA0 : Hid (∀ w : World, Calls Tryz.prog 126 #[.agg #[.int .i64 pk, .int .i64 pe]] w fun e' w' => e' = .returned .nilIface ∧ Below w.heap.size w w') := fun w => by
    have := HAC.out pk pe w; rw [ha] at this; exact this
   have HC3 := Lib.hid (cell3 w (.slice A rules.length cp) (.int .i64 pk) (.int .i64 pe) 26); have HAB := Lib.hid (above w (.cells #[.slice A rules.length cp, .int .i64 pk, .int .i64 pe] 26)); clear ha h12; go_enter Tryz.func72, Tryz.ntmps72
   go_upto_region 6 with (go_at_call 126; refine cargs (by simp [Act.eval]) ((HA0.out _).mono ?_); rintro e w1 ⟨rfl, hb1⟩; obtain ⟨p0, p1, p2⟩ := HC3.out w1 hb1; have HB1 := Lib.hid (HAB.out w1 hb1); clear hb1)
   go_wp2_with fail
   go_loopw [22] (fun iv wr => ∃ i : Nat, i ≤ rules.length ∧ iv = .int .i64 i ∧ Hid (∀ (j : Nat) y, j < i → rules[j]? = some y → ruleF y = 0) ∧ Hid (Below w.heap.size w wr)) (fun iv _ => rules.length - (intOf iv).toNat)
   case atStart => exact ⟨0, Nat.zero_le _, rfl, fun j y hj _ => absurd hj (Nat.not_lt_zero j), HB1⟩
   case round =>
    obtain ⟨i, hi, rfl, hZ, hBw⟩ := hrel
    by_cases hlt : i < rules.length
    ·have x2 : (i : Int) < (rules.length : Int) := by omega
     have x3 : (0 : Int) ≤ (i : Int) := by omega
     have hli : rules[i]? = some rules[i] := by simp
     obtain ⟨b, o, rfl, hb, hrow⟩ := HR.out.resolve_left (by intro e; rw [e] at hlt; simp at hlt); obtain ⟨A', c', hcs, hrg⟩ := hrow i _ hli; have hrg2 := rangeAt_below hrg hBw.out hb; have hcs2 := hcs.below hBw.out (Nat.le_refl _); have HN : Hid (ruleF rules[i] ≠ 0 → firstNZ ruleF rules = ruleF rules[i]) := fun h1 => firstNZ_at ruleF rules i rules[i] hli h1 hZ.out
     have HG2 : Hid (∀ c ∈ rules[i].conds, c.glob.size ≤ 100000) := fun c hc => HG.out rules[i] (by simp) c hc; have hcl2 := HCL.out rules[i] (by simp)
     have HZ2 : Hid (ruleF rules[i] = 0 → ∀ (j : Nat) y, j < i + 1 → rules[j]? = some y → ruleF y = 0) := fun h0 j y hj hy => by
      by_cases e : j = i
      ·subst e; rw [hli] at hy; obtain rfl := Option.some.inj hy; exact h0
      ·exact hZ.out j y (by omega) hy
     clear hrg hcs hrow hli hZ; generalize rules[i] = R at *
     obtain ⟨nr, conds, rk, re⟩ := R; simp only at hrg2 hcs2 hcl2 HG2; have f0 : wr.cell? ⟨b, o + i * 4, none⟩ = some (.int .i64 nr) := hrg2 0 _ rfl; have f1 := hrg2 1 _ rfl; have f2 := hrg2 2 _ rfl; have f3 := hrg2 3 _ rfl; clear hrg2; have HCS := Lib.hid hcs2; clear hcs2; have HC4 := Lib.hid (cell4 wr (.int .i64 nr) (.slice A' conds.length c') (.int .i64 rk) (.int .i64 re) 41)
     have HAB4 := Lib.hid (above wr (.cells #[.int .i64 nr, .slice A' conds.length c', .int .i64 rk, .int .i64 re] 41)); have hsz1 : wr.heap.size < (wr.alloc (.cells #[.int .i64 nr, .slice A' conds.length c', .int .i64 rk, .int .i64 re] 41)).heap.size := by simp
     go_upto_region 9 with fail; generalize wr.alloc (.cells #[.int .i64 nr, .slice A' conds.length c', .int .i64 rk, .int .i64 re] 41) = W1 at *
     obtain ⟨g0, g1, g2, g3⟩ := HC4.out W1 (Below.refl _ _); have HB4 := Lib.hid (HAB4.out W1 (Below.refl _ _)); have HBW1 : Hid (Below w.heap.size w W1) := hBw.out.trans (HB4.out.mono hBw.out.size); clear f0 f1 f2 f3 HAB4
     by_cases n0 : nr < 0
     ·have hrf : ruleF ⟨nr, conds, rk, re⟩ = 1 := by unfold ruleF; rw [if_pos (Or.inl n0)]
      have HFE : Hid (errV (polF ⟨rules, pk, pe⟩) = .iface 105 (.int .i64 1)) := by show _ = _; rw [HF0.out, HN.out (by rw [hrf]; omega), hrf]; rfl
      clear hrf
      go_wp2_with fail; go_ret; exact ⟨by rw [HFE.out]; rfl, HBW1.out⟩
     ·by_cases n8 : 9 ≤ nr
      ·have hrf : ruleF ⟨nr, conds, rk, re⟩ = 1 := by unfold ruleF; rw [if_pos (Or.inr (by simp only; omega))]
       have HFE : Hid (errV (polF ⟨rules, pk, pe⟩) = .iface 105 (.int .i64 1)) := by show _ = _; rw [HF0.out, HN.out (by rw [hrf]; omega), hrf]; rfl
       clear hrf
       go_wp2_with fail; go_ret; exact ⟨by rw [HFE.out]; rfl, HBW1.out⟩
      ·have hnr : ¬ (nr < 0 ∨ 8 < nr) := by omega
       by_cases c4 : 4 < conds.length
       ·have y1 : (4 : Int) < (conds.length : Int) := by omega
        have hrf : ruleF ⟨nr, conds, rk, re⟩ = 2 := by unfold ruleF; rw [if_neg hnr, if_pos c4]
        have HFE : Hid (errV (polF ⟨rules, pk, pe⟩) = .iface 105 (.int .i64 2)) := by show _ = _; rw [HF0.out, HN.out (by rw [hrf]; omega), hrf]; rfl
        clear hrf; clear c4
        go_wp2_with fail; go_ret; exact ⟨by rw [HFE.out]; rfl, HBW1.out⟩
       ·have y1 : ¬ (4 : Int) < (conds.length : Int) := by omega
        obtain ⟨n, rfl⟩ : ∃ n : Nat, nr = n := ⟨nr.toNat, by omega⟩
        have hn9 : n < 9 := by omega
        have hrf : ruleF ⟨(n : Int), conds, rk, re⟩ = if firstNZ (condF n) conds ≠ 0 then firstNZ (condF n) conds else actF rk re := by unfold ruleF; rw [if_neg hnr, if_neg c4]; simp
        have HRF := Lib.hid hrf; clear hrf hnr c4 n0 n8
        go_wp2_with fail
        go_loopw [43] (fun kv wr => ∃ k : Nat, k ≤ conds.length ∧ kv = .int .i64 k ∧ Hid (∀ (j : Nat) y, j < k → conds[j]? = some y → condF n y = 0) ∧ Hid (Below W1.heap.size W1 wr)) (fun kv _ => conds.length - (intOf kv).toNat)
        case atStart => exact ⟨0, Nat.zero_le _, rfl, fun j y hj _ => absurd hj (Nat.not_lt_zero j), Below.refl _ _⟩
        case round =>
         obtain ⟨k, hk, rfl, hZk, hB2⟩ := hrel; have HBW2 : Hid (Below w.heap.size w wr) := HBW1.out.trans (hB2.out.mono HBW1.out.size)
         by_cases hkl : k < conds.length
         ·have y2 : (k : Int) < (conds.length : Int) := by omega
          have y3 : (0 : Int) ≤ (k : Int) := by omega
          have hlk : conds[k]? = some conds[k] := by simp
          have hcs3 := (HCS.out.below (HB4.out) (by have := hBw.out.size; omega)).below hB2.out (by have := HBW1.out.size; omega); obtain ⟨hcok, A2, c2, hA2, hrw⟩ := hcs3; obtain ⟨rfl, rfl⟩ : A' = A2 ∧ c' = c2 := by simpa using hA2
          obtain ⟨b2, o2, rfl, hb2, hrow2⟩ := hrw.resolve_left (by intro e; rw [e] at hkl; simp at hkl); have hr9 := hrow2 k _ hlk; have HNk : Hid (condF n conds[k] ≠ 0 → firstNZ (condF n) conds = condF n conds[k]) := fun h1 => firstNZ_at (condF n) conds k conds[k] hlk h1 hZk.out
          have HZ3 : Hid (condF n conds[k] = 0 → ∀ (j : Nat) y, j < k + 1 → conds[j]? = some y → condF n y = 0) := fun h0 j y hj hy => by
           by_cases e : j = k
           ·subst e; rw [hlk] at hy; obtain rfl := Option.some.inj hy; exact h0
           ·exact hZk.out j y (by omega) hy
          have HCC : Hid (∀ W : World, Calls Tryz.prog 127 #[.int .i64 n, conds[k].val] W fun e w' => e = .returned (errV (condF n conds[k])) ∧ Below W.heap.size W w') := fun W => checkCond_any n conds[k] W hn9 (hcok _ (by simp)) (HG2.out _ (by simp)); clear hcok hA2 hrw hrow2 hlk hZk; generalize conds[k] = CC at *
          obtain ⟨arg, op, v, m, glob, ⟨ip, bits, lo, hi⟩⟩ := CC; have e0 : wr.cell? ⟨b2, o2 + k * 9, none⟩ = some (.int .i64 arg) := hr9 0 _ rfl; have e1 := hr9 1 _ rfl; have e2 := hr9 2 _ rfl; have e3 := hr9 3 _ rfl; have e4 := hr9 4 _ rfl; have e5 := hr9 5 _ rfl; have e6 := hr9 6 _ rfl; have e7 := hr9 7 _ rfl; have e8 := hr9 8 _ rfl; simp only at e1 e2 e3 e4 e5 e6 e7 e8
          have HC9 := Lib.hid (cell9 wr (.int .i64 arg) (.int .i64 op) (.int .u64 v) (.int .u64 m) (.string glob) (.int .u32 ip) (.int .i64 bits) (.int .i64 lo) (.int .i64 hi) 47); have HAB9 := Lib.hid (above wr (.cells #[.int .i64 arg, .int .i64 op, .int .u64 v, .int .u64 m, .string glob, .int .u32 ip, .int .i64 bits, .int .i64 lo, .int .i64 hi] 47)); unfold CondD.val at HCC; simp only at HCC; clear hr9
          go_upto_region 16 with fail; generalize wr.alloc (.cells #[.int .i64 arg, .int .i64 op, .int .u64 v, .int .u64 m, .string glob, .int .u32 ip, .int .i64 bits, .int .i64 lo, .int .i64 hi] 47) = W3 at *
          obtain ⟨j0, j1, j2, j3, j4, j5, j6, j7, j8⟩ := HC9.out W3 (Below.refl _ _); have HB3 := Lib.hid (HAB9.out W3 (Below.refl _ _)); have HB13 : Hid (Below W1.heap.size W1 W3) := hB2.out.trans (HB3.out.mono hB2.out.size); obtain ⟨r0, r1, r2, r3⟩ := HC4.out W3 HB13.out; have HBW3 : Hid (Below w.heap.size w W3) := HBW1.out.trans (HB13.out.mono HBW1.out.size); clear e0 e1 e2 e3 e4 e5 e6 e7 e8 HAB9 HC9
          by_cases hz : condF n ⟨arg, op, v, m, glob, ⟨ip, bits, lo, hi⟩⟩ = 0
          ·have HZ4 := Lib.hid (HZ3.out hz); rw [hz] at HCC; clear hz HNk HZ3; have HCC2 : Hid (∀ W : World, Calls Tryz.prog 127 #[.int .i64 n, .agg #[.int .i64 arg, .int .i64 op, .int .u64 v, .int .u64 m, .string glob, .int .u32 ip, .int .i64 bits, .int .i64 lo, .int .i64 hi]] W fun e w' => e = .returned .nilIface ∧ Below W.heap.size W w') := HCC.out; clear HCC
           go_wp2_with (go_at_call 127; refine cargs (by simp [Act.eval]) ((HCC2.out _).mono ?_); rintro e w4 ⟨rfl, hb4⟩; have HB4' := Lib.hid hb4; clear hb4)
           go_roundw
           case rel => exact ⟨k + 1, by omega, by go_num, HZ4, HB13.out.trans (HB4'.out.mono HB13.out.size)⟩
           case measure => simp [intOf]; omega
          ·have hrf : ruleF ⟨(n : Int), conds, rk, re⟩ = condF n ⟨arg, op, v, m, glob, ⟨ip, bits, lo, hi⟩⟩ := by rw [HRF.out, HNk.out hz, if_pos hz]
           have HFE : Hid (errV (polF ⟨rules, pk, pe⟩) = .iface 105 (.int .i64 (condF n ⟨arg, op, v, m, glob, ⟨ip, bits, lo, hi⟩⟩))) := by show _ = _; rw [HF0.out, HN.out (by rw [hrf]; exact hz), hrf, errV_pos hz]
           rw [errV_pos hz] at HCC; clear hz HNk HZ3 hrf; generalize condF n ⟨arg, op, v, m, glob, ⟨ip, bits, lo, hi⟩⟩ = cf at *
           have HCC2 : Hid (∀ W : World, Calls Tryz.prog 127 #[.int .i64 n, .agg #[.int .i64 arg, .int .i64 op, .int .u64 v, .int .u64 m, .string glob, .int .u32 ip, .int .i64 bits, .int .i64 lo, .int .i64 hi]] W fun e w' => e = .returned (.iface 105 (.int .i64 cf)) ∧ Below W.heap.size W w') := HCC.out; clear HCC
           go_wp2_with (go_at_call 127; refine cargs (by simp [Act.eval]) ((HCC2.out _).mono ?_); rintro e w4 ⟨rfl, hb4⟩; have HB4' := Lib.hid hb4; clear hb4)
           go_ret; exact ⟨by rw [HFE.out]; rfl, HBW3.out.trans (HB4'.out.mono HBW3.out.size)⟩
         ·obtain rfl : k = conds.length := by omega
          have hall : firstNZ (condF n) conds = 0 := firstNZ_all _ _ (fun j y hy => hZk.out j y (by
           rcases Nat.lt_or_ge j conds.length with h | h
           ·exact h
           ·rw [List.getElem?_eq_none h] at hy; cases hy) hy)
          have hrf : ruleF ⟨(n : Int), conds, rk, re⟩ = actF rk re := by rw [HRF.out, hall]; simp
          obtain ⟨r0, r1, r2, r3⟩ := HC4.out wr hB2.out; clear hall hZk
          by_cases hz : actF rk re = 0
          ·have HZ4 := Lib.hid (HZ2.out (by rw [hrf]; exact hz))
           have HA1 : Hid (∀ w : World, Calls Tryz.prog 126 #[.agg #[.int .i64 rk, .int .i64 re]] w fun e' w' => e' = .returned .nilIface ∧ Below w.heap.size w w') := fun w => by
            have := HAC.out rk re w; rw [hz] at this; exact this
           clear hz hrf
           go_wp2_with (go_at_call 126; refine cargs (by simp [Act.eval]) ((HA1.out _).mono ?_); rintro e w4 ⟨rfl, hb4⟩; have HB4' := Lib.hid hb4; clear hb4)
           go_roundw
           case rel => exact ⟨i + 1, by omega, by go_num, HZ4, HBW2.out.trans (HB4'.out.mono HBW2.out.size)⟩
           case measure => simp [intOf]; omega
          ·have HA1 : Hid (∀ w : World, Calls Tryz.prog 126 #[.agg #[.int .i64 rk, .int .i64 re]] w fun e' w' => e' = .returned (.iface 105 (.int .i64 (actF rk re))) ∧ Below w.heap.size w w') := fun w => by
            have := HAC.out rk re w; rw [errV_pos hz] at this; exact this
           have HFE : Hid (errV (polF ⟨rules, pk, pe⟩) = .iface 105 (.int .i64 (actF rk re))) := by show _ = _; rw [HF0.out, HN.out (by rw [hrf]; exact hz), hrf, errV_pos hz]
           clear hrf hz; generalize actF rk re = af at *
           go_wp2_with (go_at_call 126; refine cargs (by simp [Act.eval]) ((HA1.out _).mono ?_); rintro e w4 ⟨rfl, hb4⟩; have HB4' := Lib.hid hb4; clear hb4)
           go_ret; exact ⟨by rw [HFE.out]; rfl, HBW2.out.trans (HB4'.out.mono HBW2.out.size)⟩
    ·obtain rfl : i = rules.length := by omega
     have HF : Hid (errV (polF ⟨rules, pk, pe⟩) = .nilIface) := by
      show _ = _
      rw [HF0.out, firstNZ_all ruleF rules (fun j y hy => hZ.out j y (by
       rcases Nat.lt_or_ge j rules.length with h | h
       ·exact h
       ·rw [List.getElem?_eq_none h] at hy; cases hy) hy)]; rfl
     go_wp2_with fail; go_ret; exact ⟨by rw [HF.out]; rfl, hBw.out⟩
  ·have HF : Hid (polF ⟨rules, pk, pe⟩ = actF pk pe) := by show _ = _; unfold polF; rw [if_neg h12, if_pos ha]
   have HA0 : Hid (∀ w : World, Calls Tryz.prog 126 #[.agg #[.int .i64 pk, .int .i64 pe]] w fun e' w' => e' = .returned (.iface 105 (.int .i64 (actF pk pe))) ∧ Below w.heap.size w w') := fun w => by
    have := HAC.out pk pe w; rw [errV_pos ha] at this; exact this
   have HFE : Hid (errV (polF ⟨rules, pk, pe⟩) = .iface 105 (.int .i64 (actF pk pe))) := by show _ = _; rw [HF.out, errV_pos ha]
   have HAB := Lib.hid (above w (.cells #[.slice A rules.length cp, .int .i64 pk, .int .i64 pe] 26)); generalize actF pk pe = af at *
   clear ha h12; go_enter Tryz.func72, Tryz.ntmps72
   go_wp2_with (go_at_call 126; refine cargs (by simp [Act.eval]) ((HA0.out _).mono ?_); rintro e w1 ⟨rfl, hb1⟩; have HB1 := Lib.hid (HAB.out w1 hb1); clear hb1)
   go_ret; exact ⟨by rw [HFE.out]; rfl, HB1.out⟩
end Go.Proofs.YtmgngapkgcofnabGreatDoor
namespace Go.Proofs.YtmgngapkgcofnabGreatDoor
open Go.RowKit Go.PlainAid
structure MakerAt (w : World) (m : Nat) (l : List Ins) (op : List Int) : Prop where
 rep : ∃ lv ov, w.heap[m]? = some (.cells #[lv, ov] 168 (0, 0)) ∧ w.ownsRow (m + 1) 230 4 lv l.length (flat l) ∧ w.ownsRow (m + 1) 3 1 ov op.length (op.map (Value.int .i64))
theorem own_apart {w : World} {B : Nat} {e e' : TypeId} {s s' n n' : Nat} {v v' : Value} {xs xs' : List Value} (h : w.ownsRow B e s v n xs) (h' : w.ownsRow B e' s' v' n' xs') (hne : e ≠ e') : v.ownBlock = none ∨ v.ownBlock ≠ v'.ownBlock := by
 rcases h.2 with ⟨rfl, _⟩ | ⟨g, cap, cur, rfl, _, hg, _⟩
 ·exact Or.inl rfl
 ·right; rcases h'.2 with ⟨rfl, _⟩ | ⟨g', cap', cur', rfl, _, hg', _⟩
  ·simp [Value.ownBlock]
  ·intro hh; simp only [Value.ownBlock, Option.some.injEq] at hh; subst hh; rw [hg] at hg'; simp only [Option.some.injEq, Obj.cells.injEq] at hg'; exact hne hg'.2.1
theorem own_not {w : World} {m : Nat} {e : TypeId} {s n : Nat} {v : Value} {xs : List Value} (h : w.ownsRow (m + 1) e s v n xs) : some m ≠ v.ownBlock := by
 intro hh; have := (h.lt m hh.symm).1; omega
theorem own_form2 {w : World} {B : Nat} {e : TypeId} {sz n : Nat} {v : Value} {xs : List Value} (h : w.ownsRow B e sz v n xs) : ∃ A c, v = .slice A n c := by
 rcases h.2 with ⟨rfl, rfl⟩ | ⟨g, cap, cur, rfl, _⟩
 ·exact ⟨none, 0, rfl⟩
 ·exact ⟨_, _, rfl⟩
theorem set_grown (w : World) (m i : Nat) (u : Value) : w.grownBy (w.setCell ⟨m, i, none⟩ u) (some m) :=
 ⟨rfl, rfl, rfl, by simp [World.setCell], fun k _ hk => heap_setCell_other w ⟨m, i, none⟩ k u (fun e => hk (by simp [e]))⟩
theorem own_set {w : World} {m i : Nat} {e : TypeId} {s n : Nat} {v u : Value} {xs : List Value} (h : w.ownsRow (m + 1) e s v n xs) : (w.setCell ⟨m, i, none⟩ u).ownsRow (m + 1) e s v n xs := by
 refine h.kept (set_grown w m i u) ?_
 cases hv : v.ownBlock with
 | none => exact Or.inl rfl
 | some g => right; rw [← hv]; exact fun hh => own_not h hh.symm
theorem maker_set0 {w : World} {m : Nat} {lv ov lv' : Value} {l : List Ins} {op : List Int} (hm : w.heap[m]? = some (.cells #[lv, ov] 168 (0, 0))) (hL : w.ownsRow (m + 1) 230 4 lv' l.length (flat l)) (hO : w.ownsRow (m + 1) 3 1 ov op.length (op.map (Value.int .i64))) :
  MakerAt (w.setCell ⟨m, 0, none⟩ lv') m l op :=
 ⟨lv', ov, by have := heap_setCell_same w m 0 _ _ lv' hm; simpa using this, own_set hL, own_set hO⟩
theorem maker_set1 {w : World} {m : Nat} {lv ov ov' : Value} {l : List Ins} {op : List Int} (hm : w.heap[m]? = some (.cells #[lv, ov] 168 (0, 0))) (hL : w.ownsRow (m + 1) 230 4 lv l.length (flat l)) (hO : w.ownsRow (m + 1) 3 1 ov' op.length (op.map (Value.int .i64))) :
  MakerAt (w.setCell ⟨m, 1, none⟩ ov') m l op :=
 ⟨lv, ov', by have := heap_setCell_same w m 1 _ _ ov' hm; simpa using this, own_set hL, own_set hO⟩
def Kept (w w' : World) : Prop := ∀ (k : Nat) (cs : Array Value) (t : TypeId) (fr : Nat × Nat), w.heap[k]? = some (Obj.cells cs t fr) → t ≠ 230 → t ≠ 3 → t ≠ 168 → w'.heap[k]? = some (Obj.cells cs t fr)
structure Bel (m : Nat) (w w' : World) : Prop where
 below : Below m w w'
 kept : Kept w w'
theorem Bel.refl (m : Nat) (w : World) : Bel m w w := ⟨Below.refl _ _, fun _ _ _ _ h _ _ _ => h⟩
theorem Bel.trans {m : Nat} {a b c : World} (h : Bel m a b) (k : Bel m b c) : Bel m a c := ⟨h.below.trans k.below, fun i cs t fr hi h1 h2 h3 => k.kept i cs t fr (h.kept i cs t fr hi h1 h2 h3) h1 h2 h3⟩
theorem Bel.of_below {m : Nat} {w w' : World} (h : Below w.heap.size w w') (hm : m ≤ w.heap.size) : Bel m w w' :=
 ⟨h.mono hm, fun k cs t fr hk _ _ _ => by
  have : k < w.heap.size := by
   rcases Nat.lt_or_ge k w.heap.size with h1 | h1
   ·exact h1
   ·simp [Array.getElem?_eq_none h1] at hk
  exact (h.block k this).trans hk⟩
theorem Bel.set {m : Nat} {w w1 : World} (h : Bel m w w1) {cs : Array Value} {fr : Nat × Nat} (hm : w1.heap[m]? = some (.cells cs 168 fr)) (i : Nat) (u : Value) : Bel m w (w1.setCell ⟨m, i, none⟩ u) :=
 ⟨h.below.setCell (Nat.le_refl _) _, fun k cs' t fr' hk h1 h2 h3 => by
  have hk2 := h.kept k cs' t fr' hk h1 h2 h3
  have hne : k ≠ m := by
   rintro rfl; rw [hm] at hk2; simp only [Option.some.injEq, Obj.cells.injEq] at hk2; exact h3 hk2.2.1.symm
  rw [heap_setCell_other w1 ⟨m, i, none⟩ k u hne]; exact hk2⟩
theorem Bel.grown {m : Nat} {w w' : World} {e : TypeId} {s n : Nat} {v : Value} {xs : List Value} (h : w.ownsRow (m + 1) e s v n xs) (he : e = 230 ∨ e = 3) (hm : m < w.heap.size) (o : Obj) (hg : (w.alloc o).grownBy w' v.ownBlock) : Bel m w w' := by
 refine ⟨((Below.refl _ _).alloc (Nat.le_of_lt hm) o).trans ⟨hg.os, hg.tape, hg.output, hg.size, fun k hk => hg.block k (by simp; omega) (fun e => ?_)⟩, fun k cs t fr hk h1 h2 h3 => ?_⟩
 ·have := (h.lt k e.symm).1; omega
 ·have hks : k < w.heap.size := by
   rcases Nat.lt_or_ge k w.heap.size with h1 | h1
   ·exact h1
   ·simp [Array.getElem?_eq_none h1] at hk
  refine (hg.block k (by simp; omega) (fun e' => ?_)).trans ((heap_alloc_old w o hks).trans hk); rcases h.2 with ⟨rfl, _⟩ | ⟨g, cap, cur, rfl, _, hgg, _⟩
  ·simp [Value.ownBlock] at e'
  ·simp only [Value.ownBlock, Option.some.injEq] at e'; subst e'; rw [hgg] at hk; simp only [Option.some.injEq, Obj.cells.injEq] at hk; rcases he with rfl | rfl
   ·exact h1 hk.2.1.symm
   ·exact h2 hk.2.1.symm
set_option linter.unusedSimpArgs false in
set_option maxRecDepth 100000 in
set_option maxHeartbeats 2000000 in
theorem add_any (m : Nat) (l : List Ins) (op : List Int) (o jt jf k : Int) (w : World) (h : MakerAt w m l op) (hl : l.length ≤ 100000) :
  Calls Tryz.prog 75 #[.pointer (some ⟨m, 0, none⟩), .int .i64 o, .int .i64 jt, .int .i64 jf, .int .u32 k] w fun e w' => e = .returned (.tuple #[]) ∧ MakerAt w' m (l ++ [Ins.mk o jt jf k]) op ∧ Bel m w w' := by
 obtain ⟨lv, ov, hm, hL, hO⟩ := h.rep; obtain ⟨i0, hi, hz0, hz1, hz2⟩ := info_parts insInfo
 have hms : m < w.heap.size := by
  rcases Nat.lt_or_ge m w.heap.size with h1 | h1
  ·exact h1
  ·simp [Array.getElem?_eq_none h1] at hm
 have c0 : w.cell? ⟨m, 0, none⟩ = some lv := by rw [cell_of_row w _ _ _ _ _ hm]; rfl
 have HL := Lib.hid hL; have HO := Lib.hid hO; have HM := Lib.hid hm; have hsz : (flat l).length = l.length * 4 := hL.1; have HMB : Hid (∀ o w1, (w.alloc o).grownBy w1 lv.ownBlock → w1.heap[m]? = some (.cells #[lv, ov] 168 (0, 0))) := fun o w1 hg => (hg.block m (by simp; omega) (own_not hL)).trans ((heap_alloc_old w o hms).trans hm)
 have HOK : Hid (∀ o w1, (w.alloc o).grownBy w1 lv.ownBlock → w1.ownsRow (m + 1) 3 1 ov op.length (op.map (Value.int .i64))) := fun o w1 hg => (hO.alloc o).kept hg (own_apart hO hL (by decide)); have HBL : Hid (∀ o w1, (w.alloc o).grownBy w1 lv.ownBlock → Bel m w w1) := fun o w1 hg => Bel.grown hL (Or.inl rfl) hms o hg; clear hL hO hm h; go_enter Tryz.func75, Tryz.ntmps75
 go_wp2_with (at_builtin; refine wpList_append_own _ rfl _ _ _ rfl (m + 1) 230 i0 _ 4 32 Tryz.underlying89 hi hz0 hz1 hz2 rfl (by omega) lv l.length (flat l) rfl (HL.out.alloc _) ⟨w.heap.size, 0, none⟩ 1 1 [.int .i64 o, .int .i64 jt, .int .i64 jf, .int .u32 k] rfl rfl (ins_cells _ _ _ _ _ _ _ (heap_alloc_new _ _) rfl) (by simp [Value.oneCell']) (by unfold maxLen; omega) (by omega) (by simp; omega) ?_; intro v' w1 hown3 hgrow _; obtain ⟨A', c', hf⟩ := own_form2 hown3; subst hf; have hmb := HMB.out _ _ hgrow; have c1 : w1.cell? ⟨m, 0, none⟩ = some lv := (cell_of_row w1 _ _ _ _ _ hmb).trans rfl; have f1 := frozen_of_row w1 m 0 _ _ hmb; have HB := Lib.hid (HBL.out _ _ hgrow); have HO2 := Lib.hid (HOK.out _ _ hgrow); have HMM := Lib.hid hmb; have H3 := Lib.hid hown3; clear hown3 hgrow hmb)
 go_returns
 have H4 : w1.ownsRow (m + 1) 230 4 (.slice A' (l.length + 1) c') (l ++ [Ins.mk o jt jf k]).length (flat (l ++ [Ins.mk o jt jf k])) := by
  rw [flat_append, List.length_append]; exact H3.out
 exact ⟨rfl, maker_set0 HMM.out H4 HO2.out, HB.out.set HMM.out _ _⟩
end Go.Proofs.YtmgngapkgcofnabGreatDoor
namespace Go.Proofs.YtmgngapkgcofnabGreatDoor
open Go.RowKit Go.PlainAid
theorem MakerAt.lt {w : World} {m : Nat} {l : List Ins} {op : List Int} (h : MakerAt w m l op) : m < w.heap.size := by
 obtain ⟨lv, ov, hm, _⟩ := h.rep; rcases Nat.lt_or_ge m w.heap.size with h1 | h1
 ·exact h1
 ·simp [Array.getElem?_eq_none h1] at hm
theorem MakerAt.via {w w' : World} {m H : Nat} {l : List Ins} {op : List Int} (h : MakerAt w m l op) (hb : Below H w w') (hH : w.heap.size ≤ H) : MakerAt w' m l op := by
 have hms := h.lt; obtain ⟨lv, ov, hm, hL, hO⟩ := h.rep; have hg : w.grownBy w' none := ⟨hb.os, hb.tape, hb.output, hb.size, fun k hk _ => hb.block k (by omega)⟩
 exact ⟨lv, ov, (hb.block m (by omega)).trans hm, hL.kept hg (by cases hv : lv.ownBlock <;> simp), hO.kept hg (by cases hv : ov.ownBlock <;> simp)⟩
set_option linter.unusedSimpArgs false in
set_option maxHeartbeats 2000000 in
theorem half_any (m : Nat) (l : List Ins) (op : List Int) (a hi : Nat) (w : World) (h : MakerAt w m l op) (hl : l.length ≤ 100000) (ha : a < 4) (hh : hi < 2) :
  Calls Tryz.prog 133 #[.pointer (some ⟨m, 0, none⟩), .int .i64 a, .int .i64 hi] w fun e w' => e = .returned (.tuple #[]) ∧ MakerAt w' m (l ++ [Ins.mk 1 0 0 ((8 + 8 * a + 4 * hi : Nat) : Int)]) op ∧ Bel m w w' := by
 have HA : Hid (Calls Tryz.prog 75 #[.pointer (some ⟨m, 0, none⟩), .int .i64 1, .int .i64 0, .int .i64 0, .int .u32 ((8 + 8 * a + 4 * hi : Nat) : Int)] w fun e w' => e = .returned (.tuple #[]) ∧ MakerAt w' m (l ++ [Ins.mk 1 0 0 ((8 + 8 * a + 4 * hi : Nat) : Int)]) op ∧ Bel m w w') := add_any m l op 1 0 0 _ w h hl; have x1 : (a : Int) < 4 := by omega
 have x2 : (hi : Int) < 2 := by omega
 have x3 : (0 : Int) ≤ (a : Int) := by omega
 have x4 : (0 : Int) ≤ (hi : Int) := by omega
 clear h; go_enter Tryz.func133, Tryz.ntmps133
 go_wp2_with (go_at_call 75; refine cargs (by simp [Act.eval]; try omega) (HA.out.mono ?_); rintro e w1 ⟨rfl, hM, hb⟩; have HM := Lib.hid hM; clear hM)
 go_returns
 exact ⟨rfl, HM.out, hb⟩
def retK (k e : Int) : Int := if k = 1 then 2147418112 else if k = 2 then 327680 + e else 0
set_option linter.unusedSimpArgs false in
set_option maxRecDepth 100000 in
set_option maxHeartbeats 2000000 in
theorem ret_any (m : Nat) (l : List Ins) (op : List Int) (k e : Int) (w : World) (h : MakerAt w m l op) (hl : l.length ≤ 100000) (he : k = 2 → 0 ≤ e ∧ e < 65536) :
  Calls Tryz.prog 76 #[.pointer (some ⟨m, 0, none⟩), .agg #[.int .i64 k, .int .i64 e]] w fun e' w' => e' = .returned (.tuple #[]) ∧ MakerAt w' m (l ++ [Ins.mk 8 0 0 (retK k e)]) op ∧ Bel m w w' := by
 have hbx : ∀ o : Obj, Below w.heap.size w (w.alloc o) := fun o => (Below.refl _ _).alloc (Nat.le_refl _) _; have hms := h.lt
 have HA : Hid (∀ o : Obj, Calls Tryz.prog 75 #[.pointer (some ⟨m, 0, none⟩), .int .i64 8, .int .i64 0, .int .i64 0, .int .u32 (retK k e)] (w.alloc o) fun e' w' => e' = .returned (.tuple #[]) ∧ MakerAt w' m (l ++ [Ins.mk 8 0 0 (retK k e)]) op ∧ Bel m w w') := fun o =>
  (add_any m l op 8 0 0 _ (w.alloc o) (h.via (hbx o) (Nat.le_refl _)) hl).mono fun e' w' ⟨h1, h2, h3⟩ => ⟨h1, h2, (Bel.of_below (hbx o) (Nat.le_of_lt hms)).trans h3⟩
 clear h hbx
 by_cases k1 : k = 1
 ·subst k1; have hk : retK 1 e = 2147418112 := rfl; rw [hk] at HA ⊢; clear hk he; go_enter Tryz.func76, Tryz.ntmps76
  go_wp2_with (go_at_call 75; refine cargs (by simp [Act.eval]) ((HA.out _).mono ?_); rintro e w1 ⟨rfl, hM, hb⟩; have HM := Lib.hid hM; clear hM)
  go_returns
  exact ⟨rfl, HM.out, hb⟩
 ·by_cases k2 : k = 2
  ·subst k2; obtain ⟨e0, e1⟩ := he rfl; obtain ⟨n, rfl⟩ : ∃ n : Nat, e = n := ⟨e.toNat, by omega⟩
   have hk : retK 2 n = ((327680 + n : Nat) : Int) := by unfold retK; rw [if_neg (by omega), if_pos rfl]; omega
   rw [hk] at HA ⊢
   have hor : bits .or .u32 327680 (n : Int) = ((327680 + n : Nat) : Int) := by
    rw [show (327680 : Int) = ((327680 : Nat) : Int) from rfl, u32_or_nat _ _ (by omega) (by omega), nat_join 16 _ _ (by omega) (by omega)]
   have x1 : (0 : Int) ≤ (n : Int) := by omega
   have x2 : (n : Int) < 65536 := by omega
   generalize (327680 + n : Nat) = K at *
   clear hk he; go_enter Tryz.func76, Tryz.ntmps76
   go_wp2_with (go_at_call 75; refine cargs (by simp [Act.eval]) ((HA.out _).mono ?_); rintro e w1 ⟨rfl, hM, hb⟩; have HM := Lib.hid hM; clear hM)
   go_returns
   exact ⟨rfl, HM.out, hb⟩
  ·have hk : retK k e = 0 := by unfold retK; rw [if_neg k1, if_neg k2]
   rw [hk] at HA ⊢; clear hk he; go_enter Tryz.func76, Tryz.ntmps76
   go_wp2_with (go_at_call 75; refine cargs (by simp [Act.eval]) ((HA.out _).mono ?_); rintro e w1 ⟨rfl, hM, hb⟩; have HM := Lib.hid hM; clear hM)
   go_returns
   exact ⟨rfl, HM.out, hb⟩
theorem intInfo : (Tryz.prog.info? 3).map (fun i => (i.zero, i.size, i.bytes)) = some (some (.int .i64 0), 1, 8) := by kernel_rfl
theorem int_cell1 (W : World) (b : Nat) (t : TypeId) (v : Value) (hc : W.heap[b]? = some (.cells #[v] t (0, 0))) :
  ∀ (j : Nat) (u : Value), [v][j]? = some u → W.cell? ((⟨b, 0, none⟩ : Addr).add j) = some u := by
 intro j u hu
 match j, hu with
 | 0, hu => simp at hu; subst hu; simp [Addr.add, World.cell?, hc]
set_option linter.unusedSimpArgs false in
set_option maxRecDepth 100000 in
set_option maxHeartbeats 4000000 in
theorem away_any (m : Nat) (l : List Ins) (op : List Int) (w : World) (h : MakerAt w m l op) (hl : l.length ≤ 100000) (ho : op.length ≤ 100000) :
  Calls Tryz.prog 132 #[.pointer (some ⟨m, 0, none⟩)] w fun e w' => e = .returned (.tuple #[]) ∧ MakerAt w' m (l ++ [Ins.mk 3 0 0 0]) (op ++ [(l.length : Int)]) ∧ Bel m w w' := by
 have hms := h.lt; obtain ⟨lv, ov, hm, hL, hO⟩ := h.rep; obtain ⟨AL, cL, rfl⟩ := own_form2 hL; obtain ⟨AO, cO, rfl⟩ := own_form2 hO; obtain ⟨i0, hi, hz0, hz1, hz2⟩ := info_parts intInfo
 have c0 : w.cell? ⟨m, 0, none⟩ = some (.slice AL l.length cL) := by
  rw [cell_of_row w _ _ _ _ _ hm]; rfl
 have c1 : w.cell? ⟨m, 1, none⟩ = some (.slice AO op.length cO) := by
  rw [cell_of_row w _ _ _ _ _ hm]; rfl
 have hsz : (op.map (Value.int .i64)).length = op.length := by simp
 have HLI : Hid (w.drew.ownsRow (m + 1) 230 4 (.slice AL l.length cL) l.length (flat l)) := hL.drew; have HOI : Hid (w.drew.ownsRow (m + 1) 3 1 (.slice AO op.length cO) op.length (op.map (Value.int .i64))) := hO.drew
 have HMB : Hid (∀ o w1, (w.drew.alloc o).grownBy w1 (Value.slice AO op.length cO).ownBlock → w1.heap[m]? = some (.cells #[.slice AL l.length cL, .slice AO op.length cO] 168 (0, 0))) := fun o w1 hg => (hg.block m (by simp; exact Nat.lt_succ_of_lt hms) (own_not hO)).trans ((heap_alloc_old w.drew o hms).trans hm)
 have HOK : Hid (∀ o w1, (w.drew.alloc o).grownBy w1 (Value.slice AO op.length cO).ownBlock → w1.ownsRow (m + 1) 230 4 (.slice AL l.length cL) l.length (flat l)) := fun o w1 hg => (hL.drew.alloc o).kept hg (own_apart hL hO (by decide))
 have HBL : Hid (∀ o w1, (w.drew.alloc o).grownBy w1 (Value.slice AO op.length cO).ownBlock → Bel m w w1) := fun o w1 hg => Bel.grown (w := w) hO (Or.inr rfl) hms o ⟨hg.os, hg.tape, hg.output, hg.size, hg.block⟩; clear hL hO hm h; go_enter Tryz.func132, Tryz.ntmps132
 go_wp2_with fail
 go_region_law (refine step_append_lies _ rfl (.tmp 6) (.tmp 12) _ rfl (m + 1) 3 i0 _ 1 8 Tryz.underlying146 hi hz0 hz1 hz2 rfl (by omega) (.slice AO op.length cO) op.length (op.map (Value.int .i64)) (by simp [Act.eval]) (HOI.out.alloc _) ⟨w.heap.size, 0, none⟩ 1 1 [.int .i64 (l.length : Int)] (by simp [Act.eval]) rfl (int_cell1 _ _ _ _ (heap_alloc_new _ _)) (by simp [Value.oneCell']) (by omega) (by unfold maxLen; omega) (by omega) (by simp; omega) _ rfl ?_; intro g cap w1 hown3 hgrow hat hlt2; have hmb := HMB.out _ _ hgrow; have c2 : w1.cell? ⟨m, 1, none⟩ = some (.slice AO op.length cO) := (cell_of_row w1 _ _ _ _ _ hmb).trans rfl; have f2 := frozen_of_row w1 m 1 _ _ hmb; have HB := Lib.hid (HBL.out _ _ hgrow); have HO2 := Lib.hid (HOK.out _ _ hgrow); have HMM := Lib.hid hmb; have H3 := Lib.hid hown3; clear hown3 hgrow hmb)
 all_goals
  have H4 : w1.ownsRow (m + 1) 3 1 (.slice (some ⟨g, 0, none⟩) (op.length + 1) cap) (op ++ [(l.length : Int)]).length ((op ++ [(l.length : Int)]).map (Value.int .i64)) := by
   rw [List.map_append, List.length_append]; exact H3.out
  have HA := Lib.hid (add_any m l (op ++ [(l.length : Int)]) 3 0 0 0 _ (maker_set1 HMM.out HO2.out H4) hl); have HB2 : Hid (Bel m w (w1.setCell ⟨m, 1, none⟩ (.slice (some ⟨g, 0, none⟩) (op.length + 1) cap))) := HB.out.set HMM.out _ _; clear H4 hat hlt2
  go_wp2_with (go_at_call 75; refine cargs (by simp [Act.eval]) (HA.out.mono ?_); rintro e w2 ⟨rfl, hM, hb⟩; have HM := Lib.hid hM; clear hM)
  go_returns
  exact ⟨rfl, HM.out, HB2.out.trans hb⟩
set_option linter.unusedSimpArgs false in
set_option maxHeartbeats 2000000 in
theorem need_any (m : Nat) (l : List Ins) (op : List Int) (o k : Int) (w : World) (h : MakerAt w m l op) (hl : l.length < 100000) (ho : op.length ≤ 100000) :
  Calls Tryz.prog 77 #[.pointer (some ⟨m, 0, none⟩), .int .i64 o, .int .u32 k] w fun e w' => e = .returned (.tuple #[]) ∧ MakerAt w' m (l ++ [Ins.mk o 1 0 k, Ins.mk 3 0 0 0]) (op ++ [((l.length + 1 : Nat) : Int)]) ∧ Bel m w w' := by
 have HA := Lib.hid (add_any m l op o 1 0 k w h (by omega))
 have HB : Hid (∀ w1, MakerAt w1 m (l ++ [Ins.mk o 1 0 k]) op → Calls Tryz.prog 132 #[.pointer (some ⟨m, 0, none⟩)] w1 fun e w' => e = .returned (.tuple #[]) ∧ MakerAt w' m (l ++ [Ins.mk o 1 0 k, Ins.mk 3 0 0 0]) (op ++ [((l.length + 1 : Nat) : Int)]) ∧ Bel m w1 w') := fun w1 h1 => by
  have := away_any m (l ++ [Ins.mk o 1 0 k]) op w1 h1 (by simp; omega) ho; simp only [List.append_assoc, List.length_append, List.length_cons, List.length_nil, List.cons_append, List.nil_append] at this; exact this
 clear h; go_enter Tryz.func77, Tryz.ntmps77
 go_wp2_with (first
  | (go_at_call 75; refine cargs (by simp [Act.eval]) (HA.out.mono ?_); rintro e w1 ⟨rfl, hM, hb⟩; have HM := Lib.hid hM; clear hM)
  | (go_at_call 132; refine cargs (by simp [Act.eval]) ((HB.out _ HM.out).mono ?_); rintro e w2 ⟨rfl, hM2, hb2⟩; have HM2 := Lib.hid hM2; clear hM2))
 go_returns
 exact ⟨rfl, HM2.out, hb.trans hb2⟩
end Go.Proofs.YtmgngapkgcofnabGreatDoor
namespace Go.Proofs.YtmgngapkgcofnabGreatDoor
open Go.RowKit Go.PlainAid
def setKL (l : List Ins) (a : Nat) (k : Int) : List Ins := l.modify a fun x => ⟨x.op, x.jt, x.jf, k⟩
theorem setKL_length (l : List Ins) (a : Nat) (k : Int) : (setKL l a k).length = l.length := by simp [setKL]
theorem flat_setKL (k : Int) : ∀ (l : List Ins) (a : Nat), flat (setKL l a k) = (flat l).set (a * 4 + 3) (.int .u32 k)
 | [], a => by cases a <;> rfl
 | x :: r, 0 => by simp [setKL, flat]
 | x :: r, a + 1 => by
  have ih := flat_setKL k r a; simp only [setKL, List.modify_succ_cons] at ih ⊢; show _ ++ flat (r.modify a _) = _; rw [show flat (r.modify a fun x => ⟨x.op, x.jt, x.jf, k⟩) = flat (setKL r a k) from rfl] at *
  rw [show flat (setKL r a k) = (flat r).set (a * 4 + 3) (.int .u32 k) from ih]; rw [show (a + 1) * 4 + 3 = (a * 4 + 3) + 4 from by omega]; rfl
def hereN (l : List Ins) (op : List Int) : Nat → List Ins
 | 0 => l
 | n + 1 => match op[n]? with
  | some a => setKL (hereN l op n) a.toNat (l.length - a - 1)
  | none => hereN l op n
theorem hereN_length (l : List Ins) (op : List Int) : ∀ n, (hereN l op n).length = l.length := by
 intro n
 induction n with
 | zero => rfl
 | succ n ih =>
  rw [hereN]; split
  ·rw [setKL_length, ih]
  ·exact ih
theorem flat_length (l : List Ins) : (flat l).length = l.length * 4 := by
 induction l with
 | nil => rfl
 | cons x r ih => simp only [flat, List.flatMap_cons, List.length_append, List.length_cons, List.length_nil] at ih ⊢; omega
set_option linter.unusedSimpArgs false in
set_option maxRecDepth 100000 in
set_option maxHeartbeats 4000000 in
theorem here_any (m : Nat) (l : List Ins) (op : List Int) (w : World) (h : MakerAt w m l op) (hl : l.length ≤ 100000) (ho : op.length ≤ 100000) (hop : ∀ a ∈ op, 0 ≤ a ∧ a < l.length) :
  Calls Tryz.prog 79 #[.pointer (some ⟨m, 0, none⟩)] w fun e w' => e = .returned (.tuple #[]) ∧ MakerAt w' m (hereN l op op.length) [] ∧ Bel m w w' := by
 obtain ⟨lv, ov, hm, hL, hO⟩ := h.rep; obtain ⟨AL, cL, rfl⟩ := own_form2 hL; obtain ⟨AO, cO, rfl⟩ := own_form2 hO
 have c1 : w.cell? ⟨m, 1, none⟩ = some (.slice AO op.length cO) := by
  rw [cell_of_row w _ _ _ _ _ hm]; rfl
 have HREL : Hid (w.heap[m]? = some (.cells #[.slice AL l.length cL, .slice AO op.length cO] 168 (0, 0)) ∧ w.ownsRow (m + 1) 230 4 (.slice AL l.length cL) l.length (flat (hereN l op 0)) ∧ w.ownsRow (m + 1) 3 1 (.slice AO op.length cO) op.length (op.map (Value.int .i64)) ∧ Bel m w w) := ⟨hm, hL, hO, Bel.refl _ _⟩
 have HOP := Lib.hid hop; clear hL hO hm h hop; go_enter Tryz.func79, Tryz.ntmps79
 go_wp2_with fail
 go_loopw [9] (fun iv wr => ∃ k : Nat, k ≤ op.length ∧ iv = .int .i64 k ∧ Hid (wr.heap[m]? = some (.cells #[.slice AL l.length cL, .slice AO op.length cO] 168 (0, 0)) ∧ wr.ownsRow (m + 1) 230 4 (.slice AL l.length cL) l.length (flat (hereN l op k)) ∧ wr.ownsRow (m + 1) 3 1 (.slice AO op.length cO) op.length (op.map (Value.int .i64)) ∧ Bel m w wr)) (fun iv _ => op.length - (intOf iv).toNat)
 case atStart => exact ⟨0, Nat.zero_le _, rfl, HREL⟩
 case round =>
  obtain ⟨k, hk, rfl, hR⟩ := hrel; obtain ⟨hm, hL, hO, hB⟩ := hR.out; have c0 : wr.cell? ⟨m, 0, none⟩ = some (.slice AL l.length cL) := by rw [cell_of_row wr _ _ _ _ _ hm]; rfl
  have c1' : wr.cell? ⟨m, 1, none⟩ = some (.slice AO op.length cO) := by rw [cell_of_row wr _ _ _ _ _ hm]; rfl
  by_cases hlt : k < op.length
  ·have x1 : (k : Int) < (op.length : Int) := by omega
   have x2 : (0 : Int) ≤ (k : Int) := by omega
   have hopk : op[k]? = some op[k] := by simp
   obtain ⟨a0, a1⟩ := HOP.out op[k] (by simp); obtain ⟨a, ha⟩ : ∃ a : Nat, op[k] = a := ⟨op[k].toNat, by omega⟩
   rw [ha] at hopk a1; have al : a < l.length := by omega
   obtain ⟨go, rfl⟩ : ∃ go, AO = some ⟨go, 0, none⟩ := by
    rcases hO.2 with ⟨h1, h2⟩ | ⟨g, cap, cur, h1, _⟩
    ·omega
    ·simp only [Value.slice.injEq] at h1; exact ⟨g, h1.1⟩
   obtain ⟨gl, rfl⟩ : ∃ gl, AL = some ⟨gl, 0, none⟩ := by
    rcases hL.2 with ⟨h1, h2⟩ | ⟨g, cap, cur, h1, _⟩
    ·omega
    ·simp only [Value.slice.injEq] at h1; exact ⟨g, h1.1⟩
   have d1 : wr.cell? ⟨go, k, none⟩ = some (.int .i64 (a : Int)) := by
    rw [hO.cellAt k (by omega), List.getElem?_map, hopk]; rfl
   have hfl : (flat (hereN l op k)).length = l.length * 4 := by rw [flat_length, hereN_length]
   obtain ⟨u, hu⟩ : ∃ u, (flat (hereN l op k))[a * 4 + 3]? = some u := ⟨_, List.getElem?_eq_getElem (by omega)⟩
   have d2 : wr.cell? ⟨gl, a * 4 + 3, none⟩ = some u := by rw [hL.cellAt (a * 4 + 3) (by omega)]; exact hu
   have f2 := hL.frozenAt (a * 4 + 3); obtain ⟨hS, hG⟩ := hL.stored (a * 4 + 3) (.int .u32 ((l.length : Int) - (a : Int) - 1)); have hml : m ≠ gl := by have := (hL.lt gl rfl).1; omega
   have hap := own_apart hO hL (by decide)
   have HN : Hid ((wr.setCell ⟨gl, a * 4 + 3, none⟩ (.int .u32 ((l.length : Int) - (a : Int) - 1))).heap[m]? = some (.cells #[.slice (some ⟨gl, 0, none⟩) l.length cL, .slice (some ⟨go, 0, none⟩) op.length cO] 168 (0, 0)) ∧ (wr.setCell ⟨gl, a * 4 + 3, none⟩ (.int .u32 ((l.length : Int) - (a : Int) - 1))).ownsRow (m + 1) 230 4 (.slice (some ⟨gl, 0, none⟩) l.length cL) l.length (flat (hereN l op (k + 1))) ∧ (wr.setCell ⟨gl, a * 4 + 3, none⟩ (.int .u32 ((l.length : Int) - (a : Int) - 1))).ownsRow (m + 1) 3 1 (.slice (some ⟨go, 0, none⟩) op.length cO) op.length (op.map (Value.int .i64)) ∧ Bel m w (wr.setCell ⟨gl, a * 4 + 3, none⟩ (.int .u32 ((l.length : Int) - (a : Int) - 1)))) := by
    refine ⟨?_, ?_, hO.kept hG hap, ?_⟩
    ·rw [heap_setCell_other wr ⟨gl, a * 4 + 3, none⟩ m _ hml]; exact hm
    ·rw [hereN, hopk]; simp only [Int.toNat_natCast]; rw [flat_setKL]; exact hS
    ·refine ⟨hB.below.trans ⟨hG.os, hG.tape, hG.output, hG.size, fun j hj => hG.block j (by have := (hL.lt gl rfl).2; have := (hL.lt gl rfl).1; omega) (fun e => by have := (hL.lt gl rfl).1; simp only [Option.some.injEq] at e; omega)⟩, fun j cs t fr hj h1 h2 h3 => ?_⟩; have hj2 := hB.kept j cs t fr hj h1 h2 h3; rw [heap_setCell_other wr ⟨gl, a * 4 + 3, none⟩ j _ (fun e => ?_)]
     ·exact hj2
     ·subst e; rcases hL.2 with ⟨h4, _⟩ | ⟨g, cap, cur, h4, _, hgg, _⟩
      ·simp at h4
      ·simp only [Value.slice.injEq, Option.some.injEq, Addr.mk.injEq] at h4; obtain ⟨⟨rfl, _⟩, _⟩ := h4; rw [hgg] at hj2; simp only [Option.some.injEq, Obj.cells.injEq] at hj2; exact h1 hj2.2.1.symm
   have y1 : (0 : Int) ≤ (a : Int) := by omega
   have y2 : (a : Int) < (l.length : Int) := by omega
   have y3 : (l.length : Int) ≤ 100000 := by omega
   clear hm hL hO hB hR hS hG hap hfl hu a0 a1 ha hopk
   go_wp2_with fail
   go_region
   go_wp2_with fail; go_roundw
   case rel => exact ⟨k + 1, by omega, by go_num, HN.out.1, HN.out.2.1.drew, HN.out.2.2.1.drew, ⟨⟨HN.out.2.2.2.below.os, HN.out.2.2.2.below.tape, HN.out.2.2.2.below.output, HN.out.2.2.2.below.size, HN.out.2.2.2.below.block⟩, HN.out.2.2.2.kept⟩⟩
   case measure => simp [intOf]; omega
  ·obtain rfl : k = op.length := by omega
   have hO0 : wr.ownsRow (m + 1) 3 1 (.slice AO 0 cO) ([] : List Int).length (([] : List Int).map (Value.int .i64)) := by
    rcases hO.2 with ⟨h1, h2⟩ | ⟨g, cap, cur, h1, h2, h3, h4, h5, h6, h7⟩
    ·simp only [Value.slice.injEq] at h1; obtain ⟨rfl, _, rfl⟩ := h1; exact ⟨by simp, Or.inl ⟨rfl, rfl⟩⟩
    ·simp only [Value.slice.injEq] at h1; obtain ⟨rfl, _, rfl⟩ := h1; exact ⟨by simp, Or.inr ⟨g, cO, cur, rfl, h2, h3, Nat.zero_le _, h5, h6, by simp⟩⟩
   have f1 := frozen_of_row wr m 1 _ _ hm; have hL2 : wr.ownsRow (m + 1) 230 4 (.slice AL l.length cL) (hereN l op op.length).length (flat (hereN l op op.length)) := by rw [hereN_length]; exact hL
   have HE : Hid (MakerAt (wr.setCell ⟨m, 1, none⟩ (.slice AO 0 cO)) m (hereN l op op.length) [] ∧ Bel m w (wr.setCell ⟨m, 1, none⟩ (.slice AO 0 cO))) :=
    ⟨maker_set1 hm hL2 hO0, hB.set hm _ _⟩
   clear hm hL hO hB hR hO0 hL2
   go_wp2_with fail
   go_returns
   exact ⟨rfl, HE.out.1, HE.out.2⟩
end Go.Proofs.YtmgngapkgcofnabGreatDoor
namespace Go.Proofs.YtmgngapkgcofnabGreatDoor
open Go.RowKit Go.PlainAid
section
variable {P : Program}
theorem run_up {t kt et : TypeId} (ht : P.underlying t = some (.map kt et)) (hk : P.underlying kt = some (.int .i64)) (b : Nat) (es : Array MapEntry) (clock : Nat) (x y : Int) (w : World) (hb : w.heap[b]? = some (.map es clock)) (hf : Instr.findNow (.int .i64) (.int .i64 x) es.toList 0 = some none) :
  (Instr.mapUpdate t (.map (some b)) (.int .i64 x) (.int .i64 y)).run P w = .ok () { w with heap := w.heap.setIfInBounds b (.map (es.push { key := .int .i64 x, val := .int .i64 y, born := clock }) (clock + 1)) } := by
 have h1 := Go.MapKept.run_checkKey (P := P) (w := w) hk (k := .int .i64 x) rfl false 9999; have h2 := Go.MapKept.run_findKey (P := P) (w := w) hk hf; unfold Instr.mapUpdate; simp only [Sem.run_bind, run_underlying ht, Result.andThen_ok, Go.MapKept.run_getObj_map hb, h1, h2, Go.MapKept.run_setObj_map _ hb]
theorem run_look {t kt et : TypeId} (ht : P.underlying t = some (.map kt et)) (hk : P.underlying kt = some (.int .i64)) (b : Nat) (es : Array MapEntry) (clock : Nat) (x : Int) (i : Nat) (v : Value) (w : World) (hb : w.heap[b]? = some (.map es clock)) (hf : Instr.findNow (.int .i64) (.int .i64 x) es.toList 0 = some (some (i, v))) :
  (Instr.lookup t (.map (some b)) (.int .i64 x) false).run P w = .ok v w := by
 have h1 := Go.MapKept.run_checkKey (P := P) (w := w) hk (k := .int .i64 x) rfl es.isEmpty 9999; have h2 := Go.MapKept.run_findKey (P := P) (w := w) hk hf; unfold Instr.lookup; simp only [Sem.run_bind, Sem.run_pure, run_underlying ht, Result.andThen_ok, Go.MapKept.run_getObj_map hb, h1, h2]; rfl
def es2 (k1 v1 k2 v2 : Int) : Array MapEntry := #[{ key := .int .i64 k1, val := .int .i64 v1, born := 0 }, { key := .int .i64 k2, val := .int .i64 v2, born := 1 }]
def mapW (w : World) (k1 v1 k2 v2 : Int) : World :=
 { w with heap := ((w.heap.push (.map #[] 0)).setIfInBounds w.heap.size (.map #[{ key := .int .i64 k1, val := .int .i64 v1, born := 0 }] 1)).setIfInBounds w.heap.size (.map (es2 k1 v1 k2 v2) 2) }
theorem mapW_below (w : World) (k1 v1 k2 v2 : Int) : Below w.heap.size w (mapW w k1 v1 k2 v2) :=
 ⟨rfl, rfl, rfl, by simp [mapW], fun k hk => by
  simp only [mapW]; rw [Array.getElem?_setIfInBounds_ne (by omega), Array.getElem?_setIfInBounds_ne (by omega), Array.getElem?_push, if_neg (by omega)]⟩
theorem mapW_at (w : World) (k1 v1 k2 v2 : Int) : (mapW w k1 v1 k2 v2).heap[w.heap.size]? = some (.map (es2 k1 v1 k2 v2) 2) := by
 simp [mapW]
theorem wpList_mapLit {ops : Array Oper} {rest : List Oper} {o1 o2 o3 : Oper} {a : Act} {w : World} {Q : Exit → Act → World → Prop} (g1 : o1.guard = none) (g2 : o2.guard = none) (g3 : o3.guard = none)
  {t kt et : TypeId} (ht : P.underlying t = some (.map kt et)) (hk : P.underlying kt = some (.int .i64)) (d : Tmp) (k1 v1 k2 v2 : Int)
  (h1 : o1.op = .makeMap t none) (e1 : o1.dst = some d) (h2 : o2.op = .insert t (.tmp d) (.const (.int .i64 k1)) (.const (.int .i64 v1))) (e2 : o2.dst = none)
  (h3 : o3.op = .insert t (.tmp d) (.const (.int .i64 k2)) (.const (.int .i64 v2))) (e3 : o3.dst = none)
  (hev : (a.put (some d) (.map (some w.heap.size))).eval (.tmp d) = .map (some w.heap.size)) (hf1 : Instr.findNow (.int .i64) (.int .i64 k2) [{ key := .int .i64 k1, val := .int .i64 v1, born := 0 }] 0 = some none)
  (h : wpList P ops Q rest (a.put (some d) (.map (some w.heap.size))) (mapW w k1 v1 k2 v2)) : wpList P ops Q (o1 :: o2 :: o3 :: rest) a w := by
 refine wpList_plain g1 fun K1 hK1 => ?_; unfold Oper.wp execOp; simp only [h1, Option.map_none, run_makeMap, Sem.run_bind, Sem.run_pure, Result.andThen_ok]; refine hK1 _ _ ?_; rw [e1]; refine wpList_plain g2 fun K2 hK2 => ?_; have hb1 : (w.alloc (.map #[] 0)).heap[w.heap.size]? = some (.map #[] 0) := heap_alloc_new _ _; unfold Oper.wp execOp; simp only [h2]
 rw [show (a.put (some d) (.map (some w.heap.size))).eval (.const (.int .i64 k1)) = .int .i64 k1 from rfl, show (a.put (some d) (.map (some w.heap.size))).eval (.const (.int .i64 v1)) = .int .i64 v1 from rfl, hev]; simp only [Sem.run_bind, run_up ht hk w.heap.size #[] 0 k1 v1 _ hb1 rfl, Sem.run_pure, Result.andThen_ok]; refine hK2 _ _ ?_; rw [e2]
 show wpList P ops Q (o3 :: rest) (a.put (some d) (.map (some w.heap.size))) _; refine wpList_plain g3 fun K3 hK3 => ?_
 have hb2 : (({ (w.alloc (.map #[] 0)) with heap := (w.alloc (.map #[] 0)).heap.setIfInBounds w.heap.size (.map ((#[] : Array MapEntry).push { key := .int .i64 k1, val := .int .i64 v1, born := 0 }) (0 + 1)) } : World)).heap[w.heap.size]? = some (.map #[{ key := .int .i64 k1, val := .int .i64 v1, born := 0 }] 1) := (Go.MapKept.heap_set hb1).1; unfold Oper.wp execOp; simp only [h3]
 rw [show (a.put (some d) (.map (some w.heap.size))).eval (.const (.int .i64 k2)) = .int .i64 k2 from rfl, show (a.put (some d) (.map (some w.heap.size))).eval (.const (.int .i64 v2)) = .int .i64 v2 from rfl, hev]; simp only [Sem.run_bind, run_up ht hk w.heap.size _ 1 k2 v2 _ hb2 hf1, Sem.run_pure, Result.andThen_ok]; refine hK3 _ _ ?_; rw [e3]; exact h
end
end Go.Proofs.YtmgngapkgcofnabGreatDoor
