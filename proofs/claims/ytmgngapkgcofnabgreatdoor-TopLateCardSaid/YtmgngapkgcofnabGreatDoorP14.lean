/- glob.class: the walk. -/
import Derived.Test.YtmgngapkgcofnabGreatDoorP13
import Derived.Test.YtmgngapkgcofnabGreatDoorP06
import Derived.ChangeKeysEq
import Derived.Deep.DeepCutAuto
import Derived.Deep.QuietTactic
import Derived.BigQuiet
import Derived.Deep.RegionHeld3
import Derived.Deep.MidRow
import Derived.Test.YtmgngapkgcofnabGreatDoorP01
namespace Go.Proofs.YtmgngapkgcofnabGreatDoor
open Go.RowKit
theorem span_step (f : Nat → Bool) (lo : Int) (k : Nat) (h : lo ≤ k) : upd (span f lo (k - 1)) k true = span f lo k := by
 funext i
 unfold upd span
 by_cases e : i = k
 ·subst e; simp [h]
 ·rw [if_neg e]; have : decide ((i : Int) ≤ (k : Int) - 1) = decide ((i : Int) ≤ k) := by rw [decide_eq_decide]; omega
  rw [this]
theorem span_none (f : Nat → Bool) (lo : Int) : span f lo (lo - 1) = f := by
 funext i
 unfold span
 have : (decide (lo ≤ (i : Int)) && decide ((i : Int) ≤ lo - 1)) = false := by
  rw [Bool.and_eq_false_iff, decide_eq_false_iff_not, decide_eq_false_iff_not]; omega
 rw [this, Bool.or_false]
def closeK (f : Nat → Bool) (not : Bool) (k : Nat) : Nat → Bool := fun i => if i < k then closeF f not i else f i
theorem closeK_zero (f : Nat → Bool) (not : Bool) : closeK f not 0 = f := by funext i; simp [closeK]
theorem closeK_step (f : Nat → Bool) (not : Bool) (k : Nat) : upd (closeK f not k) k (closeF f not k) = closeK f not (k + 1) := by
 funext i
 unfold upd closeK
 by_cases e : i = k
 ·subst e; simp
 ·rw [if_neg e]
  by_cases h : i < k
  ·rw [if_pos h, if_pos (by omega)]
  ·rw [if_neg h, if_neg (by omega)]
theorem closeK_at (f : Nat → Bool) (not : Bool) (k : Nat) : closeK f not k k = f k := by simp [closeK]
theorem row_same {p q : Part} (h : ∀ i, i < 256 → p.has i = q.has i) (hm : p.many = q.many) : p.row = q.row := by
 unfold Part.row; rw [hm]
 congr 1
 apply Array.ext (by simp); intro i h1 h2; have : i < 256 := by simpa using h1
 simp [h i this]
theorem closeK_full (f : Nat → Bool) (not : Bool) : (⟨closeK f not 256, false⟩ : Part).row = (⟨closeF f not, false⟩ : Part).row :=
 row_same (fun i hi => by simp [closeK, hi]) rfl
theorem bytesOf_two (s : ByteArray) (h : 2 ≤ s.size) : bytesOf s = (s[0].toNat : Int) :: (s[1].toNat : Int) :: bytesOf (s.extract 2 s.size) := by
 apply List.ext_getElem
 ·simp [bytesOf]; omega
 ·intro i h1 h2; rcases i with _ | _ | i
  ·simp [bytesOf]; rfl
  ·simp [bytesOf]; rfl
  ·simp [bytesOf, Nat.add_comm 2]
theorem partAt_drewN {w : World} {b : Nat} {p : Part} (h : PartAt w b p) (n : Nat) : PartAt (w.drewN n) b p := h
theorem isEmpty_of (t : ByteArray) : t.toList.isEmpty = decide (t.size = 0) := by
 rw [ByteArray.toList_eq, Bool.eq_iff_iff]; simp [← ByteArray.size_data]
def strLen : Value → Nat
 | .string t => t.size
 | _ => 0
theorem results_part {fn : Func} {p u v : Tmp} (h : fn.results = #[.cell p 275, .tmp u, .tmp v]) (tmps : Array Value) (w : World) (g : Nat) (q : Part)
  (hp : tmps.getD p undef = .pointer (some ⟨g, 0, none⟩)) (hc : PartAt w g q) : (results fn tmps).run Tryz.prog w = .ok (.tuple #[.agg q.row, tmps.getD u undef, tmps.getD v undef]) w := by
 have hp' : tmps[p]?.getD undef = .pointer (some ⟨g, 0, none⟩) := by simpa using hp
 have hl := run_load_part w ⟨g, 0, none⟩ q hc.all; simp [results, h, hp', asAddr, hl]
def ClassR (l : List Int) (e : Ending) : Prop := match classF l with
 | some (p, r) => ∃ t : ByteArray, bytesOf t = r ∧ e = .returned (.tuple #[.agg p.row, .string t, .bool true])
 | none => e = .returned (.tuple #[.agg Part.zero.row, .string ⟨#[]⟩, .bool false])
set_option linter.unusedSimpArgs false in
set_option maxRecDepth 100000 in
set_option maxHeartbeats 2000000 in
theorem class_any (s : ByteArray) (w : World) (hs : s.size ≤ 4096) :
  Calls Tryz.prog 202 #[.string s] w fun e w' => ClassR (bytesOf s) e ∧ Below w.heap.size w w' := by
 obtain ⟨t, not, n0, n1, n2, hC⟩ : ∃ (t : ByteArray) (not : Bool), (s.toList.isEmpty = true → t = s ∧ not = false) ∧ (∀ h : 0 < s.size, s.toList.isEmpty = false → (s[0].toNat = 33 → not = true ∧ t = s.extract 1 s.size) ∧ (s[0].toNat ≠ 33 → not = false ∧ t = s)) ∧ t.size ≤ s.size ∧ Hid (classF (bytesOf s) = (classL not false (bytesOf t) (fun _ => false)).map fun x => (⟨x.1, false⟩, x.2)) := by
  rcases Nat.eq_zero_or_pos s.size with h | h
  ·exact ⟨s, false, fun _ => ⟨rfl, rfl⟩, fun h' => by omega, Nat.le_refl _, by show _ = _; rw [bytesOf_nil h]; rfl⟩
  ·by_cases h33 : s[0].toNat = 33
   ·refine ⟨s.extract 1 s.size, true, fun h' => ?_, fun _ _ => ⟨fun _ => ⟨rfl, rfl⟩, fun h' => (h' h33).elim⟩, by simp, ?_⟩
    ·rw [isEmpty_of] at h'; exact absurd (of_decide_eq_true h') (by omega)
    ·show _ = _; rw [bytesOf_cons s h, h33]; rfl
   ·refine ⟨s, false, fun _ => ⟨rfl, rfl⟩, fun _ _ => ⟨fun h' => (h33 h').elim, fun _ => ⟨rfl, rfl⟩⟩, Nat.le_refl _, ?_⟩; show _ = _; unfold classF; rw [bytesOf_cons s h]; split
    ·rename_i e; simp at e; exact (h33 (by omega)).elim
    ·rfl
 have hCR : Hid (∀ e, ClassR (bytesOf s) e = match (classL not false (bytesOf t) (fun _ => false)).map fun x => ((⟨x.1, false⟩ : Part), x.2) with
   | some (p, r) => ∃ t : ByteArray, bytesOf t = r ∧ e = .returned (.tuple #[.agg p.row, .string t, .bool true])
   | none => e = .returned (.tuple #[.agg Part.zero.row, .string ⟨#[]⟩, .bool false])) := by
  intro e; unfold ClassR; rw [hC.out]
 clear hC; generalize ClassR (bytesOf s) = CR at *
 have q1 : PartAt ((w.alloc (.cells Tryz.zeroCells275 275)).alloc (.cells Tryz.zeroCells275 275)) (w.heap.size + 1) ⟨fun _ => false, false⟩ := by
  have := heap_alloc_new (w.alloc (.cells Tryz.zeroCells275 275)) (.cells Tryz.zeroCells275 275); show _ = _; rw [show (⟨fun _ => false, false⟩ : Part).row = Tryz.zeroCells275 from zero_row.symm]
  simpa using this
 have q2 : Below (w.heap.size + 1) (w.alloc (.cells Tryz.zeroCells275 275)) ((w.alloc (.cells Tryz.zeroCells275 275)).alloc (.cells Tryz.zeroCells275 275)) := (Below.refl _ _).alloc (by simp) _; have q3 : (w.alloc (.cells Tryz.zeroCells275 275)).heap[w.heap.size]? = some (.cells Tryz.zeroCells275 275 (0, 0)) := heap_alloc_new _ _
 have q4 : Below w.heap.size w (w.alloc (.cells Tryz.zeroCells275 275)) := (Below.refl _ _).alloc (Nat.le_refl _) _; have q5 : (w.alloc (.cells Tryz.zeroCells275 275)).heap.size = w.heap.size + 1 := by simp
 go_enter Tryz.func202, Tryz.ntmps202; go_upto_region 2 with fail; generalize (w.alloc (.cells Tryz.zeroCells275 275)).alloc (.cells Tryz.zeroCells275 275) = W1 at *
 generalize w.alloc (.cells Tryz.zeroCells275 275) = V at *
 go_cut [6] (fun nv w' => nv = .bool not ∧ W1 = w')
 case first =>
  rcases Nat.eq_zero_or_pos s.size with h | h
  ·have e1 : s.toList.isEmpty = true := by rw [isEmpty_of]; simpa using h
   obtain ⟨rfl, rfl⟩ := n0 e1; clear n0 n1
   go_wp2_with fail
   go_meet
   exact ⟨rfl, rfl⟩
  ·have e1 : s.toList.isEmpty = false := by rw [isEmpty_of]; exact decide_eq_false (by omega)
   obtain ⟨m0, m1⟩ := n1 h e1; clear n0 n1; generalize hc : s[0].toNat = c at *
   by_cases h33 : c = 33
   ·obtain ⟨rfl, ht⟩ := m0 h33; clear m0 m1; have x1 : ((c : Int) == 33) = true := by simp [h33]
    go_wp2_with fail
    go_meet
    exact ⟨rfl, rfl⟩
   ·obtain ⟨rfl, ht⟩ := m1 h33; clear m0 m1; have x1 : ((c : Int) == 33) = false := by simp; omega
    go_wp2_with fail
    go_meet
    exact ⟨rfl, rfl⟩
 case rest =>
 obtain ⟨rfl, rfl⟩ := hcut
 go_upto_if 19 with fail
 go_cut [0] (fun sv w' => sv = .string t ∧ W1 = w')
 case first =>
  rcases Nat.eq_zero_or_pos s.size with h | h
  ·have e1 : s.toList.isEmpty = true := by rw [isEmpty_of]; simpa using h
   obtain ⟨rfl, rfl⟩ := n0 e1; clear n0 n1
   go_wp2_with fail
   go_meet
   exact ⟨rfl, rfl⟩
  ·have e1 : s.toList.isEmpty = false := by rw [isEmpty_of]; exact decide_eq_false (by omega)
   obtain ⟨m0, m1⟩ := n1 h e1; clear n0 n1
   by_cases h33 : s[0].toNat = 33
   ·obtain ⟨rfl, rfl⟩ := m0 h33; clear m0 m1; have h1 : 1 ≤ s.size := h
    go_wp2_with fail
    go_meet
    exact ⟨rfl, rfl⟩
   ·obtain ⟨rfl, rfl⟩ := m1 h33; clear m0 m1
    go_wp2_with fail
    go_meet
    exact ⟨rfl, rfl⟩
 case rest =>
 obtain ⟨rfl, rfl⟩ := hcut; clear n0 n1
 go_wp2_with fail
 go_loopw [0, 7] (fun sv nv wr => ∃ (t' : ByteArray) (n : Nat) (f : Nat → Bool), sv = .string t' ∧ nv = .int .i64 n ∧ n + t'.size ≤ t.size ∧ PartAt wr (w.heap.size + 1) ⟨f, false⟩ ∧ Below (w.heap.size + 1) V wr ∧ Hid (classL not (decide (0 < n)) (bytesOf t') f = classL not false (bytesOf t) (fun _ => false))) (fun sv _ _ => strLen sv)
 case atStart => exact ⟨t, 0, fun _ => false, rfl, rfl, by omega, q1, q2, rfl⟩
 case round =>
  obtain ⟨t', n, f, rfl, rfl, hn, hp, hb, hC⟩ := hrel; clear q1 q2; have e0 : wr.heap[w.heap.size]? = some (.cells Tryz.zeroCells275 275 (0, 0)) := (hb.block _ (by omega)).trans q3; rcases Nat.eq_zero_or_pos t'.size with h0 | h0
  ·have y1 : t'.toList.isEmpty = true := by rw [isEmpty_of]; simpa using h0
   go_wp2_with (first
    | (refine part_store rfl (.tmp 2) (.tmp 47) rfl rfl w.heap.size Part.zero (by simp [Act.eval]) (by simp [Act.eval, zero_row]) Tryz.zeroCells275 e0 Tryz.zeroCells275_size ?_))
   refine bodyPost_ret (results_part rfl _ _ w.heap.size Part.zero (by rfl) (heap_setRow_at e0)) (by rfl) ?_; refine ⟨?_, below_setRow_at (q4.trans (hb.mono (by omega))) (Nat.le_refl _) _⟩; rw [hCR.out, ← hC.out, bytesOf_nil h0]; rfl
  ·have y1 : t'.toList.isEmpty = false := by rw [isEmpty_of]; exact decide_eq_false (by omega)
   have y2 := bytesOf_cons t' h0; have y3 := bytesOf_range t'; rw [y2] at hC y3; generalize hd : t'[0].toNat = d at *
   by_cases d93 : d = 93
   ·subst d93; have mm : memberF ((93 : Nat) : Int) = false := by decide
    rcases Nat.eq_zero_or_pos n with hn0 | hn0
    ·subst hn0
     go_wp2_with (first
      | (go_at_call 227; refine (member_any _ _).mono ?_; rintro e w1 ⟨rfl, rfl⟩)
      | (refine part_store rfl (.tmp 2) (.tmp 47) rfl rfl w.heap.size Part.zero (by simp [Act.eval]) (by simp [Act.eval, zero_row]) Tryz.zeroCells275 e0 Tryz.zeroCells275_size ?_))
     refine bodyPost_ret (results_part rfl _ _ w.heap.size Part.zero (by rfl) (heap_setRow_at e0)) (by rfl) ?_; refine ⟨?_, below_setRow_at (q4.trans (hb.mono (by omega))) (Nat.le_refl _) _⟩; rw [hCR.out, ← hC.out]; simp only [Nat.lt_irrefl, decide_false]
     erw [classL_bad]
     rfl
    ·have n3 : ((n : Int) == 0) = false := by simp; omega
     have n4 : decide (0 < n) = true := by simpa using hn0
     rw [n4] at hC
     go_wp2_with (first
      | (go_at_call 227; refine (member_any _ _).mono ?_; rintro e w1 ⟨rfl, rfl⟩))
     go_loopw [52] (fun iv wl => ∃ k : Nat, k ≤ 256 ∧ iv = .int .i64 k ∧ PartAt wl (w.heap.size + 1) ⟨closeK f not k, false⟩ ∧ Below (w.heap.size + 1) V wl) (fun iv _ => 256 - (intOf iv).toNat)
     case atStart => exact ⟨0, Nat.zero_le _, rfl, by rw [closeK_zero]; exact hp, hb⟩
     case round =>
      obtain ⟨k, hk, rfl, hpk, hbk⟩ := hrel; clear hp hb
      by_cases hlt : k < 256
      ·have f1 := hpk.frozen k; have f2 := hpk.at hlt; rw [show (⟨closeK f not k, false⟩ : Part).has k = f k from closeK_at f not k] at f2
       have f3 : Hid (PartAt (wr.setCell ⟨w.heap.size + 1, k, none⟩ (.bool (closeF f not k))) (w.heap.size + 1) ⟨closeK f not (k + 1), false⟩) := by
        have := hpk.set hlt (closeF f not k); rw [show (⟨closeK f not k, false⟩ : Part).has = closeK f not k from rfl, closeK_step] at this; exact this
       have f4 : Hid (Below (w.heap.size + 1) V (wr.setCell ⟨w.heap.size + 1, k, none⟩ (.bool (closeF f not k)))) := hbk.setCell (Nat.le_refl _) _; have f5 : Hid (closeF f not k = ((f k != not) && (k != 47))) := rfl; have x5 : (k : Int) < 256 := by omega
       have x6 : (0 : Int) ≤ (k : Int) := by omega
       generalize f k = v0 at *
       generalize closeF f not k = v1 at *
       by_cases e : v0 = not
       ·have e2 : v1 = false := by rw [f5.out, e]; simp
        clear f5; subst e2 e
        go_wp2_with fail; go_roundw
        case rel => exact ⟨k + 1, by omega, by go_num, f3.out, f4.out⟩
        case measure => simp [intOf]; omega
       ·by_cases h47 : k = 47
        ·have e2 : v1 = false := by rw [f5.out, h47]; simp
         clear f5; subst e2 h47
         go_wp2_with fail; go_roundw
         case rel => exact ⟨47 + 1, by omega, by go_num, f3.out, f4.out⟩
         case measure => simp [intOf]
        ·have e2 : v1 = true := by rw [f5.out]; cases v0 <;> cases not <;> simp_all
         clear f5; subst e2; have h47' : ((k : Int) != 47) = true := by simp; omega
         go_wp2_with fail; go_roundw
         case rel => exact ⟨k + 1, by omega, by go_num, f3.out, f4.out⟩
         case measure => simp [intOf]; omega
      ·obtain rfl : k = 256 := by omega
       have g1 : wr.heap[w.heap.size + 1]? = some (.cells (⟨closeF f not, false⟩ : Part).row 275 (0, 0)) := by rw [← closeK_full]; exact hpk
       have g2 := range_of_block g1; have e1 : wr.heap[w.heap.size]? = some (.cells Tryz.zeroCells275 275 (0, 0)) := (hbk.block _ (by omega)).trans q3; have g3 := there_of_block (n := 257) e1 (Nat.le_of_eq Tryz.zeroCells275_size.symm); have g4 := (⟨closeF f not, false⟩ : Part).row_len; have g5 := (⟨closeF f not, false⟩ : Part).row_ones; have HG1 := Lib.hid g1; have HE1 := Lib.hid e1; clear g1 e1 hpk e0
       obtain ⟨cs, hcs⟩ : ∃ cs, Hid ((⟨closeF f not, false⟩ : Part).row.toList = cs) := ⟨_, rfl⟩
       rw [hcs.out] at g2 g4 g5; have hu := Tryz.underlying275; have hi : (Tryz.prog.info? 275).map (·.size) = some cs.length := by rw [part_info, g4]
       have hs' : ¬ ((t'.size : Int) < 1) := by omega
       go_wp2_with fail; refine wp_region_plan (fun w' => w'.rangeAt (w.heap.size + 1) 0 cs ∧ w'.there w.heap.size 0 257) [(0, true), (1, true), (2, true), (3, false), (4, true), (5, true)] (by kernel_rfl) (by kernel_rfl) (by kernel_rfl) ⟨by simpa using g2, by simpa using g3⟩ (fun hHeld => ?_); refine plan_load _ _ _ rfl rfl (by rfl) _ _ rfl cs _ (fun _ h => h.1) hu rfl hi ?_
       simp only [Act.put, List.getElem_toArray, List.getElem_cons_zero, List.getElem_cons_succ, List.setIfInBounds_toArray, List.set_cons_zero, List.set_cons_succ]; refine plan_move _ _ (.string t') rfl (.inl rfl) (by rfl) rfl ?_; simp only [Act.put, List.getElem_toArray, List.getElem_cons_zero, List.getElem_cons_succ, List.setIfInBounds_toArray, List.set_cons_zero, List.set_cons_succ]
       refine plan_take _ (.string (t'.extract 1 t'.size)) rfl (by rfl) (fun w _ => ?_) ?_
       ·go_simp
       simp only [Act.put, List.getElem_toArray, List.getElem_cons_zero, List.getElem_cons_succ, List.setIfInBounds_toArray, List.set_cons_zero, List.set_cons_succ]; refine plan_store _ _ _ _ rfl rfl rfl (by rfl) _ _ rfl cs rfl (by rw [g4]; exact hHeld.2) hi g5 ⟨World.rangeAt_setCells_apart hHeld.1 _ _ _ (by omega), World.there_setCells hHeld.2 _ _ _⟩ (fun hHeld => ?_)
       refine plan_move _ _ (.string (t'.extract 1 t'.size)) rfl (.inr rfl) (by rfl) rfl ?_; simp only [Act.put, List.getElem_toArray, List.getElem_cons_zero, List.getElem_cons_succ, List.setIfInBounds_toArray, List.set_cons_zero, List.set_cons_succ]; refine plan_move _ _ (.bool true) rfl (.inr rfl) (by rfl) rfl ?_
       simp only [Act.put, List.getElem_toArray, List.getElem_cons_zero, List.getElem_cons_succ, List.setIfInBounds_toArray, List.set_cons_zero, List.set_cons_succ]; refine plan_done ?_
       go_wp2_with fail; refine bodyPost_ret (results_part rfl _ _ w.heap.size ⟨closeF f not, false⟩ (by rfl) ?_) (by rfl) ?_
       ·have := heap_setCells_all (w := wr.drew) (g := w.heap.size) (vs := cs) HE1.out (by rw [g4]; exact Tryz.zeroCells275_size); rw [← hcs.out] at this ⊢; show _ = _
        simpa using this
       refine ⟨?_, below_setCells _ (q4.trans (hbk.drew.mono (by omega))) (Nat.le_refl _) _⟩; rw [hCR.out, ← hC.out]
       erw [classL_end]
       exact ⟨t'.extract 1 t'.size, rfl, rfl⟩
   ·have d1 : ((d : Int) == 93) = false := by simp; omega
    have d2 : ((d : Int) != 93) = true := by simp; omega
    have d3 : (d : Int) ≠ 93 := by omega
    cases hm : memberF (d : Int) with
    | false =>
     go_wp2_with (first
      | (go_at_call 227; refine (member_any _ _).mono ?_; rintro e w1 ⟨rfl, rfl⟩)
      | (refine part_store rfl (.tmp 2) (.tmp 47) rfl rfl w.heap.size Part.zero (by simp [Act.eval]) (by simp [Act.eval, zero_row]) Tryz.zeroCells275 e0 Tryz.zeroCells275_size ?_))
     refine bodyPost_ret (results_part rfl _ _ w.heap.size Part.zero (by rfl) (heap_setRow_at e0)) (by rfl) ?_; refine ⟨?_, below_setRow_at (q4.trans (hb.mono (by omega))) (Nat.le_refl _) _⟩; rw [hCR.out, ← hC.out, classL_not _ _ _ _ d3 hm]; rfl
    | true =>
     have hs' : ¬ ((t'.size : Int) < 1) := by omega
     have hs2 : (1 : Int) ≤ (t'.size : Int) := by omega
     go_upto_region 16 with (go_at_call 227; refine (member_any _ _).mono ?_; rintro e w1 ⟨rfl, rfl⟩)
     go_quiet (fail); go_upto_region 18 with fail; have r1 : t'.size = (t'.extract 1 t'.size).size + 1 := by simp; omega
     generalize t'.extract 1 t'.size = t1 at *
     have b1 : Below (w.heap.size + 1) V (wr.drewN nq) := below_drewN hb nq; have p1 : PartAt (wr.drewN nq) (w.heap.size + 1) ⟨f, false⟩ := partAt_drewN hp nq; have e1 : (wr.drewN nq).heap[w.heap.size]? = some (.cells Tryz.zeroCells275 275 (0, 0)) := (b1.block _ (by omega)).trans q3; generalize wr.drewN nq = wn at *
     clear hb hp e0 y2; have hd255 : d ≤ 255 := by have := (y3 (d : Int) (by simp)).2; omega
     by_cases hdash : ∃ z r, bytesOf t1 = 45 :: z :: r
     ·have g2 : 2 ≤ t1.size := by obtain ⟨z, r, hz⟩ := hdash; rw [← bytesOf_length, hz]; simp
      have z0 : t1[0].toNat = 45 := by
       obtain ⟨z, r, hz⟩ := hdash; rw [bytesOf_cons t1 (by omega)] at hz; simp at hz; omega
      have hz := bytesOf_two t1 g2; rw [z0, show ((45 : Nat) : Int) = 45 from rfl] at hz; have hz1 : t1[1].toNat ≤ 255 := by have := t1[1].toNat_lt; omega
      generalize hzz : t1[1].toNat = z at *
      have k0 : (1 : Int) < (t1.size : Int) := by omega
      clear hdash; rw [hz] at hC; have r2 : (t1.extract 2 t1.size).size + 2 = t1.size := by simp; omega
      have k2 : ¬ ((t1.size : Int) < 2) := by omega
      have k3 : (2 : Int) ≤ (t1.size : Int) := by omega
      have k4 : (1 : Nat) < t1.size := by omega
      have k5 : (0 : Nat) < t1.size := by omega
      by_cases hbad : memberF (z : Int) = false ∨ (z : Int) < (d : Int)
      ·cases hzm : memberF (z : Int) with
       | false =>
        go_wp2_with (first
         | (go_at_call 227; refine (member_any _ _).mono ?_; rintro e w1 ⟨rfl, rfl⟩)
         | (refine part_store rfl (.tmp 2) (.tmp 98) rfl rfl w.heap.size Part.zero (by simp [Act.eval]) (by simp [Act.eval, zero_row]) Tryz.zeroCells275 e1 Tryz.zeroCells275_size ?_))
        refine bodyPost_ret (results_part rfl _ _ w.heap.size Part.zero (by rfl) (heap_setRow_at e1)) (by rfl) ?_; refine ⟨?_, below_setRow_at (q4.trans (b1.mono (by omega))) (Nat.le_refl _) _⟩; rw [hCR.out, ← hC.out, classL_worse _ _ _ _ d3 hm hbad]; rfl
       | true =>
        have zd : (z : Int) < (d : Int) := hbad.resolve_left (by rw [hzm]; simp)
        go_wp2_with (first
         | (go_at_call 227; refine (member_any _ _).mono ?_; rintro e w1 ⟨rfl, rfl⟩)
         | (refine part_store rfl (.tmp 2) (.tmp 98) rfl rfl w.heap.size Part.zero (by simp [Act.eval]) (by simp [Act.eval, zero_row]) Tryz.zeroCells275 e1 Tryz.zeroCells275_size ?_))
        refine bodyPost_ret (results_part rfl _ _ w.heap.size Part.zero (by rfl) (heap_setRow_at e1)) (by rfl) ?_; refine ⟨?_, below_setRow_at (q4.trans (b1.mono (by omega))) (Nat.le_refl _) _⟩; rw [hCR.out, ← hC.out, classL_worse _ _ _ _ d3 hm hbad]; rfl
      ·have hzm : memberF (z : Int) = true := by
        cases h : memberF (z : Int) with
        | true => rfl
        | false => exact (hbad (Or.inl h)).elim
       have zd : ¬ (z : Int) < (d : Int) := fun h => hbad (Or.inr h); clear hbad
       have hC2 : Hid (classL not true (bytesOf (t1.extract 2 t1.size)) (span f d z) = classL not false (bytesOf t) (fun _ => false)) := by
        show _ = _; rw [← hC.out, classL_span _ _ _ _ d3 hm hzm (by omega)]
       clear hC; go_upto_region 21 with fail; generalize t1.extract 2 t1.size = t2 at *
       go_upto_region 23 with (go_at_call 227; refine (member_any _ _).mono ?_; rintro e w1 ⟨rfl, rfl⟩)
       go_upto_region 23 with fail
       go_wp2_with fail
       go_loopw [11] (fun cv wl => ∃ k : Nat, d ≤ k ∧ k ≤ z + 1 ∧ cv = .int .i64 k ∧ PartAt wl (w.heap.size + 1) ⟨span f d ((k : Int) - 1), false⟩ ∧ Below (w.heap.size + 1) V wl) (fun cv _ => z + 1 - (intOf cv).toNat)
       case atStart => exact ⟨d, Nat.le_refl _, by omega, rfl, by rw [span_none]; exact p1, b1⟩
       case round =>
        obtain ⟨k, hk1, hk2, rfl, hpk, hbk⟩ := hrel; clear p1 b1 e1
        by_cases hlt : k ≤ z
        ·have f1 := hpk.frozen k; have f2 := hpk.at (i := k) (by omega)
         have f3 : Hid (PartAt (wr.setCell ⟨w.heap.size + 1, k, none⟩ (.bool true)) (w.heap.size + 1) ⟨span f d k, false⟩) := by
          have := hpk.set (i := k) (by omega) true; rw [show (⟨span f d ((k : Int) - 1), false⟩ : Part).has = span f d ((k : Int) - 1) from rfl, span_step f d k (by omega)] at this; exact this
         have f4 : Hid (Below (w.heap.size + 1) V (wr.setCell ⟨w.heap.size + 1, k, none⟩ (.bool true))) := hbk.setCell (Nat.le_refl _) _; have x5 : (k : Int) < 256 := by omega
         have x6 : (0 : Int) ≤ (k : Int) := by omega
         have x7 : (k : Int) ≤ (z : Int) := by omega
         generalize (⟨span f d ((k : Int) - 1), false⟩ : Part).has k = v0 at *
         go_wp2_with fail; go_roundw
         case rel => exact ⟨k + 1, by omega, by omega, by go_num, by rw [show ((k + 1 : Nat) : Int) - 1 = k from by omega]; exact f3.out, f4.out⟩
         case measure => simp [intOf]; omega
        ·obtain rfl : k = z + 1 := by omega
         have hpz : Hid (PartAt wr (w.heap.size + 1) ⟨span f d z, false⟩) := by
          rw [show ((z + 1 : Nat) : Int) - 1 = z from by omega] at hpk; exact hpk
         have x7 : ¬ ((z : Int) + 1 ≤ (z : Int)) := by omega
         clear hpk
         go_wp2_with fail; go_roundw
         case rel => exact ⟨t2, n + 1, span f d z, rfl, by go_num, by omega, hpz.out, hbk, by rw [show decide (0 < n + 1) = true from by simp]; exact hC2⟩
         case measure => simp [strLen]; omega
     ·have hC2 : Hid (classL not true (bytesOf t1) (span f d d) = classL not false (bytesOf t) (fun _ => false)) := by
       show _ = _; rw [← hC.out, classL_go _ _ _ _ d3 hm (fun z r h => hdash ⟨z, r, h⟩)]
      clear hC
      by_cases hone : 1 < t1.size
      ·have z0 : ((t1[0].toNat : Int) == 45) = false := by
        rw [beq_eq_false_iff_ne]; intro h; have e := bytesOf_two t1 hone; rw [h] at e; exact hdash ⟨_, _, e⟩
       clear hdash; have k0 : (1 : Int) < (t1.size : Int) := by omega
       have k5 : (0 : Nat) < t1.size := by omega
       go_upto_region 23 with fail
       go_wp2_with fail
       go_loopw [11] (fun cv wl => ∃ k : Nat, d ≤ k ∧ k ≤ d + 1 ∧ cv = .int .i64 k ∧ PartAt wl (w.heap.size + 1) ⟨span f d ((k : Int) - 1), false⟩ ∧ Below (w.heap.size + 1) V wl) (fun cv _ => d + 1 - (intOf cv).toNat)
       case atStart => exact ⟨d, Nat.le_refl _, by omega, rfl, by rw [span_none]; exact p1, b1⟩
       case round =>
        obtain ⟨k, hk1, hk2, rfl, hpk, hbk⟩ := hrel; clear p1 b1 e1
        by_cases hlt : k ≤ d
        ·have f1 := hpk.frozen k; have f2 := hpk.at (i := k) (by omega)
         have f3 : Hid (PartAt (wr.setCell ⟨w.heap.size + 1, k, none⟩ (.bool true)) (w.heap.size + 1) ⟨span f d k, false⟩) := by
          have := hpk.set (i := k) (by omega) true; rw [show (⟨span f d ((k : Int) - 1), false⟩ : Part).has = span f d ((k : Int) - 1) from rfl, span_step f d k (by omega)] at this; exact this
         have f4 : Hid (Below (w.heap.size + 1) V (wr.setCell ⟨w.heap.size + 1, k, none⟩ (.bool true))) := hbk.setCell (Nat.le_refl _) _; have x5 : (k : Int) < 256 := by omega
         have x6 : (0 : Int) ≤ (k : Int) := by omega
         have x7 : (k : Int) ≤ (d : Int) := by omega
         generalize (⟨span f d ((k : Int) - 1), false⟩ : Part).has k = v0 at *
         go_wp2_with fail; go_roundw
         case rel => exact ⟨k + 1, by omega, by omega, by go_num, by rw [show ((k + 1 : Nat) : Int) - 1 = k from by omega]; exact f3.out, f4.out⟩
         case measure => simp [intOf]; omega
        ·obtain rfl : k = d + 1 := by omega
         have hpz : Hid (PartAt wr (w.heap.size + 1) ⟨span f d d, false⟩) := by
          rw [show ((d + 1 : Nat) : Int) - 1 = d from by omega] at hpk; exact hpk
         have x7 : ¬ ((d : Int) + 1 ≤ (d : Int)) := by omega
         clear hpk
         go_wp2_with fail; go_roundw
         case rel => exact ⟨t1, n + 1, span f d d, rfl, by go_num, by omega, hpz.out, hbk, by rw [show decide (0 < n + 1) = true from by simp]; exact hC2⟩
         case measure => simp [strLen]; omega
      ·have k0 : ¬ (1 : Int) < (t1.size : Int) := by omega
       clear hdash; go_upto_region 23 with fail
       go_wp2_with fail
       go_loopw [11] (fun cv wl => ∃ k : Nat, d ≤ k ∧ k ≤ d + 1 ∧ cv = .int .i64 k ∧ PartAt wl (w.heap.size + 1) ⟨span f d ((k : Int) - 1), false⟩ ∧ Below (w.heap.size + 1) V wl) (fun cv _ => d + 1 - (intOf cv).toNat)
       case atStart => exact ⟨d, Nat.le_refl _, by omega, rfl, by rw [span_none]; exact p1, b1⟩
       case round =>
        obtain ⟨k, hk1, hk2, rfl, hpk, hbk⟩ := hrel; clear p1 b1 e1
        by_cases hlt : k ≤ d
        ·have f1 := hpk.frozen k; have f2 := hpk.at (i := k) (by omega)
         have f3 : Hid (PartAt (wr.setCell ⟨w.heap.size + 1, k, none⟩ (.bool true)) (w.heap.size + 1) ⟨span f d k, false⟩) := by
          have := hpk.set (i := k) (by omega) true; rw [show (⟨span f d ((k : Int) - 1), false⟩ : Part).has = span f d ((k : Int) - 1) from rfl, span_step f d k (by omega)] at this; exact this
         have f4 : Hid (Below (w.heap.size + 1) V (wr.setCell ⟨w.heap.size + 1, k, none⟩ (.bool true))) := hbk.setCell (Nat.le_refl _) _; have x5 : (k : Int) < 256 := by omega
         have x6 : (0 : Int) ≤ (k : Int) := by omega
         have x7 : (k : Int) ≤ (d : Int) := by omega
         generalize (⟨span f d ((k : Int) - 1), false⟩ : Part).has k = v0 at *
         go_wp2_with fail; go_roundw
         case rel => exact ⟨k + 1, by omega, by omega, by go_num, by rw [show ((k + 1 : Nat) : Int) - 1 = k from by omega]; exact f3.out, f4.out⟩
         case measure => simp [intOf]; omega
        ·obtain rfl : k = d + 1 := by omega
         have hpz : Hid (PartAt wr (w.heap.size + 1) ⟨span f d d, false⟩) := by
          rw [show ((d + 1 : Nat) : Int) - 1 = d from by omega] at hpk; exact hpk
         have x7 : ¬ ((d : Int) + 1 ≤ (d : Int)) := by omega
         clear hpk
         go_wp2_with fail; go_roundw
         case rel => exact ⟨t1, n + 1, span f d d, rfl, by go_num, by omega, hpz.out, hbk, by rw [show decide (0 < n + 1) = true from by simp]; exact hC2⟩
         case measure => simp [strLen]; omega
end Go.Proofs.YtmgngapkgcofnabGreatDoor
