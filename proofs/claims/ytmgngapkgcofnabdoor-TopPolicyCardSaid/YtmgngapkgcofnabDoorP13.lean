/- glob.parts: the walk. -/
import Derived.Test.YtmgngapkgcofnabDoorP11
import Derived.Maps.AppendAt
import Derived.OwnWalk
import Derived.Deep.CutBlock
import Derived.Test.YtmgngapkgcofnabDoorP12
import Derived.Laws.MakeOwn
namespace Go.Proofs.YtmgngapkgcofnabDoor
open Go.RowKit

/-- A slice literal of one part, its cells a letter. -/
theorem row_slice {ops : Array Oper} {rest : List Oper} {o : Oper} {a : Act} {w : World} {Q : Exit → Act → World → Prop} (hg : o.guard = none) (x : Operand) (ho : o.op = .buildSlice 126 1 #[(0, x)])
    (R : Array Value) (hR : R.size = 257) (hx : a.eval x = .agg R) (d : Option Tmp) (hd : o.dst = d)
    (h : wpList Tryd.prog ops Q rest (a.put d (.slice (some ⟨w.heap.size, 0, none⟩) 1 1)) (w.alloc (.cells R 138))) : wpList Tryd.prog ops Q (o :: rest) a w := by
  subst hd
  have hi := part_info
  have hz : ((Tryd.prog.info? 138).bind (·.zero)) = some (.agg Tryd.zeroCells138) := by kernel_rfl
  cases hie : Tryd.prog.info? 138 with
  | none => simp [hie] at hi
  | some ie =>
    simp only [hie, Option.map_some, Option.some.injEq, Option.bind_some] at hi hz
    refine wpList_buildSlice hg _ _ 1 _ ho R ie _ Tryd.underlying126 hie hz (by rw [hi]; decide) (by rw [hi]; decide) ?_ h
    have := Great.fill_whole (s := 257) (by decide) [.agg R] ((Array.range (1 * 257)).map ((Value.agg Tryd.zeroCells138).cells[· % (Value.agg Tryd.zeroCells138).cells.size]!)) (by intro v hv; simp at hv; subst hv; exact hR) (by simp)
    rw [hi]
    simp only [List.map_toArray, hx, List.map_cons, List.map_nil]
    simpa [Value.cells] using this
/-- A load of a part, its cells a letter. -/
theorem row_load {ops : Array Oper} {rest : List Oper} {o : Oper} {a : Act} {w : World} {Q : Exit → Act → World → Prop} (hgd : o.guard = none) (x : Operand) (ho : o.op = .load 138 x) (dst : Option Tmp) (hdst : o.dst = dst)
    (ad : Addr) (hx : a.eval x = .pointer (some ad)) (p : Part) (R : Array Value) (hR : p.row = R) (hc : ∀ j v, R[j]? = some v → w.cell? (ad.add j) = some v)
    (h : wpList Tryd.prog ops Q rest (a.put dst (.agg R)) w) : wpList Tryd.prog ops Q (o :: rest) a w := by
  subst hR
  exact part_load hgd x ho dst hdst ad hx p hc h

/-- The cells of parts, one behind the other. -/
def flatP (l : List Part) : List Value := l.flatMap fun p => p.row.toList
theorem flatP_length (l : List Part) : (flatP l).length = l.length * 257 := by
  induction l with
  | nil => rfl
  | cons p l ih => simp only [flatP, List.flatMap_cons, List.length_append, List.length_cons] at ih ⊢; rw [ih]; simp [Part.row_size]; omega
theorem flatP_snoc (l : List Part) (p : Part) : flatP (l ++ [p]) = flatP l ++ p.row.toList := by simp [flatP]

theorem part_i : (Tryd.prog.info? 138).map (fun i => (i.zero, i.size, i.bytes)) = some (some (.agg Tryd.zeroCells138), 257, 257) := by kernel_rfl
theorem own_ge' {w : World} {B : Nat} {e : TypeId} {sz n : Nat} {v : Value} {xs : List Value} (h : w.ownsRow B e sz v n xs) : ∀ k, v.ownBlock = some k → B ≤ k := by
  obtain ⟨_, (⟨rfl, _⟩ | ⟨g, cap, cur, rfl, hB, _⟩)⟩ := h
  · intro k h; simp [Value.ownBlock] at h
  · intro k h; simp [Value.ownBlock] at h; omega
theorem own_below {w w' : World} {B H : Nat} {e : TypeId} {sz n : Nat} {v : Value} {xs : List Value} (h : w.ownsRow B e sz v n xs) (hb : Below H w w') (hH : w.heap.size ≤ H) : w'.ownsRow B e sz v n xs := by
  obtain ⟨h1, (⟨rfl, h2⟩ | ⟨g, cap, cur, rfl, hB, hg, h3⟩)⟩ := h
  · exact ⟨h1, .inl ⟨rfl, h2⟩⟩
  · have hlt : g < w.heap.size := by
      rcases Nat.lt_or_ge g w.heap.size with h | h
      · exact h
      · simp [Array.getElem?_eq_none h] at hg
    exact ⟨h1, .inr ⟨g, cap, cur, rfl, hB, (hb.block g (by omega)).trans hg, h3⟩⟩

/-- What parts answers. -/
def PartsR (l : List Int) (B : Nat) (e : Ending) (w' : World) : Prop := match partsF l with
  | some ps => ∃ v, e = .returned (.tuple #[v, .bool true]) ∧ w'.ownsRow B 138 257 v ps.length (flatP ps)
  | none => e = .returned (.tuple #[.slice none 0 0, .bool false])
theorem partsF_nil : partsF [] = some [] := rfl
theorem partsF_cons {l : List Int} (h : l ≠ []) : partsF l = (partL l).bind fun x => (partsF x.2).map (x.1 :: ·) := by
  rw [partsF_eq, partsP_cons h]
  cases partL l with
  | none => rfl
  | some x =>
    simp only [Option.bind_some]
    rw [partsF_eq]
    cases partsP x.2 <;> rfl
theorem partL_star {x : Int} (h : x ≠ 42) (r : List Int) : partL (((42 : Nat) : Int) :: x :: r) = some (anyP false true, x :: r) := by
  simp only [partL]
  split
  · split
    · rename_i e; simp at e; exact (h e.1).elim
    · rfl
  · rename_i e; exact (e rfl).elim
theorem partL_esc {x : Nat} (h : specialF (x : Int) = true) (r : List Int) : partL (((92 : Nat) : Int) :: (x : Int) :: r) = some (oneP x, r) := by
  simp [partL, h]
theorem partL_noesc {x : Int} (h : specialF x = false) (r : List Int) : partL (((92 : Nat) : Int) :: x :: r) = none := by
  simp [partL, h]
theorem partL_plain {c : Int} (h1 : c ≠ 42) (h2 : c ≠ 63) (h3 : c ≠ 91) (h4 : c ≠ 92) (h : plainF c = true) (r : List Int) : partL (c :: r) = some (oneP c, r) := by
  simp [partL, h1, h2, h3, h4, h]
theorem partL_bad {c : Int} (h1 : c ≠ 42) (h2 : c ≠ 63) (h3 : c ≠ 91) (h4 : c ≠ 92) (h : plainF c = false) (r : List Int) : partL (c :: r) = none := by
  simp [partL, h1, h2, h3, h4, h]
theorem upd_one (c : Nat) : (⟨upd (⟨fun _ => false, false⟩ : Part).has c true, (⟨fun _ => false, false⟩ : Part).many⟩ : Part) = oneP c := by
  unfold oneP upd
  congr 1
  funext i
  by_cases h : i = c
  · subst h; simp
  · rw [if_neg h]; simp; omega
theorem class_yes (s : ByteArray) (w : World) (hs : s.size ≤ 4096) {p : Part} {r : List Int} (h : classF (bytesOf s) = some (p, r)) :
    Calls Tryd.prog 75 #[.string s] w fun e w' => ∃ t : ByteArray, bytesOf t = r ∧ e = .returned (.tuple #[.agg p.row, .string t, .bool true]) ∧ Below w.heap.size w w' :=
  (class_any s w hs).mono fun e w' ⟨h1, h2⟩ => by
    unfold ClassR at h1
    rw [h] at h1
    obtain ⟨t, h3, h4⟩ := h1
    exact ⟨t, h3, h4, h2⟩
theorem class_no (s : ByteArray) (w : World) (hs : s.size ≤ 4096) (h : classF (bytesOf s) = none) :
    Calls Tryd.prog 75 #[.string s] w fun e w' => e = .returned (.tuple #[.agg Part.zero.row, .string ⟨#[]⟩, .bool false]) ∧ Below w.heap.size w w' :=
  (class_any s w hs).mono fun e w' ⟨h1, h2⟩ => by
    unfold ClassR at h1
    rw [h] at h1
    exact ⟨h1, h2⟩

/-- What the switch leaves. -/
def SwR (l : List Int) (g : Nat) (W : World) (sv okv : Value) (wc : World) : Prop := Below g W wc ∧ match partL l with
  | some (p, r) => ∃ t2 : ByteArray, sv = .string t2 ∧ bytesOf t2 = r ∧ okv = .bool true ∧ PartAt wc g p
  | none => okv = .bool false
theorem SwR.yes {l : List Int} {g : Nat} {W : World} {t2 : ByteArray} {wc : World} {p : Part} (hb : Below g W wc) (h : partL l = some (p, bytesOf t2)) (hp : PartAt wc g p) : SwR l g W (.string t2) (.bool true) wc := by
  unfold SwR; rw [h]; exact ⟨hb, t2, rfl, rfl, rfl, hp⟩
theorem SwR.no {l : List Int} {g : Nat} {W : World} {sv : Value} {wc : World} (hb : Below g W wc) (h : partL l = none) : SwR l g W sv (.bool false) wc := by
  unfold SwR; rw [h]; exact ⟨hb, rfl⟩

set_option linter.unusedSimpArgs false in
set_option maxRecDepth 100000 in
set_option maxHeartbeats 4000000 in
theorem parts_any (s : ByteArray) (w : World) (hs : s.size ≤ 4096) :
    Calls Tryd.prog 62 #[.string s] w fun e w' => PartsR (bytesOf s) w.heap.size e w' ∧ Below w.heap.size w w' := by
  have hPR : Hid (∀ e w', PartsR (bytesOf s) w.heap.size e w' = PartsR (bytesOf s) w.heap.size e w') := fun _ _ => rfl
  obtain ⟨i0, hi, hz0, hz1, hz2⟩ := info_parts part_i
  go_enter Tryd.func62, Tryd.ntmps62
  go_wp2_with fail
  go_loopw [0, 4] (fun sv lv wr => ∃ (t' : ByteArray) (ps : List Part), sv = .string t' ∧ ps.length + t'.size ≤ s.size ∧ wr.ownsRow w.heap.size 138 257 lv ps.length (flatP ps) ∧ Below w.heap.size w wr ∧ Hid ((partsF (bytesOf t')).map (ps ++ ·) = partsF (bytesOf s))) (fun sv _ _ => strLen sv)
  case atStart =>
    refine ⟨s, [], rfl, by simp, World.ownsRow_nil _ _ _ _, Below.refl _ _, ?_⟩
    show _ = _
    cases partsF (bytesOf s) <;> rfl
  case round =>
    obtain ⟨t', ps, rfl, hn, hown, hb, hC⟩ := hrel
    rcases Nat.eq_zero_or_pos t'.size with h0 | h0
    · have y1 : t'.toList.isEmpty = true := by rw [isEmpty_of]; simpa using h0
      have hF : Hid (partsF (bytesOf s) = some ps) := by
        show _ = _
        rw [← hC.out, bytesOf_nil h0, partsF_nil]; simp
      clear hC
      have HO := Lib.hid hown
      clear hown
      go_wp2_with fail
      go_ret2
      refine ⟨?_, hb⟩
      unfold PartsR
      rw [hF.out]
      exact ⟨_, rfl, HO.out⟩
    · have y1 : t'.toList.isEmpty = false := by rw [isEmpty_of]; exact decide_eq_false (by omega)
      have y2 : ∃ l, Hid (bytesOf t' = l) := ⟨_, rfl⟩
      obtain ⟨l, hl⟩ := y2
      have hcons := bytesOf_cons t' h0
      have y3 := bytesOf_range t'
      rw [hl.out] at hcons y3 hC
      generalize hd : t'[0].toNat = c at *
      have hs' : ¬ ((t'.size : Int) < 1) := by omega
      have hs2 : (1 : Int) ≤ (t'.size : Int) := by omega
      have HO := Lib.hid hown
      have HC := Lib.hid hcons
      have HL : Hid (∀ p r, partL l = some (p, r) → ps.length + 1 + r.length ≤ s.size ∧ r.length < t'.size) := by
        intro p r h
        have := partL_len h
        rw [← hl.out, bytesOf_length] at this
        omega
      have HLn : Hid (l ≠ []) := by
        show _ ≠ _
        rw [hcons]; simp
      clear hown hcons
      go_upto_block 2 with fail
      have r1 : t'.size = (t'.extract 1 t'.size).size + 1 := by simp; omega
      generalize t'.extract 1 t'.size = t1 at *
      have e0 : (wr.alloc (.cells Tryd.zeroCells138 138)).heap[wr.heap.size]? = some (.cells Tryd.zeroCells138 138 (0, 0)) := heap_alloc_new _ _
      have e2 : (wr.alloc (.cells Tryd.zeroCells138 138)).heap.size = wr.heap.size + 1 := by simp
      have e3 : Below wr.heap.size wr (wr.alloc (.cells Tryd.zeroCells138 138)) := (Below.refl _ _).alloc (Nat.le_refl _) _
      generalize wr.alloc (.cells Tryd.zeroCells138 138) = W at *
      have HE3 := Lib.hid e3
      clear e3
      go_cut [0, 7] (fun sv okv wc => SwR l wr.heap.size W sv okv wc)
      case first =>
        by_cases c42 : c = 42
        · subst c42
          rcases Nat.eq_zero_or_pos t1.size with z0 | z0
          · have z1 : t1.toList.isEmpty = true := by rw [isEmpty_of]; simpa using z0
            have HP : Hid (partL l = some (anyP false true, bytesOf t1)) := by show _ = _; rw [HC.out, bytesOf_nil z0]; rfl
            clear HC HL HLn hC
            go_wp2_with (first
              | (go_at_call 74; refine (any_any _ _ _).mono ?_; rintro e w1 ⟨rfl, hb1⟩; have e1 : w1.heap[wr.heap.size]? = some (.cells Tryd.zeroCells138 138 (0, 0)) := (hb1.block _ (by omega)).trans e0)
              | (refine part_store rfl (.tmp 6) (.tmp 32) rfl rfl wr.heap.size (anyP false true) (by simp [Act.eval]) (by simp [Act.eval]) Tryd.zeroCells138 e1 Tryd.zeroCells138_size ?_))
            go_meet
            exact SwR.yes (below_setRow_at (hb1.mono (by omega)) (Nat.le_refl _) _) HP.out (heap_setRow_at e1)
          · have z1 : t1.toList.isEmpty = false := by rw [isEmpty_of]; exact decide_eq_false (by omega)
            have HT := bytesOf_cons t1 z0
            have z4 : 1 ≤ t1.size := z0
            have z5 : ¬ ((t1.size : Int) < 1) := by omega
            have z6 : (1 : Int) ≤ (t1.size : Int) := by omega
            by_cases z2 : t1[0].toNat = 42
            · have HP : Hid (partL l = some (anyP true true, bytesOf (t1.extract 1 t1.size))) := by show _ = _; rw [HC.out, HT, z2]; rfl
              clear HC HL HLn hC HT
              go_wp2_with (first
                | (go_at_call 74; refine (any_any _ _ _).mono ?_; rintro e w1 ⟨rfl, hb1⟩; have e1 : w1.heap[wr.heap.size]? = some (.cells Tryd.zeroCells138 138 (0, 0)) := (hb1.block _ (by omega)).trans e0)
                | (refine part_store rfl (.tmp 6) (.tmp 28) rfl rfl wr.heap.size (anyP true true) (by simp [Act.eval]) (by simp [Act.eval]) Tryd.zeroCells138 e1 Tryd.zeroCells138_size ?_))
              go_meet
              exact SwR.yes (below_setRow_at (hb1.mono (by omega)) (Nat.le_refl _) _) HP.out (heap_setRow_at e1)
            · have HP : Hid (partL l = some (anyP false true, bytesOf t1)) := by
                show _ = _
                rw [HC.out, HT]
                exact partL_star (by omega) _
              have z3 : ((t1[0].toNat : Int) == 42) = false := by simp; omega
              clear HC HL HLn hC HT
              go_wp2_with (first
                | (go_at_call 74; refine (any_any _ _ _).mono ?_; rintro e w1 ⟨rfl, hb1⟩; have e1 : w1.heap[wr.heap.size]? = some (.cells Tryd.zeroCells138 138 (0, 0)) := (hb1.block _ (by omega)).trans e0)
                | (refine part_store rfl (.tmp 6) (.tmp 32) rfl rfl wr.heap.size (anyP false true) (by simp [Act.eval]) (by simp [Act.eval]) Tryd.zeroCells138 e1 Tryd.zeroCells138_size ?_))
              go_meet
              exact SwR.yes (below_setRow_at (hb1.mono (by omega)) (Nat.le_refl _) _) HP.out (heap_setRow_at e1)
        · have d42 : ((c : Int) == 42) = false := by simp; omega
          by_cases c63 : c = 63
          · subst c63
            have HP : Hid (partL l = some (anyP false false, bytesOf t1)) := by show _ = _; rw [HC.out]; rfl
            clear HC HL HLn hC
            go_wp2_with (first
              | (go_at_call 74; refine (any_any _ _ _).mono ?_; rintro e w1 ⟨rfl, hb1⟩; have e1 : w1.heap[wr.heap.size]? = some (.cells Tryd.zeroCells138 138 (0, 0)) := (hb1.block _ (by omega)).trans e0)
              | (refine part_store rfl (.tmp 6) (.tmp 36) rfl rfl wr.heap.size (anyP false false) (by simp [Act.eval]) (by simp [Act.eval]) Tryd.zeroCells138 e1 Tryd.zeroCells138_size ?_))
            go_meet
            exact SwR.yes (below_setRow_at (hb1.mono (by omega)) (Nat.le_refl _) _) HP.out (heap_setRow_at e1)
          · have d63 : ((c : Int) == 63) = false := by simp; omega
            by_cases c91 : c = 91
            · subst c91
              have hsz : t1.size ≤ 4096 := by omega
              cases hcl : classF (bytesOf t1) with
              | none =>
                have HP : Hid (partL l = none) := by show _ = _; rw [HC.out]; exact hcl
                have HK := Lib.hid hcl
                clear HC HL HLn hC hcl
                go_wp2_with (first
                  | (go_at_call 75; refine (class_no _ _ hsz HK.out).mono ?_; rintro e w1 ⟨rfl, hb1⟩; have e1 : w1.heap[wr.heap.size]? = some (.cells Tryd.zeroCells138 138 (0, 0)) := (hb1.block _ (by omega)).trans e0)
                  | (refine part_store rfl (.tmp 6) (.tmp 43) rfl rfl wr.heap.size Part.zero (by simp [Act.eval]) (by simp [Act.eval, zero_row]) Tryd.zeroCells138 e1 Tryd.zeroCells138_size ?_))
                go_meet
                exact SwR.no (below_setRow_at (hb1.mono (by omega)) (Nat.le_refl _) _) HP.out
              | some x =>
                obtain ⟨p, r⟩ := x
                have HP : Hid (partL l = some (p, r)) := by show _ = _; rw [HC.out]; exact hcl
                have HK := Lib.hid hcl
                clear HC HL HLn hC hcl
                go_wp2_with (first
                  | (go_at_call 75; refine (class_yes _ _ hsz HK.out).mono ?_; rintro e w1 ⟨t2, ht2, rfl, hb1⟩; have HT2 := Lib.hid ht2; clear ht2; have e1 : w1.heap[wr.heap.size]? = some (.cells Tryd.zeroCells138 138 (0, 0)) := (hb1.block _ (by omega)).trans e0)
                  | (refine part_store rfl (.tmp 6) (.tmp 43) rfl rfl wr.heap.size p (by simp [Act.eval]) (by simp [Act.eval]) Tryd.zeroCells138 e1 Tryd.zeroCells138_size ?_))
                go_meet
                exact SwR.yes (below_setRow_at (hb1.mono (by omega)) (Nat.le_refl _) _) (by rw [HT2.out]; exact HP.out) (heap_setRow_at e1)
            · have d91 : ((c : Int) == 91) = false := by simp; omega
              by_cases c92 : c = 92
              · subst c92
                have pl : plainF ((92 : Nat) : Int) = false := by decide
                rcases Nat.eq_zero_or_pos t1.size with z0 | z0
                · have z1 : t1.toList.isEmpty = true := by rw [isEmpty_of]; simpa using z0
                  have HP : Hid (partL l = none) := by show _ = _; rw [HC.out, bytesOf_nil z0]; rfl
                  clear HC HL HLn hC
                  go_wp2_with (go_at_call 76; refine (plain_any _ _).mono ?_; rintro e w1 ⟨rfl, rfl⟩)
                  go_meet
                  exact SwR.no (Below.refl _ _) HP.out
                · have z1 : t1.toList.isEmpty = false := by rw [isEmpty_of]; exact decide_eq_false (by omega)
                  have HT := bytesOf_cons t1 z0
                  have z4 : 1 ≤ t1.size := z0
                  have z5 : ¬ ((t1.size : Int) < 1) := by omega
                  have z6 : (1 : Int) ≤ (t1.size : Int) := by omega
                  by_cases hsp : specialF (t1[0].toNat : Int) = true
                  · have h5 : t1[0].toNat = 42 ∨ t1[0].toNat = 63 ∨ t1[0].toNat = 91 ∨ t1[0].toNat = 93 ∨ t1[0].toNat = 92 := by
                      simp [specialF] at hsp; omega
                    have HP : Hid (partL l = some (oneP t1[0].toNat, bytesOf (t1.extract 1 t1.size))) := by show _ = _; rw [HC.out, HT]; exact partL_esc hsp _
                    clear HC HL HLn hC HT hsp
                    rcases h5 with h5 | h5 | h5 | h5 | h5
                    all_goals rw [h5] at HP
                    · have f0 : PartAt W wr.heap.size ⟨fun _ => false, false⟩ := by
                        show _ = _
                        rw [show (⟨fun _ => false, false⟩ : Part).row = Tryd.zeroCells138 from zero_row.symm]
                        exact e0
                      have f1 := f0.frozen 42
                      have f2 := f0.at (i := 42) (by omega)
                      have f3 : Hid (PartAt (W.setCell ⟨wr.heap.size, 42, none⟩ (.bool true)) wr.heap.size (oneP 42)) := by
                        have := f0.set (i := 42) (by omega) true
                        rw [show (⟨upd (⟨fun _ => false, false⟩ : Part).has 42 true, (⟨fun _ => false, false⟩ : Part).many⟩ : Part) = oneP 42 from upd_one 42] at this
                        exact this
                      have f4 : Hid (Below wr.heap.size W (W.setCell ⟨wr.heap.size, 42, none⟩ (.bool true))) := (Below.refl wr.heap.size W).setCell (p := ⟨wr.heap.size, 42, none⟩) (Nat.le_refl _) _
                      have x5 : (42 : Int) < 256 := by omega
                      have x6 : (0 : Int) ≤ (42 : Int) := by omega
                      clear f0
                      go_wp2_with fail
                      go_meet
                      exact SwR.yes f4.out HP.out f3.out
                    · have f0 : PartAt W wr.heap.size ⟨fun _ => false, false⟩ := by
                        show _ = _
                        rw [show (⟨fun _ => false, false⟩ : Part).row = Tryd.zeroCells138 from zero_row.symm]
                        exact e0
                      have f1 := f0.frozen 63
                      have f2 := f0.at (i := 63) (by omega)
                      have f3 : Hid (PartAt (W.setCell ⟨wr.heap.size, 63, none⟩ (.bool true)) wr.heap.size (oneP 63)) := by
                        have := f0.set (i := 63) (by omega) true
                        rw [show (⟨upd (⟨fun _ => false, false⟩ : Part).has 63 true, (⟨fun _ => false, false⟩ : Part).many⟩ : Part) = oneP 63 from upd_one 63] at this
                        exact this
                      have f4 : Hid (Below wr.heap.size W (W.setCell ⟨wr.heap.size, 63, none⟩ (.bool true))) := (Below.refl wr.heap.size W).setCell (p := ⟨wr.heap.size, 63, none⟩) (Nat.le_refl _) _
                      have x5 : (63 : Int) < 256 := by omega
                      have x6 : (0 : Int) ≤ (63 : Int) := by omega
                      clear f0
                      go_wp2_with fail
                      go_meet
                      exact SwR.yes f4.out HP.out f3.out
                    · have f0 : PartAt W wr.heap.size ⟨fun _ => false, false⟩ := by
                        show _ = _
                        rw [show (⟨fun _ => false, false⟩ : Part).row = Tryd.zeroCells138 from zero_row.symm]
                        exact e0
                      have f1 := f0.frozen 91
                      have f2 := f0.at (i := 91) (by omega)
                      have f3 : Hid (PartAt (W.setCell ⟨wr.heap.size, 91, none⟩ (.bool true)) wr.heap.size (oneP 91)) := by
                        have := f0.set (i := 91) (by omega) true
                        rw [show (⟨upd (⟨fun _ => false, false⟩ : Part).has 91 true, (⟨fun _ => false, false⟩ : Part).many⟩ : Part) = oneP 91 from upd_one 91] at this
                        exact this
                      have f4 : Hid (Below wr.heap.size W (W.setCell ⟨wr.heap.size, 91, none⟩ (.bool true))) := (Below.refl wr.heap.size W).setCell (p := ⟨wr.heap.size, 91, none⟩) (Nat.le_refl _) _
                      have x5 : (91 : Int) < 256 := by omega
                      have x6 : (0 : Int) ≤ (91 : Int) := by omega
                      clear f0
                      go_wp2_with fail
                      go_meet
                      exact SwR.yes f4.out HP.out f3.out
                    · have f0 : PartAt W wr.heap.size ⟨fun _ => false, false⟩ := by
                        show _ = _
                        rw [show (⟨fun _ => false, false⟩ : Part).row = Tryd.zeroCells138 from zero_row.symm]
                        exact e0
                      have f1 := f0.frozen 93
                      have f2 := f0.at (i := 93) (by omega)
                      have f3 : Hid (PartAt (W.setCell ⟨wr.heap.size, 93, none⟩ (.bool true)) wr.heap.size (oneP 93)) := by
                        have := f0.set (i := 93) (by omega) true
                        rw [show (⟨upd (⟨fun _ => false, false⟩ : Part).has 93 true, (⟨fun _ => false, false⟩ : Part).many⟩ : Part) = oneP 93 from upd_one 93] at this
                        exact this
                      have f4 : Hid (Below wr.heap.size W (W.setCell ⟨wr.heap.size, 93, none⟩ (.bool true))) := (Below.refl wr.heap.size W).setCell (p := ⟨wr.heap.size, 93, none⟩) (Nat.le_refl _) _
                      have x5 : (93 : Int) < 256 := by omega
                      have x6 : (0 : Int) ≤ (93 : Int) := by omega
                      clear f0
                      go_wp2_with fail
                      go_meet
                      exact SwR.yes f4.out HP.out f3.out
                    · have f0 : PartAt W wr.heap.size ⟨fun _ => false, false⟩ := by
                        show _ = _
                        rw [show (⟨fun _ => false, false⟩ : Part).row = Tryd.zeroCells138 from zero_row.symm]
                        exact e0
                      have f1 := f0.frozen 92
                      have f2 := f0.at (i := 92) (by omega)
                      have f3 : Hid (PartAt (W.setCell ⟨wr.heap.size, 92, none⟩ (.bool true)) wr.heap.size (oneP 92)) := by
                        have := f0.set (i := 92) (by omega) true
                        rw [show (⟨upd (⟨fun _ => false, false⟩ : Part).has 92 true, (⟨fun _ => false, false⟩ : Part).many⟩ : Part) = oneP 92 from upd_one 92] at this
                        exact this
                      have f4 : Hid (Below wr.heap.size W (W.setCell ⟨wr.heap.size, 92, none⟩ (.bool true))) := (Below.refl wr.heap.size W).setCell (p := ⟨wr.heap.size, 92, none⟩) (Nat.le_refl _) _
                      have x5 : (92 : Int) < 256 := by omega
                      have x6 : (0 : Int) ≤ (92 : Int) := by omega
                      clear f0
                      go_wp2_with fail
                      go_meet
                      exact SwR.yes f4.out HP.out f3.out
                  · have HP : Hid (partL l = none) := by show _ = _; rw [HC.out, HT]; exact partL_noesc (by simpa using hsp) _
                    have q1 : ((t1[0].toNat : Int) == 42) = false := by simp [specialF] at hsp ⊢; omega
                    have q2 : ((t1[0].toNat : Int) == 63) = false := by simp [specialF] at hsp ⊢; omega
                    have q3 : ((t1[0].toNat : Int) == 91) = false := by simp [specialF] at hsp ⊢; omega
                    have q4 : ((t1[0].toNat : Int) == 93) = false := by simp [specialF] at hsp ⊢; omega
                    have q5 : ((t1[0].toNat : Int) == 92) = false := by simp [specialF] at hsp ⊢; omega
                    clear HC HL HLn hC HT hsp
                    go_wp2_with (go_at_call 76; refine (plain_any _ _).mono ?_; rintro e w1 ⟨rfl, rfl⟩)
                    go_meet
                    exact SwR.no (Below.refl _ _) HP.out
              · have d92 : ((c : Int) == 92) = false := by simp; omega
                cases pl : plainF (c : Int) with
                | false =>
                  have HP : Hid (partL l = none) := by show _ = _; rw [HC.out]; exact partL_bad (by omega) (by omega) (by omega) (by omega) pl _
                  clear HC HL HLn hC
                  go_wp2_with (go_at_call 76; refine (plain_any _ _).mono ?_; rintro e w1 ⟨rfl, rfl⟩)
                  go_meet
                  exact SwR.no (Below.refl _ _) HP.out
                | true =>
                  have HP : Hid (partL l = some (oneP c, bytesOf t1)) := by show _ = _; rw [HC.out]; exact partL_plain (by omega) (by omega) (by omega) (by omega) pl _
                  have c255 : c < 256 := by have := t'[0].toNat_lt; omega
                  clear HC HL HLn hC
                  have f0 : PartAt W wr.heap.size ⟨fun _ => false, false⟩ := by
                    show _ = _
                    rw [show (⟨fun _ => false, false⟩ : Part).row = Tryd.zeroCells138 from zero_row.symm]
                    exact e0
                  have f1 := f0.frozen c
                  have f2 := f0.at (i := c) (by omega)
                  have f3 : Hid (PartAt (W.setCell ⟨wr.heap.size, c, none⟩ (.bool true)) wr.heap.size (oneP c)) := by
                    have := f0.set (i := c) (by omega) true
                    rw [show (⟨upd (⟨fun _ => false, false⟩ : Part).has c true, (⟨fun _ => false, false⟩ : Part).many⟩ : Part) = oneP c from upd_one c] at this
                    exact this
                  have f4 : Hid (Below wr.heap.size W (W.setCell ⟨wr.heap.size, c, none⟩ (.bool true))) := (Below.refl wr.heap.size W).setCell (p := ⟨wr.heap.size, c, none⟩) (Nat.le_refl _) _
                  have x5 : (c : Int) < 256 := by omega
                  have x6 : (0 : Int) ≤ (c : Int) := by omega
                  clear f0
                  go_wp2_with (go_at_call 76; refine (plain_any _ _).mono ?_; rintro e w1 ⟨rfl, rfl⟩)
                  go_meet
                  exact SwR.yes f4.out HP.out f3.out
      case rest =>
        have HCU := Lib.hid hcut
        clear hcut
        cases hp : partL l with
        | none =>
          have h7 : u7 = .bool false := by have := HCU.out; unfold SwR at this; rw [hp] at this; exact this.2
          have hF : Hid (partsF (bytesOf s) = none) := by
            show _ = _
            rw [← hC.out, partsF_cons HLn.out, hp]; rfl
          have hbc : Below wr.heap.size W wc := HCU.out.1
          subst h7
          go_wp2_with fail
          go_ret2
          refine ⟨?_, hb.trans ((HE3.out.trans hbc).mono hb.size)⟩
          unfold PartsR
          rw [hF.out]
          rfl
        | some x =>
          obtain ⟨p, r⟩ := x
          obtain ⟨t2, h0', ht2, h7, hpa⟩ : ∃ t2 : ByteArray, u0 = .string t2 ∧ bytesOf t2 = r ∧ u7 = .bool true ∧ PartAt wc wr.heap.size p := by have := HCU.out; unfold SwR at this; rw [hp] at this; exact this.2
          have hbc : Below wr.heap.size W wc := HCU.out.1
          have hlen := HL.out p r hp
          rw [← ht2, bytesOf_length] at hlen
          obtain ⟨hlen, hlen2⟩ := hlen
          have hF : Hid ((partsF (bytesOf t2)).map ((ps ++ [p]) ++ ·) = partsF (bytesOf s)) := by
            show _ = _
            rw [← hC.out, partsF_cons HLn.out, hp, ← ht2]
            simp only [Option.bind_some]
            cases partsF (bytesOf t2) <;> simp
          have HT := Lib.hid ht2
          have HA := Lib.hid hpa.all
          have hown2 : Hid (wc.ownsRow w.heap.size 138 257 u4 ps.length (flatP ps)) := own_below HO.out (HE3.out.trans hbc) (Nat.le_refl _)
          have hbw : Below w.heap.size w wc := hb.trans ((HE3.out.trans hbc).mono hb.size)
          have hwc : wr.heap.size + 1 ≤ wc.heap.size := by have := hbc.size; omega
          have hbs := hb.size
          obtain ⟨R, hR⟩ : ∃ R, Hid (p.row = R) := ⟨_, rfl⟩
          have hRs : R.size = 257 := by rw [← hR.out]; exact p.row_size
          have hR1 : Hid (∀ u ∈ R.toList, u.oneCell' = true) := by rw [← hR.out]; exact p.row_ones
          have hnews : Hid (∀ (j : Nat) (u : Value), R.toList[j]? = some u → (wc.alloc (.cells R 138)).cell? ((⟨wc.heap.size, 0, none⟩ : Addr).add j) = some u) := by
            intro j u hu
            rw [add_plain, cell_of_row _ _ _ _ _ _ (heap_alloc_new _ _)]
            simpa using hu
          rw [hR.out] at HA
          clear hC HL ht2 hp HCU hpa HO
          subst h0' h7
          go_upto_region 24 with fail
          refine wp_region_lit ?_
          refine list_move rfl _ u4 (.inl rfl) rfl (some 92) rfl ?_
          simp only [Act.put, List.setIfInBounds_toArray, List.set_cons_zero, List.set_cons_succ]
          refine row_load rfl (.tmp 6) rfl (some 93) rfl ⟨wr.heap.size, 0, none⟩ rfl p R hR.out HA.out ?_
          simp only [Act.put, List.setIfInBounds_toArray, List.set_cons_zero, List.set_cons_succ]
          refine row_slice rfl (.tmp 93) rfl R hRs rfl (some 94) rfl ?_
          simp only [Act.put, List.setIfInBounds_toArray, List.set_cons_zero, List.set_cons_succ]
          refine wpList_append_own _ rfl (.tmp 92) (.tmp 94) _ rfl w.heap.size 138 i0 _ 257 257 Tryd.underlying126 hi hz0 hz1 hz2 Tryd.zeroCells138_size (by omega) u4 ps.length (flatP ps) rfl (hown2.out.alloc _) ⟨wc.heap.size, 0, none⟩ 1 1 R.toList rfl (by simpa using hRs) hnews.out hR1.out (by unfold maxLen; omega) (by omega) (by simp; omega) ?_
          intro v' w1 hown3 hgrow _
          simp only [Act.put, List.setIfInBounds_toArray, List.set_cons_zero, List.set_cons_succ]
          refine list_move rfl _ v' (.inr rfl) rfl (some 4) rfl ?_
          simp only [Act.put, List.setIfInBounds_toArray, List.set_cons_zero, List.set_cons_succ]
          refine wpList_nil ?_
          have hb4 : Below w.heap.size w w1 := (hbw.alloc (by omega) _).grown hgrow (by simp; omega) (own_ge' hown2.out)
          have hown5 : w1.ownsRow w.heap.size 138 257 v' (ps ++ [p]).length (flatP (ps ++ [p])) := by
            rw [flatP_snoc, hR.out]
            simpa using hown3
          have hown4 := Lib.hid hown5
          clear hown5
          clear hown3 hgrow hnews hR1 HA hown2
          go_wp2_with fail
          go_roundw
          case rel => exact ⟨t2, ps ++ [p], rfl, by simp; omega, hown4.out, hb4, hF⟩
          case measure => simp [strLen]; omega

end Go.Proofs.YtmgngapkgcofnabDoor
/- glob.Check and glob.Match: the walks. -/
namespace Go.Proofs.YtmgngapkgcofnabDoor
open Go.RowKit

theorem parts_yes (s : ByteArray) (w : World) (hs : s.size ≤ 4096) {ps : List Part} (h : partsF (bytesOf s) = some ps) :
    Calls Tryd.prog 62 #[.string s] w fun e w' => ∃ v, e = .returned (.tuple #[v, .bool true]) ∧ w'.ownsRow w.heap.size 138 257 v ps.length (flatP ps) ∧ Below w.heap.size w w' :=
  (parts_any s w hs).mono fun e w' ⟨h1, h2⟩ => by
    unfold PartsR at h1
    rw [h] at h1
    obtain ⟨v, h3, h4⟩ := h1
    exact ⟨v, h3, h4, h2⟩
theorem parts_no (s : ByteArray) (w : World) (hs : s.size ≤ 4096) (h : partsF (bytesOf s) = none) :
    Calls Tryd.prog 62 #[.string s] w fun e w' => e = .returned (.tuple #[.slice none 0 0, .bool false]) ∧ Below w.heap.size w w' :=
  (parts_any s w hs).mono fun e w' ⟨h1, h2⟩ => by
    unfold PartsR at h1
    rw [h] at h1
    exact ⟨h1, h2⟩

set_option maxHeartbeats 1000000 in
theorem globCheck_any (p : ByteArray) (w : World) (hsB : p.size ≤ 100000) :
    Calls Tryd.prog 46 #[.string p] w fun e w' => e = .returned (errV (globF (bytesOf p))) ∧ Below w.heap.size w w' := by
  by_cases h24 : 24 < p.size
  · have HF : Hid (globF (bytesOf p) = 2) := by show _ = _; unfold globF; rw [bytesOf_length, if_pos h24]
    have k : (24 : Int) < (p.size : Int) := by omega
    clear h24
    go_enter Tryd.func46, Tryd.ntmps46
    go_wp2_with fail
    go_ret
    exact ⟨by rw [HF.out]; rfl, Below.refl _ _⟩
  · have hs : p.size ≤ 4096 := by omega
    have k : ¬ (24 : Int) < (p.size : Int) := by omega
    rcases Nat.eq_zero_or_pos p.size with h0 | h0
    · have y1 : p.toList.isEmpty = true := by rw [isEmpty_of]; simpa using h0
      have HF : Hid (globF (bytesOf p) = 4) := by show _ = _; unfold globF; rw [bytesOf_length, if_neg h24, if_pos (bytesOf_nil h0)]
      have hp : Hid (partsF (bytesOf p) = some []) := by show _ = _; rw [bytesOf_nil h0]; rfl
      clear h24 h0
      go_enter Tryd.func46, Tryd.ntmps46
      go_wp2_with (go_at_call 62; refine (parts_yes _ _ hs hp.out).mono ?_; rintro e w1 ⟨v, rfl, hown, hb⟩; have hown2 := Lib.hid hown; clear hown)
      go_ret
      exact ⟨by rw [HF.out]; rfl, hb⟩
    · have y1 : p.toList.isEmpty = false := by rw [isEmpty_of]; exact decide_eq_false (by omega)
      have hne : bytesOf p ≠ [] := by intro h; have := bytesOf_length p; rw [h] at this; simp at this; omega
      cases hp : partsF (bytesOf p) with
      | none =>
        have HF : Hid (globF (bytesOf p) = 4) := by show _ = _; unfold globF; rw [bytesOf_length, if_neg h24, if_neg hne, hp]
        have HP := Lib.hid hp
        clear h24 h0 hp hne
        go_enter Tryd.func46, Tryd.ntmps46
        go_wp2_with (go_at_call 62; refine (parts_no _ _ hs HP.out).mono ?_; rintro e w1 ⟨rfl, hb⟩)
        go_ret
        exact ⟨by rw [HF.out]; rfl, hb⟩
      | some ps =>
        have HF : Hid (globF (bytesOf p) = 0) := by show _ = _; unfold globF; rw [bytesOf_length, if_neg h24, if_neg hne, hp]
        have HP := Lib.hid hp
        clear h24 h0 hp hne
        go_enter Tryd.func46, Tryd.ntmps46
        go_wp2_with (go_at_call 62; refine (parts_yes _ _ hs HP.out).mono ?_; rintro e w1 ⟨v, rfl, hown, hb⟩; have hown2 := Lib.hid hown; clear hown)
        go_ret
        exact ⟨by rw [HF.out]; rfl, hb⟩

/-- The byte at a place. -/
def byteN (s : ByteArray) (j : Nat) : Nat := if h : j < s.size then s[j].toNat else 0
/-- What Match answers. -/
def matchB (p s : ByteArray) : Bool := if globF (bytesOf p) ≠ 0 then false else match partsF (bytesOf p) with
  | none => false
  | some l => Mk l (byteN s) l.length s.size
theorem matchB_some {p s : ByteArray} {l : List Part} (h0 : globF (bytesOf p) = 0) (h : partsF (bytesOf p) = some l) : matchB p s = Mk l (byteN s) l.length s.size := by
  unfold matchB; rw [if_neg (by rw [h0]; simp), h]
theorem globF_parts {l : List Int} (h : globF l = 0) : ∃ ps, partsF l = some ps ∧ l.length ≤ 24 ∧ l ≠ [] := by
  unfold globF at h
  split at h
  · simp at h
  · split at h
    · simp at h
    · cases hp : partsF l with
      | none => rw [hp] at h; simp at h
      | some ps => exact ⟨ps, rfl, by omega, by assumption⟩
theorem partsL_length : ∀ (n : Nat) (l : List Int) (ps : List Part), partsL n l = some ps → ps.length ≤ l.length := by
  intro n
  induction n with
  | zero => intro l ps h; rcases l with _ | ⟨c, r⟩ <;> simp [partsL] at h; subst h; simp
  | succ n ih =>
    intro l ps h
    rcases l with _ | ⟨c, r⟩
    · simp [partsL] at h; subst h; simp
    · simp only [partsL] at h
      cases hp : partL (c :: r) with
      | none => simp [hp] at h
      | some x =>
        simp only [hp, Option.bind_some, Option.map_eq_some_iff] at h
        obtain ⟨qs, h1, rfl⟩ := h
        have := ih _ _ h1
        have := partL_len (p := x.1) (r := x.2) hp
        simp at this ⊢; omega
theorem partsF_length {l : List Int} {ps : List Part} (h : partsF l = some ps) : ps.length ≤ l.length := partsL_length _ _ _ h
theorem partsF_pos {l : List Int} {ps : List Part} (h : partsF l = some ps) (hl : l ≠ []) : 0 < ps.length := by
  rw [partsF_cons hl] at h
  cases hp : partL l with
  | none => simp [hp] at h
  | some x =>
    simp only [hp, Option.bind_some, Option.map_eq_some_iff] at h
    obtain ⟨qs, _, rfl⟩ := h
    simp

theorem flatP_at (l : List Part) (i : Nat) (p : Part) (hp : l[i]? = some p) (j : Nat) (v : Value) (hv : p.row[j]? = some v) : (flatP l)[i * 257 + j]? = some v := by
  have hj : j < 257 := by
    rw [← p.row_size]
    rcases Nat.lt_or_ge j p.row.size with h | h
    · exact h
    · simp [Array.getElem?_eq_none h] at hv
  induction l generalizing i with
  | nil => simp at hp
  | cons q l ih =>
    rcases i with _ | i
    · simp at hp; subst hp
      simp only [flatP, List.flatMap_cons, Nat.zero_mul, Nat.zero_add]
      rw [List.getElem?_append_left (by rw [Part.row_len]; exact hj)]
      simpa using hv
    · simp only [List.getElem?_cons_succ] at hp
      have := ih i hp
      simp only [flatP, List.flatMap_cons] at this ⊢
      rw [List.getElem?_append_right (by rw [Part.row_len]; omega), Part.row_len, show (i + 1) * 257 + j - 257 = i * 257 + j from by omega]
      exact this
theorem parts_of_own {w : World} {B : Nat} {v : Value} {l : List Part} (h : w.ownsRow B 138 257 v l.length (flatP l)) (hl : 0 < l.length) :
    ∃ g cap, v = .slice (some ⟨g, 0, none⟩) l.length cap ∧ B ≤ g ∧ g < w.heap.size ∧ PartsAt w g 0 l := by
  obtain ⟨h1, (⟨rfl, h2⟩ | ⟨g, cap, cur, rfl, hB, hg, h3, h4, h5, h6⟩)⟩ := h
  · omega
  · refine ⟨g, cap, rfl, hB, ?_, ?_⟩
    · rcases Nat.lt_or_ge g w.heap.size with h | h
      · exact h
      · simp [Array.getElem?_eq_none h] at hg
    · intro i p hp j v hv
      have h7 := flatP_at l i p hp j v hv
      rw [cell_of_row w _ _ _ _ _ hg, Nat.zero_add]
      rw [← h6, List.getElem?_take] at h7
      split at h7
      · simpa using h7
      · simp at h7

theorem bool_i : (Tryd.prog.info? 4).map (fun i => (i.zero, i.size, i.bytes)) = some (some (.bool false), 1, 1) := by kernel_rfl
theorem run_make_bools (w : World) (n : Nat) (hn : n ≤ 1000000) : (Instr.makeSlice 134 (.int .i64 ((n : Int) + 1)) (.int .i64 ((n : Int) + 1))).run Tryd.prog w = .ok (.slice (some ⟨w.heap.size, 0, none⟩) (n + 1) (n + 1)) (w.alloc (.cells (boolRow (n + 1) fun _ => false) 4)) := by
  obtain ⟨i0, hi, hz0, hz1, hz2⟩ := info_parts bool_i
  have := run_make w 134 4 i0 (.bool false) Tryd.underlying134 hi hz0 .i64 .i64 ((n : Int) + 1) ((n : Int) + 1) (by omega) (by omega) (by rw [hz2]; omega) (by omega)
  rw [this]
  have e : ((n : Int) + 1).toNat = n + 1 := by omega
  rw [e, hz1, Nat.mul_one]
  have e2 : madeCells (Value.bool false).cells (n + 1) = boolRow (n + 1) fun _ => false := by
    unfold madeCells boolRow
    apply Array.ext (by simp)
    intro i h1 h2
    simp [Value.cells]
    rw [Nat.mod_one]
    rfl
  rw [e2]

theorem upd_zero : upd (fun _ => false) 0 true = fun i => i == 0 := by
  funext i
  unfold upd
  by_cases h : i = 0
  · subst h; rfl
  · rw [if_neg h]; simp [h]
theorem byteN_at {s : ByteArray} {i : Nat} (h : i < s.size) : byteN s i = s[i].toNat := by simp [byteN, h]
theorem stepF_yes {l : List Part} {f : Nat → Bool} {c k : Nat} {p : Part} (h : l[k]? = some p) (h1 : f k = true) (h2 : p.has c = true) :
    stepF l f c (k + 1) = upd (upd (stepF l f c k) k (stepF l f c k k || p.many)) (k + 1) (stepF l f c k (k + 1) || !p.many) := by
  funext i
  simp only [stepF, h, h1, h2, Bool.and_self, if_true, upd]
  by_cases e : i = k
  · subst e; simp
  · rw [if_neg e]
    by_cases e2 : i = k + 1
    · subst e2; simp
    · rw [if_neg e2, if_neg e2, if_neg e]
theorem stepF_no {l : List Part} {f : Nat → Bool} {c k : Nat} {p : Part} (h : l[k]? = some p) (h1 : f k = false ∨ p.has c = false) : stepF l f c (k + 1) = stepF l f c k := by
  funext i
  simp only [stepF, h]
  rw [if_neg]
  rcases h1 with h | h <;> simp [h]
theorem bools_lt {w : World} {b n : Nat} {f : Nat → Bool} (h : BoolsAt w b n f) : b < w.heap.size := by
  rcases Nat.lt_or_ge b w.heap.size with h1 | h1
  · exact h1
  · have h2 : w.heap[b]? = some _ := h
    simp [Array.getElem?_eq_none h1] at h2
theorem stepF_above (l : List Part) (f : Nat → Bool) (c : Nat) : ∀ k i, k < i → stepF l f c k i = false := by
  intro k
  induction k with
  | zero => intro i _; rfl
  | succ k ih =>
    intro i hi
    simp only [stepF]
    split
    · exact ih i (by omega)
    · split
      · rw [if_neg (by omega), if_neg (by omega)]; exact ih i (by omega)
      · exact ih i (by omega)

set_option linter.unusedSimpArgs false in
set_option maxRecDepth 100000 in
set_option maxHeartbeats 4000000 in
theorem globMatch_any (p s : ByteArray) (w : World) (hp : p.size ≤ 4096) (hs : s.size ≤ 100000) :
    Calls Tryd.prog 54 #[.string p, .string s] w fun e w' => e = .returned (.bool (matchB p s)) ∧ Below w.heap.size w w' := by
  by_cases h0 : globF (bytesOf p) = 0
  case neg =>
    have HM : Hid (matchB p s = false) := by show _ = _; unfold matchB; rw [if_pos h0]
    have HF : Hid (errV (globF (bytesOf p)) = .iface 64 (.int .i64 (globF (bytesOf p)))) := errV_pos h0
    clear h0
    go_enter Tryd.func54, Tryd.ntmps54
    go_wp2_with (go_at_call 46; refine (globCheck_any _ _ (Nat.le_trans hp (by decide))).mono ?_; rintro e w1 ⟨rfl, hb1⟩; rw [HF.out])
    go_ret
    exact ⟨by rw [HM.out]; rfl, hb1⟩
  case pos =>
  obtain ⟨l, hl, h24, hne⟩ := globF_parts h0
  have hln := partsF_length hl
  have hpos := partsF_pos hl hne
  have hn : l.length ≤ 24 := by omega
  have HM : Hid (matchB p s = Mk l (byteN s) l.length s.size) := matchB_some h0 hl
  have HF : Hid (errV (globF (bytesOf p)) = .nilIface) := by show _ = _; rw [h0]; rfl
  have HP := Lib.hid hl
  clear h0 hl h24 hne hln
  have hmk := fun w : World => run_make_bools w l.length (by omega)
  go_enter Tryd.func54, Tryd.ntmps54
  go_upto_region 4 with (first
    | (go_at_call 46; refine (globCheck_any _ _ (Nat.le_trans hp (by decide))).mono ?_; rintro e w1 ⟨rfl, hb1⟩; rw [HF.out])
    | (go_at_call 62; refine (parts_yes _ _ hp HP.out).mono ?_; rintro e w2 ⟨v, rfl, hown, hb2⟩; have HO := Lib.hid hown; clear hown))
  obtain ⟨g, cap, rfl, hg, hg2, hPA⟩ := parts_of_own HO.out hpos
  have HPA := Lib.hid hPA
  have hb : Below w.heap.size w w2 := hb1.trans (hb2.mono hb1.size)
  clear HO hPA hb1 hb2 HP
  have m1 : BoolsAt (w2.alloc (.cells (boolRow (l.length + 1) fun _ => false) 4)) w2.heap.size (l.length + 1) (fun _ => false) := heap_alloc_new _ _
  have m2 := m1.frozen 0
  have m3 := m1.at (i := 0) (by omega)
  have m4 : Hid (BoolsAt (w2.alloc (.cells ((boolRow (l.length + 1) fun _ => false).setIfInBounds 0 (.bool true)) 4)) w2.heap.size (l.length + 1) (fun i => i == 0)) := by
    show _ = _
    rw [boolRow_set, upd_zero]
    exact heap_alloc_new _ _
  have m5 : Hid (Below w2.heap.size w2 (w2.alloc (.cells ((boolRow (l.length + 1) fun _ => false).setIfInBounds 0 (.bool true)) 4))) := (Below.refl w2.heap.size w2).alloc (Nat.le_refl _) _
  have x1 : (0 : Int) < ((l.length + 1 : Nat) : Int) := by omega
  clear m1
  have hpl : Hid (PartsAt (w2.alloc (.cells ((boolRow (l.length + 1) fun _ => false).setIfInBounds 0 (.bool true)) 4)) g 0 l) := HPA.out.below m5.out hg2
  go_wp2_with (go_at_call 68; refine (skip_any g cap w2.heap.size l (fun i => i == 0) _ hpl.out hg2 (by omega) m4.out).mono ?_; rintro e w3 ⟨rfl, hs1, hs2⟩; have M1 : Hid (BoolsAt w3 w2.heap.size (l.length + 1) (cS l (byteN s) 0)) := hs1; have M2 : Hid (Below w2.heap.size w2 w3) := m5.out.trans hs2; clear hs1 hs2)
  clear m4 m5 hpl
  go_loopw [7, 31] (fun av iv wr => ∃ i b : Nat, i ≤ s.size ∧ iv = .int .i64 i ∧ av = .slice (some ⟨b, 0, none⟩) (l.length + 1) (l.length + 1) ∧ g < b ∧ Hid (BoolsAt wr b (l.length + 1) (cS l (byteN s) i)) ∧ Hid (Below w2.heap.size w2 wr)) (fun _ iv _ => s.size - (intOf iv).toNat)
  case atStart => exact ⟨0, w2.heap.size, Nat.zero_le _, rfl, rfl, hg2, M1, M2⟩
  case round =>
    obtain ⟨i, b, hi, rfl, rfl, hgb, hB, hW⟩ := hrel
    clear M1 M2
    have hbsz : b < wr.heap.size := bools_lt hB.out
    by_cases hlt : i < s.size
    · have hbn := Lib.hid (byteN_at hlt)
      have x5 : (i : Int) < (s.size : Int) := by omega
      have x6 : (0 : Int) ≤ (i : Int) := by omega
      have hcS : Hid (cS l (byteN s) (i + 1) = skipF l (stepF l (cS l (byteN s) i) (byteN s i) l.length) l.length) := rfl
      have hc255 : s[i].toNat < 256 := s[i].toNat_lt
      rw [hbn.out] at hcS
      have hbW : Below w2.heap.size w2 (wr.alloc (.cells (boolRow (l.length + 1) fun _ => false) 4)) := hW.out.alloc hW.out.size _
      have n1 : BoolsAt (wr.alloc (.cells (boolRow (l.length + 1) fun _ => false) 4)) wr.heap.size (l.length + 1) (fun _ => false) := heap_alloc_new _ _
      have n2 : (wr.alloc (.cells (boolRow (l.length + 1) fun _ => false) 4)).heap.size = wr.heap.size + 1 := by simp
      have n3 : BoolsAt (wr.alloc (.cells (boolRow (l.length + 1) fun _ => false) 4)) b (l.length + 1) (cS l (byteN s) i) := ((((Below.refl wr.heap.size wr).alloc (Nat.le_refl _) _).block b hbsz)).trans hB.out
      have hpW := HPA.out.below hbW hg2
      go_upto_region 11 with fail
      have HbW := Lib.hid hbW
      have Hn1 := Lib.hid n1
      have Hn3 := Lib.hid n3
      have HpW := Lib.hid hpW
      clear hbW n1 n3 hpW
      generalize wr.alloc (.cells (boolRow (l.length + 1) fun _ => false) 4) = V at *
      generalize hF : cS l (byteN s) i = F at *
      clear hF
      generalize hcc : s[i].toNat = c at *
      have hgn : g < wr.heap.size := by omega
      have hNW := hW.out.size
      generalize wr.heap.size = NB at *
      go_wp2_with fail
      go_loopw [40] (fun kv wl => ∃ j : Nat, j ≤ l.length ∧ kv = .int .i64 j ∧ BoolsAt wl NB (l.length + 1) (stepF l F c j) ∧ Below NB V wl) (fun kv _ => l.length - (intOf kv).toNat)
      case atStart => exact ⟨0, Nat.zero_le _, rfl, Hn1.out, Below.refl _ _⟩
      case round =>
        obtain ⟨j, hj, rfl, hbj, hbl⟩ := hrel
        by_cases hlj : j < l.length
        · have hP : PartsAt wr g 0 l := HpW.out.below hbl hgn
          have hlq : l[j]? = some l[j] := by simp
          have HY := Lib.hid (fun h1 h2 => stepF_yes (f := F) (c := c) hlq h1 h2)
          have HN := Lib.hid (fun h1 => stepF_no (f := F) (c := c) hlq h1)
          have hz1 : stepF l F c j (j + 1) = false := stepF_above l F c j (j + 1) (by omega)
          have hc := hP j l[j] hlq
          generalize l[j] = q at *
          have hsz := hbl.size
          generalize stepF l F c j = G at *
          have x1 : (j : Int) < (l.length : Int) := by omega
          have x2 : (0 : Int) ≤ (j : Int) := by omega
          have HC : Hid (∀ k v, q.row[k]? = some v → wr.cell? ((⟨g, j * 257, none⟩ : Addr).add k) = some v) := fun k v hv => by
            rw [add_plain]; simpa using hc k v hv
          have hB2 : BoolsAt wr b (l.length + 1) F := (hbl.block b (by omega)).trans Hn3.out
          clear hc hP hlq
          obtain ⟨W2, hW2, c1, c2, c3⟩ := part_copy wr q
          have c4 : Below NB V W2 := hbl.trans (c2.mono (by omega))
          have c5 : BoolsAt W2 NB (l.length + 1) G := (c2.block NB (by omega)).trans hbj
          have c6 : BoolsAt W2 b (l.length + 1) F := (c2.block b (by omega)).trans hB2
          have c7 : W2.cell? ⟨wr.heap.size, 256, none⟩ = some (.bool q.many) := by rw [cell_of_row W2 _ _ _ _ _ c1]; exact q.row_many
          have c8 : W2.cell? ⟨wr.heap.size, c, none⟩ = some (.bool (q.has c)) := by rw [cell_of_row W2 _ _ _ _ _ c1]; exact q.row_at (by omega)
          have c9 : W2.cell? ⟨b, j, none⟩ = some (.bool (F j)) := c6.at (by omega)
          have c10 : W2.cell? ⟨NB, j, none⟩ = some (.bool (G j)) := c5.at (by omega)
          have c11 : W2.cell? ⟨NB, j + 1, none⟩ = some (.bool (G (j + 1))) := c5.at (by omega)
          have c12 := c5.frozen j
          have c13 := c5.frozen (j + 1)
          rw [hz1] at c11
          have Hc5 := Lib.hid c5
          have Hc4 := Lib.hid c4
          have HZ1 := Lib.hid hz1
          clear hbj hB2 c6 hz1
          have y1 : (c : Int) < 256 := by omega
          have y2 : (0 : Int) ≤ (c : Int) := by omega
          go_upto_region 14 with (first
            | (refine part_load rfl (.tmp 43) rfl (some 44) rfl ⟨g, j * 257, none⟩ (by simp [Act.eval]) q HC.out ?_)
            | (refine part_store rfl (.tmp 11) (.tmp 44) rfl rfl wr.heap.size q (by simp [Act.eval]) (by simp [Act.eval]) Tryd.zeroCells138 (heap_alloc_new _ _) Tryd.zeroCells138_size ?_))
          rw [hW2]
          clear hW2 HC c1 c2 c4 c5
          generalize q.row = R at *
          cases hFj : F j with
          | false =>
            rw [hFj] at c9
            have HG : Hid (BoolsAt W2 NB (l.length + 1) (stepF l F c (j + 1))) := by rw [HN.out (Or.inl hFj)]; exact Hc5.out
            clear hFj
            go_wp2_with fail
            go_roundw
            case rel => exact ⟨j + 1, by omega, by go_num, HG.out, Hc4.out⟩
            case measure => simp [intOf]; omega
          | true =>
            rw [hFj] at c9
            cases hqc : q.has c with
            | false =>
              rw [hqc] at c8
              have HG : Hid (BoolsAt W2 NB (l.length + 1) (stepF l F c (j + 1))) := by rw [HN.out (Or.inr hqc)]; exact Hc5.out
              clear hFj hqc
              go_wp2_with fail
              go_roundw
              case rel => exact ⟨j + 1, by omega, by go_num, HG.out, Hc4.out⟩
              case measure => simp [intOf]; omega
            | true =>
              rw [hqc] at c8
              have HST : Hid (stepF l F c (j + 1) = upd (upd G j (G j || q.many)) (j + 1) (!q.many)) := by
                show _ = _
                rw [HY.out hFj hqc, HZ1.out]; rfl
              clear hFj hqc
              generalize hgj : G j = gv at *
              generalize q.many = mv at *
              cases gv
              · cases mv
                · have d0 := Hc5.out.set j false
                  have d1 := d0.frozen (j + 1)
                  have d2 := d0.at (i := j + 1) (by omega)
                  have d3 : (W2.setCell ⟨NB, j, none⟩ (.bool false)).cell? ⟨wr.heap.size, 256, none⟩ = W2.cell? ⟨wr.heap.size, 256, none⟩ := World.cell?_setCell_far _ _ _ _ (by simp; omega)
                  rw [c7] at d3
                  rw [show upd G j false (j + 1) = false from by unfold upd; rw [if_neg (by omega)]; exact HZ1.out] at d2
                  have d5 : Hid (BoolsAt ((W2.setCell ⟨NB, j, none⟩ (.bool false)).setCell ⟨NB, j + 1, none⟩ (.bool true)) NB (l.length + 1) (stepF l F c (j + 1))) := by
                    rw [HST.out]; exact d0.set (j + 1) true
                  have d6 : Hid (Below NB V ((W2.setCell ⟨NB, j, none⟩ (.bool false)).setCell ⟨NB, j + 1, none⟩ (.bool true))) := (Hc4.out.setCell (p := ⟨NB, j, none⟩) (Nat.le_refl _) _).setCell (p := ⟨NB, j + 1, none⟩) (Nat.le_refl _) _
                  clear d0
                  go_upto_region 16 with fail
                  generalize W2.setCell ⟨NB, j, none⟩ (.bool false) = W3 at *
                  go_wp2_with fail
                  go_roundw
                  case rel => exact ⟨j + 1, by omega, by go_num, d5.out, d6.out⟩
                  case measure => simp [intOf]; omega
                · have d0 := Hc5.out.set j true
                  have d1 := d0.frozen (j + 1)
                  have d2 := d0.at (i := j + 1) (by omega)
                  have d3 : (W2.setCell ⟨NB, j, none⟩ (.bool true)).cell? ⟨wr.heap.size, 256, none⟩ = W2.cell? ⟨wr.heap.size, 256, none⟩ := World.cell?_setCell_far _ _ _ _ (by simp; omega)
                  rw [c7] at d3
                  rw [show upd G j true (j + 1) = false from by unfold upd; rw [if_neg (by omega)]; exact HZ1.out] at d2
                  have d5 : Hid (BoolsAt ((W2.setCell ⟨NB, j, none⟩ (.bool true)).setCell ⟨NB, j + 1, none⟩ (.bool false)) NB (l.length + 1) (stepF l F c (j + 1))) := by
                    rw [HST.out]; exact d0.set (j + 1) false
                  have d6 : Hid (Below NB V ((W2.setCell ⟨NB, j, none⟩ (.bool true)).setCell ⟨NB, j + 1, none⟩ (.bool false))) := (Hc4.out.setCell (p := ⟨NB, j, none⟩) (Nat.le_refl _) _).setCell (p := ⟨NB, j + 1, none⟩) (Nat.le_refl _) _
                  clear d0
                  go_upto_region 16 with fail
                  generalize W2.setCell ⟨NB, j, none⟩ (.bool true) = W3 at *
                  go_wp2_with fail
                  go_roundw
                  case rel => exact ⟨j + 1, by omega, by go_num, d5.out, d6.out⟩
                  case measure => simp [intOf]; omega
              · cases mv
                · have d0 := Hc5.out.set j true
                  have d1 := d0.frozen (j + 1)
                  have d2 := d0.at (i := j + 1) (by omega)
                  have d3 : (W2.setCell ⟨NB, j, none⟩ (.bool true)).cell? ⟨wr.heap.size, 256, none⟩ = W2.cell? ⟨wr.heap.size, 256, none⟩ := World.cell?_setCell_far _ _ _ _ (by simp; omega)
                  rw [c7] at d3
                  rw [show upd G j true (j + 1) = false from by unfold upd; rw [if_neg (by omega)]; exact HZ1.out] at d2
                  have d5 : Hid (BoolsAt ((W2.setCell ⟨NB, j, none⟩ (.bool true)).setCell ⟨NB, j + 1, none⟩ (.bool true)) NB (l.length + 1) (stepF l F c (j + 1))) := by
                    rw [HST.out]; exact d0.set (j + 1) true
                  have d6 : Hid (Below NB V ((W2.setCell ⟨NB, j, none⟩ (.bool true)).setCell ⟨NB, j + 1, none⟩ (.bool true))) := (Hc4.out.setCell (p := ⟨NB, j, none⟩) (Nat.le_refl _) _).setCell (p := ⟨NB, j + 1, none⟩) (Nat.le_refl _) _
                  clear d0
                  go_upto_region 16 with fail
                  generalize W2.setCell ⟨NB, j, none⟩ (.bool true) = W3 at *
                  go_wp2_with fail
                  go_roundw
                  case rel => exact ⟨j + 1, by omega, by go_num, d5.out, d6.out⟩
                  case measure => simp [intOf]; omega
                · have d0 := Hc5.out.set j true
                  have d1 := d0.frozen (j + 1)
                  have d2 := d0.at (i := j + 1) (by omega)
                  have d3 : (W2.setCell ⟨NB, j, none⟩ (.bool true)).cell? ⟨wr.heap.size, 256, none⟩ = W2.cell? ⟨wr.heap.size, 256, none⟩ := World.cell?_setCell_far _ _ _ _ (by simp; omega)
                  rw [c7] at d3
                  rw [show upd G j true (j + 1) = false from by unfold upd; rw [if_neg (by omega)]; exact HZ1.out] at d2
                  have d5 : Hid (BoolsAt ((W2.setCell ⟨NB, j, none⟩ (.bool true)).setCell ⟨NB, j + 1, none⟩ (.bool false)) NB (l.length + 1) (stepF l F c (j + 1))) := by
                    rw [HST.out]; exact d0.set (j + 1) false
                  have d6 : Hid (Below NB V ((W2.setCell ⟨NB, j, none⟩ (.bool true)).setCell ⟨NB, j + 1, none⟩ (.bool false))) := (Hc4.out.setCell (p := ⟨NB, j, none⟩) (Nat.le_refl _) _).setCell (p := ⟨NB, j + 1, none⟩) (Nat.le_refl _) _
                  clear d0
                  go_upto_region 16 with fail
                  generalize W2.setCell ⟨NB, j, none⟩ (.bool true) = W3 at *
                  go_wp2_with fail
                  go_roundw
                  case rel => exact ⟨j + 1, by omega, by go_num, d5.out, d6.out⟩
                  case measure => simp [intOf]; omega
        · obtain rfl : j = l.length := by omega
          have hpl : PartsAt wr g 0 l := HpW.out.below hbl hgn
          have hnb : NB < V.heap.size := by omega
          have HB3 : Hid (Below w2.heap.size w2 wr) := HbW.out.trans (hbl.mono (by omega))
          go_wp2_with (go_at_call 68; refine (skip_any g cap NB l _ _ hpl hgn (by omega) hbj).mono ?_; rintro e w3 ⟨rfl, hs1, hs2⟩; have M1 : Hid (BoolsAt w3 NB (l.length + 1) (cS l (byteN s) (i + 1))) := (by rw [hcS.out]; exact hs1); have M2 : Hid (Below w2.heap.size w2 w3) := HB3.out.trans (hs2.mono (by omega)); clear hs1 hs2)
          go_roundw
          case rel => exact ⟨i + 1, NB, by omega, by go_num, rfl, by omega, M1, M2⟩
          case measure => simp [intOf]; omega
    · obtain rfl : i = s.size := by omega
      have e1 := hB.out.at (i := l.length) (by omega)
      have hR : Hid (cS l (byteN s) s.size l.length = matchB p s) := by show _ = _; rw [HM.out, cS_end]
      generalize cS l (byteN s) s.size l.length = RES at *
      have y1 : (l.length : Int) < ((l.length + 1 : Nat) : Int) := by omega
      go_wp2_with fail
      go_ret
      exact ⟨ret_bool hR.out, hb.trans (hW.out.mono hb.size)⟩

end Go.Proofs.YtmgngapkgcofnabDoor
