/- glob.parts: the walk. -/
import Derived.Test.YtmgngapkgcofnabGlobClass
import Derived.Maps.AppendAt
import Derived.OwnWalk
import Derived.Deep.CutBlock
namespace Go.Proofs.Ytmgngapkgcofnab
open Go.RowKit

/-- A slice literal of one part, its cells a letter. -/
theorem row_slice {ops : Array Oper} {rest : List Oper} {o : Oper} {a : Act} {w : World} {Q : Exit → Act → World → Prop} (hg : o.guard = none) (x : Operand) (ho : o.op = .buildSlice 88 1 #[(0, x)])
    (R : Array Value) (hR : R.size = 257) (hx : a.eval x = .agg R) (d : Option Tmp) (hd : o.dst = d)
    (h : wpList Try.prog ops Q rest (a.put d (.slice (some ⟨w.heap.size, 0, none⟩) 1 1)) (w.alloc (.cells R 94))) : wpList Try.prog ops Q (o :: rest) a w := by
  subst hd
  have hi := part_info
  have hz : ((Try.prog.info? 94).bind (·.zero)) = some (.agg Try.zeroCells94) := by kernel_rfl
  cases hie : Try.prog.info? 94 with
  | none => simp [hie] at hi
  | some ie =>
    simp only [hie, Option.map_some, Option.some.injEq, Option.bind_some] at hi hz
    refine wpList_buildSlice hg _ _ 1 _ ho R ie _ Try.underlying88 hie hz (by rw [hi]; decide) (by rw [hi]; decide) ?_ h
    have := Great.fill_whole (s := 257) (by decide) [.agg R] ((Array.range (1 * 257)).map ((Value.agg Try.zeroCells94).cells[· % (Value.agg Try.zeroCells94).cells.size]!)) (by intro v hv; simp at hv; subst hv; exact hR) (by simp)
    rw [hi]
    simp only [List.map_toArray, hx, List.map_cons, List.map_nil]
    simpa [Value.cells] using this
/-- A load of a part, its cells a letter. -/
theorem row_load {ops : Array Oper} {rest : List Oper} {o : Oper} {a : Act} {w : World} {Q : Exit → Act → World → Prop} (hgd : o.guard = none) (x : Operand) (ho : o.op = .load 94 x) (dst : Option Tmp) (hdst : o.dst = dst)
    (ad : Addr) (hx : a.eval x = .pointer (some ad)) (p : Part) (R : Array Value) (hR : p.row = R) (hc : ∀ j v, R[j]? = some v → w.cell? (ad.add j) = some v)
    (h : wpList Try.prog ops Q rest (a.put dst (.agg R)) w) : wpList Try.prog ops Q (o :: rest) a w := by
  subst hR
  exact part_load hgd x ho dst hdst ad hx p hc h

/-- The cells of parts, one behind the other. -/
def flatP (l : List Part) : List Value := l.flatMap fun p => p.row.toList
theorem flatP_length (l : List Part) : (flatP l).length = l.length * 257 := by
  induction l with
  | nil => rfl
  | cons p l ih => simp only [flatP, List.flatMap_cons, List.length_append, List.length_cons] at ih ⊢; rw [ih]; simp [Part.row_size]; omega
theorem flatP_snoc (l : List Part) (p : Part) : flatP (l ++ [p]) = flatP l ++ p.row.toList := by simp [flatP]

theorem part_i : (Try.prog.info? 94).map (fun i => (i.zero, i.size, i.bytes)) = some (some (.agg Try.zeroCells94), 257, 257) := by kernel_rfl
theorem own_ge' {w : World} {B : Nat} {e : TypeId} {sz n : Nat} {v : Value} {xs : List Value} (h : w.ownsRow B e sz v n xs) : ∀ k, v.ownBlock = some k → B ≤ k := by
  obtain ⟨_, (⟨rfl, _⟩ | ⟨g, cap, cur, rfl, hB, _⟩)⟩ := h
  · intro k h; simp [Value.ownBlock] at h
  · intro k h; simp [Value.ownBlock] at h; omega
theorem own_below {w w' : World} {B H : Nat} {e : TypeId} {sz n : Nat} {v : Value} {xs : List Value} (h : w.ownsRow B e sz v n xs) (hb : Below H w w') (hH : w.heap.size ≤ H) : w'.ownsRow B e sz v n xs := by
  obtain ⟨h1, (⟨rfl, h2⟩ | ⟨g, cap, cur, rfl, hB, hg, h3⟩)⟩ := h
  · exact ⟨h1, .inl ⟨rfl, h2⟩⟩
  · have hlt : g < w.heap.size := by
      rcases Nat.lt_or_ge g w.heap.size with h | h
      · exact h
      · simp [Array.getElem?_eq_none h] at hg
    exact ⟨h1, .inr ⟨g, cap, cur, rfl, hB, (hb.block g (by omega)).trans hg, h3⟩⟩

/-- What parts answers. -/
def PartsR (l : List Int) (B : Nat) (e : Ending) (w' : World) : Prop := match partsF l with
  | some ps => ∃ v, e = .returned (.tuple #[v, .bool true]) ∧ w'.ownsRow B 94 257 v ps.length (flatP ps)
  | none => e = .returned (.tuple #[.slice none 0 0, .bool false])
theorem partsF_nil : partsF [] = some [] := rfl
theorem partsF_cons {l : List Int} (h : l ≠ []) : partsF l = (partL l).bind fun x => (partsF x.2).map (x.1 :: ·) := by
  rw [partsF_eq, partsP_cons h]
  cases partL l with
  | none => rfl
  | some x =>
    simp only [Option.bind_some]
    rw [partsF_eq]
    cases partsP x.2 <;> rfl
theorem partL_star {x : Int} (h : x ≠ 42) (r : List Int) : partL (((42 : Nat) : Int) :: x :: r) = some (anyP false true, x :: r) := by
  simp only [partL]
  split
  · split
    · rename_i e; simp at e; exact (h e.1).elim
    · rfl
  · rename_i e; exact (e rfl).elim
theorem partL_esc {x : Nat} (h : specialF (x : Int) = true) (r : List Int) : partL (((92 : Nat) : Int) :: (x : Int) :: r) = some (oneP x, r) := by
  simp [partL, h]
theorem partL_noesc {x : Int} (h : specialF x = false) (r : List Int) : partL (((92 : Nat) : Int) :: x :: r) = none := by
  simp [partL, h]
theorem partL_plain {c : Int} (h1 : c ≠ 42) (h2 : c ≠ 63) (h3 : c ≠ 91) (h4 : c ≠ 92) (h : plainF c = true) (r : List Int) : partL (c :: r) = some (oneP c, r) := by
  simp [partL, h1, h2, h3, h4, h]
theorem partL_bad {c : Int} (h1 : c ≠ 42) (h2 : c ≠ 63) (h3 : c ≠ 91) (h4 : c ≠ 92) (h : plainF c = false) (r : List Int) : partL (c :: r) = none := by
  simp [partL, h1, h2, h3, h4, h]
theorem upd_one (c : Nat) : (⟨upd (⟨fun _ => false, false⟩ : Part).has c true, (⟨fun _ => false, false⟩ : Part).many⟩ : Part) = oneP c := by
  unfold oneP upd
  congr 1
  funext i
  by_cases h : i = c
  · subst h; simp
  · rw [if_neg h]; simp; omega
theorem class_yes (s : ByteArray) (w : World) (hs : s.size ≤ 4096) {p : Part} {r : List Int} (h : classF (bytesOf s) = some (p, r)) :
    Calls Try.prog 33 #[.string s] w fun e w' => ∃ t : ByteArray, bytesOf t = r ∧ e = .returned (.tuple #[.agg p.row, .string t, .bool true]) ∧ Below w.heap.size w w' :=
  (class_any s w hs).mono fun e w' ⟨h1, h2⟩ => by
    unfold ClassR at h1
    rw [h] at h1
    obtain ⟨t, h3, h4⟩ := h1
    exact ⟨t, h3, h4, h2⟩
theorem class_no (s : ByteArray) (w : World) (hs : s.size ≤ 4096) (h : classF (bytesOf s) = none) :
    Calls Try.prog 33 #[.string s] w fun e w' => e = .returned (.tuple #[.agg Part.zero.row, .string ⟨#[]⟩, .bool false]) ∧ Below w.heap.size w w' :=
  (class_any s w hs).mono fun e w' ⟨h1, h2⟩ => by
    unfold ClassR at h1
    rw [h] at h1
    exact ⟨h1, h2⟩

/-- What the switch leaves. -/
def SwR (l : List Int) (g : Nat) (W : World) (sv okv : Value) (wc : World) : Prop := Below g W wc ∧ match partL l with
  | some (p, r) => ∃ t2 : ByteArray, sv = .string t2 ∧ bytesOf t2 = r ∧ okv = .bool true ∧ PartAt wc g p
  | none => okv = .bool false
theorem SwR.yes {l : List Int} {g : Nat} {W : World} {t2 : ByteArray} {wc : World} {p : Part} (hb : Below g W wc) (h : partL l = some (p, bytesOf t2)) (hp : PartAt wc g p) : SwR l g W (.string t2) (.bool true) wc := by
  unfold SwR; rw [h]; exact ⟨hb, t2, rfl, rfl, rfl, hp⟩
theorem SwR.no {l : List Int} {g : Nat} {W : World} {sv : Value} {wc : World} (hb : Below g W wc) (h : partL l = none) : SwR l g W sv (.bool false) wc := by
  unfold SwR; rw [h]; exact ⟨hb, rfl⟩

set_option linter.unusedSimpArgs false in
set_option maxRecDepth 100000 in
set_option maxHeartbeats 4000000 in
theorem parts_any (s : ByteArray) (w : World) (hs : s.size ≤ 4096) :
    Calls Try.prog 30 #[.string s] w fun e w' => PartsR (bytesOf s) w.heap.size e w' ∧ Below w.heap.size w w' := by
  have hPR : Hid (∀ e w', PartsR (bytesOf s) w.heap.size e w' = PartsR (bytesOf s) w.heap.size e w') := fun _ _ => rfl
  obtain ⟨i0, hi, hz0, hz1, hz2⟩ := info_parts part_i
  go_enter Try.func30, Try.ntmps30
  go_wp2_with fail
  go_loopw [0, 4] (fun sv lv wr => ∃ (t' : ByteArray) (ps : List Part), sv = .string t' ∧ ps.length + t'.size ≤ s.size ∧ wr.ownsRow w.heap.size 94 257 lv ps.length (flatP ps) ∧ Below w.heap.size w wr ∧ Hid ((partsF (bytesOf t')).map (ps ++ ·) = partsF (bytesOf s))) (fun sv _ _ => strLen sv)
  case atStart =>
    refine ⟨s, [], rfl, by simp, World.ownsRow_nil _ _ _ _, Below.refl _ _, ?_⟩
    show _ = _
    cases partsF (bytesOf s) <;> rfl
  case round =>
    obtain ⟨t', ps, rfl, hn, hown, hb, hC⟩ := hrel
    rcases Nat.eq_zero_or_pos t'.size with h0 | h0
    · have y1 : t'.toList.isEmpty = true := by rw [isEmpty_of]; simpa using h0
      have hF : Hid (partsF (bytesOf s) = some ps) := by
        show _ = _
        rw [← hC.out, bytesOf_nil h0, partsF_nil]; simp
      clear hC
      have HO := Lib.hid hown
      clear hown
      go_wp2_with fail
      go_ret2
      refine ⟨?_, hb⟩
      unfold PartsR
      rw [hF.out]
      exact ⟨_, rfl, HO.out⟩
    · have y1 : t'.toList.isEmpty = false := by rw [isEmpty_of]; exact decide_eq_false (by omega)
      have y2 : ∃ l, Hid (bytesOf t' = l) := ⟨_, rfl⟩
      obtain ⟨l, hl⟩ := y2
      have hcons := bytesOf_cons t' h0
      have y3 := bytesOf_range t'
      rw [hl.out] at hcons y3 hC
      generalize hd : t'[0].toNat = c at *
      have hs' : ¬ ((t'.size : Int) < 1) := by omega
      have hs2 : (1 : Int) ≤ (t'.size : Int) := by omega
      have HO := Lib.hid hown
      have HC := Lib.hid hcons
      have HL : Hid (∀ p r, partL l = some (p, r) → ps.length + 1 + r.length ≤ s.size ∧ r.length < t'.size) := by
        intro p r h
        have := partL_len h
        rw [← hl.out, bytesOf_length] at this
        omega
      have HLn : Hid (l ≠ []) := by
        show _ ≠ _
        rw [hcons]; simp
      clear hown hcons
      go_upto_block 2 with fail
      have r1 : t'.size = (t'.extract 1 t'.size).size + 1 := by simp; omega
      generalize t'.extract 1 t'.size = t1 at *
      have e0 : (wr.alloc (.cells Try.zeroCells94 94)).heap[wr.heap.size]? = some (.cells Try.zeroCells94 94 (0, 0)) := heap_alloc_new _ _
      have e2 : (wr.alloc (.cells Try.zeroCells94 94)).heap.size = wr.heap.size + 1 := by simp
      have e3 : Below wr.heap.size wr (wr.alloc (.cells Try.zeroCells94 94)) := (Below.refl _ _).alloc (Nat.le_refl _) _
      generalize wr.alloc (.cells Try.zeroCells94 94) = W at *
      have HE3 := Lib.hid e3
      clear e3
      go_cut [0, 7] (fun sv okv wc => SwR l wr.heap.size W sv okv wc)
      case first =>
        by_cases c42 : c = 42
        · subst c42
          rcases Nat.eq_zero_or_pos t1.size with z0 | z0
          · have z1 : t1.toList.isEmpty = true := by rw [isEmpty_of]; simpa using z0
            have HP : Hid (partL l = some (anyP false true, bytesOf t1)) := by show _ = _; rw [HC.out, bytesOf_nil z0]; rfl
            clear HC HL HLn hC
            go_wp2_with (first
              | (go_at_call 32; refine (any_any _ _ _).mono ?_; rintro e w1 ⟨rfl, hb1⟩; have e1 : w1.heap[wr.heap.size]? = some (.cells Try.zeroCells94 94 (0, 0)) := (hb1.block _ (by omega)).trans e0)
              | (refine part_store rfl (.tmp 6) (.tmp 32) rfl rfl wr.heap.size (anyP false true) (by simp [Act.eval]) (by simp [Act.eval]) Try.zeroCells94 e1 Try.zeroCells94_size ?_))
            go_meet
            exact SwR.yes (below_setRow_at (hb1.mono (by omega)) (Nat.le_refl _) _) HP.out (heap_setRow_at e1)
          · have z1 : t1.toList.isEmpty = false := by rw [isEmpty_of]; exact decide_eq_false (by omega)
            have HT := bytesOf_cons t1 z0
            have z4 : 1 ≤ t1.size := z0
            have z5 : ¬ ((t1.size : Int) < 1) := by omega
            have z6 : (1 : Int) ≤ (t1.size : Int) := by omega
            by_cases z2 : t1[0].toNat = 42
            · have HP : Hid (partL l = some (anyP true true, bytesOf (t1.extract 1 t1.size))) := by show _ = _; rw [HC.out, HT, z2]; rfl
              clear HC HL HLn hC HT
              go_wp2_with (first
                | (go_at_call 32; refine (any_any _ _ _).mono ?_; rintro e w1 ⟨rfl, hb1⟩; have e1 : w1.heap[wr.heap.size]? = some (.cells Try.zeroCells94 94 (0, 0)) := (hb1.block _ (by omega)).trans e0)
                | (refine part_store rfl (.tmp 6) (.tmp 28) rfl rfl wr.heap.size (anyP true true) (by simp [Act.eval]) (by simp [Act.eval]) Try.zeroCells94 e1 Try.zeroCells94_size ?_))
              go_meet
              exact SwR.yes (below_setRow_at (hb1.mono (by omega)) (Nat.le_refl _) _) HP.out (heap_setRow_at e1)
            · have HP : Hid (partL l = some (anyP false true, bytesOf t1)) := by
                show _ = _
                rw [HC.out, HT]
                exact partL_star (by omega) _
              have z3 : ((t1[0].toNat : Int) == 42) = false := by simp; omega
              clear HC HL HLn hC HT
              go_wp2_with (first
                | (go_at_call 32; refine (any_any _ _ _).mono ?_; rintro e w1 ⟨rfl, hb1⟩; have e1 : w1.heap[wr.heap.size]? = some (.cells Try.zeroCells94 94 (0, 0)) := (hb1.block _ (by omega)).trans e0)
                | (refine part_store rfl (.tmp 6) (.tmp 32) rfl rfl wr.heap.size (anyP false true) (by simp [Act.eval]) (by simp [Act.eval]) Try.zeroCells94 e1 Try.zeroCells94_size ?_))
              go_meet
              exact SwR.yes (below_setRow_at (hb1.mono (by omega)) (Nat.le_refl _) _) HP.out (heap_setRow_at e1)
        · have d42 : ((c : Int) == 42) = false := by simp; omega
          by_cases c63 : c = 63
          · subst c63
            have HP : Hid (partL l = some (anyP false false, bytesOf t1)) := by show _ = _; rw [HC.out]; rfl
            clear HC HL HLn hC
            go_wp2_with (first
              | (go_at_call 32; refine (any_any _ _ _).mono ?_; rintro e w1 ⟨rfl, hb1⟩; have e1 : w1.heap[wr.heap.size]? = some (.cells Try.zeroCells94 94 (0, 0)) := (hb1.block _ (by omega)).trans e0)
              | (refine part_store rfl (.tmp 6) (.tmp 36) rfl rfl wr.heap.size (anyP false false) (by simp [Act.eval]) (by simp [Act.eval]) Try.zeroCells94 e1 Try.zeroCells94_size ?_))
            go_meet
            exact SwR.yes (below_setRow_at (hb1.mono (by omega)) (Nat.le_refl _) _) HP.out (heap_setRow_at e1)
          · have d63 : ((c : Int) == 63) = false := by simp; omega
            by_cases c91 : c = 91
            · subst c91
              have hsz : t1.size ≤ 4096 := by omega
              cases hcl : classF (bytesOf t1) with
              | none =>
                have HP : Hid (partL l = none) := by show _ = _; rw [HC.out]; exact hcl
                have HK := Lib.hid hcl
                clear HC HL HLn hC hcl
                go_wp2_with (first
                  | (go_at_call 33; refine (class_no _ _ hsz HK.out).mono ?_; rintro e w1 ⟨rfl, hb1⟩; have e1 : w1.heap[wr.heap.size]? = some (.cells Try.zeroCells94 94 (0, 0)) := (hb1.block _ (by omega)).trans e0)
                  | (refine part_store rfl (.tmp 6) (.tmp 43) rfl rfl wr.heap.size Part.zero (by simp [Act.eval]) (by simp [Act.eval, zero_row]) Try.zeroCells94 e1 Try.zeroCells94_size ?_))
                go_meet
                exact SwR.no (below_setRow_at (hb1.mono (by omega)) (Nat.le_refl _) _) HP.out
              | some x =>
                obtain ⟨p, r⟩ := x
                have HP : Hid (partL l = some (p, r)) := by show _ = _; rw [HC.out]; exact hcl
                have HK := Lib.hid hcl
                clear HC HL HLn hC hcl
                go_wp2_with (first
                  | (go_at_call 33; refine (class_yes _ _ hsz HK.out).mono ?_; rintro e w1 ⟨t2, ht2, rfl, hb1⟩; have HT2 := Lib.hid ht2; clear ht2; have e1 : w1.heap[wr.heap.size]? = some (.cells Try.zeroCells94 94 (0, 0)) := (hb1.block _ (by omega)).trans e0)
                  | (refine part_store rfl (.tmp 6) (.tmp 43) rfl rfl wr.heap.size p (by simp [Act.eval]) (by simp [Act.eval]) Try.zeroCells94 e1 Try.zeroCells94_size ?_))
                go_meet
                exact SwR.yes (below_setRow_at (hb1.mono (by omega)) (Nat.le_refl _) _) (by rw [HT2.out]; exact HP.out) (heap_setRow_at e1)
            · have d91 : ((c : Int) == 91) = false := by simp; omega
              by_cases c92 : c = 92
              · subst c92
                have pl : plainF ((92 : Nat) : Int) = false := by decide
                rcases Nat.eq_zero_or_pos t1.size with z0 | z0
                · have z1 : t1.toList.isEmpty = true := by rw [isEmpty_of]; simpa using z0
                  have HP : Hid (partL l = none) := by show _ = _; rw [HC.out, bytesOf_nil z0]; rfl
                  clear HC HL HLn hC
                  go_wp2_with (go_at_call 34; refine (plain_any _ _).mono ?_; rintro e w1 ⟨rfl, rfl⟩)
                  go_meet
                  exact SwR.no (Below.refl _ _) HP.out
                · have z1 : t1.toList.isEmpty = false := by rw [isEmpty_of]; exact decide_eq_false (by omega)
                  have HT := bytesOf_cons t1 z0
                  have z4 : 1 ≤ t1.size := z0
                  have z5 : ¬ ((t1.size : Int) < 1) := by omega
                  have z6 : (1 : Int) ≤ (t1.size : Int) := by omega
                  by_cases hsp : specialF (t1[0].toNat : Int) = true
                  · have h5 : t1[0].toNat = 42 ∨ t1[0].toNat = 63 ∨ t1[0].toNat = 91 ∨ t1[0].toNat = 93 ∨ t1[0].toNat = 92 := by
                      simp [specialF] at hsp; omega
                    have HP : Hid (partL l = some (oneP t1[0].toNat, bytesOf (t1.extract 1 t1.size))) := by show _ = _; rw [HC.out, HT]; exact partL_esc hsp _
                    clear HC HL HLn hC HT hsp
                    rcases h5 with h5 | h5 | h5 | h5 | h5
                    all_goals rw [h5] at HP
                    · have f0 : PartAt W wr.heap.size ⟨fun _ => false, false⟩ := by
                        show _ = _
                        rw [show (⟨fun _ => false, false⟩ : Part).row = Try.zeroCells94 from zero_row.symm]
                        exact e0
                      have f1 := f0.frozen 42
                      have f2 := f0.at (i := 42) (by omega)
                      have f3 : Hid (PartAt (W.setCell ⟨wr.heap.size, 42, none⟩ (.bool true)) wr.heap.size (oneP 42)) := by
                        have := f0.set (i := 42) (by omega) true
                        rw [show (⟨upd (⟨fun _ => false, false⟩ : Part).has 42 true, (⟨fun _ => false, false⟩ : Part).many⟩ : Part) = oneP 42 from upd_one 42] at this
                        exact this
                      have f4 : Hid (Below wr.heap.size W (W.setCell ⟨wr.heap.size, 42, none⟩ (.bool true))) := (Below.refl wr.heap.size W).setCell (p := ⟨wr.heap.size, 42, none⟩) (Nat.le_refl _) _
                      have x5 : (42 : Int) < 256 := by omega
                      have x6 : (0 : Int) ≤ (42 : Int) := by omega
                      clear f0
                      go_wp2_with fail
                      go_meet
                      exact SwR.yes f4.out HP.out f3.out
                    · have f0 : PartAt W wr.heap.size ⟨fun _ => false, false⟩ := by
                        show _ = _
                        rw [show (⟨fun _ => false, false⟩ : Part).row = Try.zeroCells94 from zero_row.symm]
                        exact e0
                      have f1 := f0.frozen 63
                      have f2 := f0.at (i := 63) (by omega)
                      have f3 : Hid (PartAt (W.setCell ⟨wr.heap.size, 63, none⟩ (.bool true)) wr.heap.size (oneP 63)) := by
                        have := f0.set (i := 63) (by omega) true
                        rw [show (⟨upd (⟨fun _ => false, false⟩ : Part).has 63 true, (⟨fun _ => false, false⟩ : Part).many⟩ : Part) = oneP 63 from upd_one 63] at this
                        exact this
                      have f4 : Hid (Below wr.heap.size W (W.setCell ⟨wr.heap.size, 63, none⟩ (.bool true))) := (Below.refl wr.heap.size W).setCell (p := ⟨wr.heap.size, 63, none⟩) (Nat.le_refl _) _
                      have x5 : (63 : Int) < 256 := by omega
                      have x6 : (0 : Int) ≤ (63 : Int) := by omega
                      clear f0
                      go_wp2_with fail
                      go_meet
                      exact SwR.yes f4.out HP.out f3.out
                    · have f0 : PartAt W wr.heap.size ⟨fun _ => false, false⟩ := by
                        show _ = _
                        rw [show (⟨fun _ => false, false⟩ : Part).row = Try.zeroCells94 from zero_row.symm]
                        exact e0
                      have f1 := f0.frozen 91
                      have f2 := f0.at (i := 91) (by omega)
                      have f3 : Hid (PartAt (W.setCell ⟨wr.heap.size, 91, none⟩ (.bool true)) wr.heap.size (oneP 91)) := by
                        have := f0.set (i := 91) (by omega) true
                        rw [show (⟨upd (⟨fun _ => false, false⟩ : Part).has 91 true, (⟨fun _ => false, false⟩ : Part).many⟩ : Part) = oneP 91 from upd_one 91] at this
                        exact this
                      have f4 : Hid (Below wr.heap.size W (W.setCell ⟨wr.heap.size, 91, none⟩ (.bool true))) := (Below.refl wr.heap.size W).setCell (p := ⟨wr.heap.size, 91, none⟩) (Nat.le_refl _) _
                      have x5 : (91 : Int) < 256 := by omega
                      have x6 : (0 : Int) ≤ (91 : Int) := by omega
                      clear f0
                      go_wp2_with fail
                      go_meet
                      exact SwR.yes f4.out HP.out f3.out
                    · have f0 : PartAt W wr.heap.size ⟨fun _ => false, false⟩ := by
                        show _ = _
                        rw [show (⟨fun _ => false, false⟩ : Part).row = Try.zeroCells94 from zero_row.symm]
                        exact e0
                      have f1 := f0.frozen 93
                      have f2 := f0.at (i := 93) (by omega)
                      have f3 : Hid (PartAt (W.setCell ⟨wr.heap.size, 93, none⟩ (.bool true)) wr.heap.size (oneP 93)) := by
                        have := f0.set (i := 93) (by omega) true
                        rw [show (⟨upd (⟨fun _ => false, false⟩ : Part).has 93 true, (⟨fun _ => false, false⟩ : Part).many⟩ : Part) = oneP 93 from upd_one 93] at this
                        exact this
                      have f4 : Hid (Below wr.heap.size W (W.setCell ⟨wr.heap.size, 93, none⟩ (.bool true))) := (Below.refl wr.heap.size W).setCell (p := ⟨wr.heap.size, 93, none⟩) (Nat.le_refl _) _
                      have x5 : (93 : Int) < 256 := by omega
                      have x6 : (0 : Int) ≤ (93 : Int) := by omega
                      clear f0
                      go_wp2_with fail
                      go_meet
                      exact SwR.yes f4.out HP.out f3.out
                    · have f0 : PartAt W wr.heap.size ⟨fun _ => false, false⟩ := by
                        show _ = _
                        rw [show (⟨fun _ => false, false⟩ : Part).row = Try.zeroCells94 from zero_row.symm]
                        exact e0
                      have f1 := f0.frozen 92
                      have f2 := f0.at (i := 92) (by omega)
                      have f3 : Hid (PartAt (W.setCell ⟨wr.heap.size, 92, none⟩ (.bool true)) wr.heap.size (oneP 92)) := by
                        have := f0.set (i := 92) (by omega) true
                        rw [show (⟨upd (⟨fun _ => false, false⟩ : Part).has 92 true, (⟨fun _ => false, false⟩ : Part).many⟩ : Part) = oneP 92 from upd_one 92] at this
                        exact this
                      have f4 : Hid (Below wr.heap.size W (W.setCell ⟨wr.heap.size, 92, none⟩ (.bool true))) := (Below.refl wr.heap.size W).setCell (p := ⟨wr.heap.size, 92, none⟩) (Nat.le_refl _) _
                      have x5 : (92 : Int) < 256 := by omega
                      have x6 : (0 : Int) ≤ (92 : Int) := by omega
                      clear f0
                      go_wp2_with fail
                      go_meet
                      exact SwR.yes f4.out HP.out f3.out
                  · have HP : Hid (partL l = none) := by show _ = _; rw [HC.out, HT]; exact partL_noesc (by simpa using hsp) _
                    have q1 : ((t1[0].toNat : Int) == 42) = false := by simp [specialF] at hsp ⊢; omega
                    have q2 : ((t1[0].toNat : Int) == 63) = false := by simp [specialF] at hsp ⊢; omega
                    have q3 : ((t1[0].toNat : Int) == 91) = false := by simp [specialF] at hsp ⊢; omega
                    have q4 : ((t1[0].toNat : Int) == 93) = false := by simp [specialF] at hsp ⊢; omega
                    have q5 : ((t1[0].toNat : Int) == 92) = false := by simp [specialF] at hsp ⊢; omega
                    clear HC HL HLn hC HT hsp
                    go_wp2_with (go_at_call 34; refine (plain_any _ _).mono ?_; rintro e w1 ⟨rfl, rfl⟩)
                    go_meet
                    exact SwR.no (Below.refl _ _) HP.out
              · have d92 : ((c : Int) == 92) = false := by simp; omega
                cases pl : plainF (c : Int) with
                | false =>
                  have HP : Hid (partL l = none) := by show _ = _; rw [HC.out]; exact partL_bad (by omega) (by omega) (by omega) (by omega) pl _
                  clear HC HL HLn hC
                  go_wp2_with (go_at_call 34; refine (plain_any _ _).mono ?_; rintro e w1 ⟨rfl, rfl⟩)
                  go_meet
                  exact SwR.no (Below.refl _ _) HP.out
                | true =>
                  have HP : Hid (partL l = some (oneP c, bytesOf t1)) := by show _ = _; rw [HC.out]; exact partL_plain (by omega) (by omega) (by omega) (by omega) pl _
                  have c255 : c < 256 := by have := t'[0].toNat_lt; omega
                  clear HC HL HLn hC
                  have f0 : PartAt W wr.heap.size ⟨fun _ => false, false⟩ := by
                    show _ = _
                    rw [show (⟨fun _ => false, false⟩ : Part).row = Try.zeroCells94 from zero_row.symm]
                    exact e0
                  have f1 := f0.frozen c
                  have f2 := f0.at (i := c) (by omega)
                  have f3 : Hid (PartAt (W.setCell ⟨wr.heap.size, c, none⟩ (.bool true)) wr.heap.size (oneP c)) := by
                    have := f0.set (i := c) (by omega) true
                    rw [show (⟨upd (⟨fun _ => false, false⟩ : Part).has c true, (⟨fun _ => false, false⟩ : Part).many⟩ : Part) = oneP c from upd_one c] at this
                    exact this
                  have f4 : Hid (Below wr.heap.size W (W.setCell ⟨wr.heap.size, c, none⟩ (.bool true))) := (Below.refl wr.heap.size W).setCell (p := ⟨wr.heap.size, c, none⟩) (Nat.le_refl _) _
                  have x5 : (c : Int) < 256 := by omega
                  have x6 : (0 : Int) ≤ (c : Int) := by omega
                  clear f0
                  go_wp2_with (go_at_call 34; refine (plain_any _ _).mono ?_; rintro e w1 ⟨rfl, rfl⟩)
                  go_meet
                  exact SwR.yes f4.out HP.out f3.out
      case rest =>
        have HCU := Lib.hid hcut
        clear hcut
        cases hp : partL l with
        | none =>
          have h7 : u7 = .bool false := by have := HCU.out; unfold SwR at this; rw [hp] at this; exact this.2
          have hF : Hid (partsF (bytesOf s) = none) := by
            show _ = _
            rw [← hC.out, partsF_cons HLn.out, hp]; rfl
          have hbc : Below wr.heap.size W wc := HCU.out.1
          subst h7
          go_wp2_with fail
          go_ret2
          refine ⟨?_, hb.trans ((HE3.out.trans hbc).mono hb.size)⟩
          unfold PartsR
          rw [hF.out]
          rfl
        | some x =>
          obtain ⟨p, r⟩ := x
          obtain ⟨t2, h0', ht2, h7, hpa⟩ : ∃ t2 : ByteArray, u0 = .string t2 ∧ bytesOf t2 = r ∧ u7 = .bool true ∧ PartAt wc wr.heap.size p := by have := HCU.out; unfold SwR at this; rw [hp] at this; exact this.2
          have hbc : Below wr.heap.size W wc := HCU.out.1
          have hlen := HL.out p r hp
          rw [← ht2, bytesOf_length] at hlen
          obtain ⟨hlen, hlen2⟩ := hlen
          have hF : Hid ((partsF (bytesOf t2)).map ((ps ++ [p]) ++ ·) = partsF (bytesOf s)) := by
            show _ = _
            rw [← hC.out, partsF_cons HLn.out, hp, ← ht2]
            simp only [Option.bind_some]
            cases partsF (bytesOf t2) <;> simp
          have HT := Lib.hid ht2
          have HA := Lib.hid hpa.all
          have hown2 : Hid (wc.ownsRow w.heap.size 94 257 u4 ps.length (flatP ps)) := own_below HO.out (HE3.out.trans hbc) (Nat.le_refl _)
          have hbw : Below w.heap.size w wc := hb.trans ((HE3.out.trans hbc).mono hb.size)
          have hwc : wr.heap.size + 1 ≤ wc.heap.size := by have := hbc.size; omega
          have hbs := hb.size
          obtain ⟨R, hR⟩ : ∃ R, Hid (p.row = R) := ⟨_, rfl⟩
          have hRs : R.size = 257 := by rw [← hR.out]; exact p.row_size
          have hR1 : Hid (∀ u ∈ R.toList, u.oneCell' = true) := by rw [← hR.out]; exact p.row_ones
          have hnews : Hid (∀ (j : Nat) (u : Value), R.toList[j]? = some u → (wc.alloc (.cells R 94)).cell? ((⟨wc.heap.size, 0, none⟩ : Addr).add j) = some u) := by
            intro j u hu
            rw [add_plain, cell_of_row _ _ _ _ _ _ (heap_alloc_new _ _)]
            simpa using hu
          rw [hR.out] at HA
          clear hC HL ht2 hp HCU hpa HO
          subst h0' h7
          go_upto_region 24 with fail
          refine wp_region_lit ?_
          refine list_move rfl _ u4 (.inl rfl) rfl (some 92) rfl ?_
          simp only [Act.put, List.setIfInBounds_toArray, List.set_cons_zero, List.set_cons_succ]
          refine row_load rfl (.tmp 6) rfl (some 93) rfl ⟨wr.heap.size, 0, none⟩ rfl p R hR.out HA.out ?_
          simp only [Act.put, List.setIfInBounds_toArray, List.set_cons_zero, List.set_cons_succ]
          refine row_slice rfl (.tmp 93) rfl R hRs rfl (some 94) rfl ?_
          simp only [Act.put, List.setIfInBounds_toArray, List.set_cons_zero, List.set_cons_succ]
          refine wpList_append_own _ rfl (.tmp 92) (.tmp 94) _ rfl w.heap.size 94 i0 _ 257 257 Try.underlying88 hi hz0 hz1 hz2 Try.zeroCells94_size (by omega) u4 ps.length (flatP ps) rfl (hown2.out.alloc _) ⟨wc.heap.size, 0, none⟩ 1 1 R.toList rfl (by simpa using hRs) hnews.out hR1.out (by unfold maxLen; omega) (by omega) (by simp; omega) ?_
          intro v' w1 hown3 hgrow _
          simp only [Act.put, List.setIfInBounds_toArray, List.set_cons_zero, List.set_cons_succ]
          refine list_move rfl _ v' (.inr rfl) rfl (some 4) rfl ?_
          simp only [Act.put, List.setIfInBounds_toArray, List.set_cons_zero, List.set_cons_succ]
          refine wpList_nil ?_
          have hb4 : Below w.heap.size w w1 := (hbw.alloc (by omega) _).grown hgrow (by simp; omega) (own_ge' hown2.out)
          have hown5 : w1.ownsRow w.heap.size 94 257 v' (ps ++ [p]).length (flatP (ps ++ [p])) := by
            rw [flatP_snoc, hR.out]
            simpa using hown3
          have hown4 := Lib.hid hown5
          clear hown5
          clear hown3 hgrow hnews hR1 HA hown2
          go_wp2_with fail
          go_roundw
          case rel => exact ⟨t2, ps ++ [p], rfl, by simp; omega, hown4.out, hb4, hF⟩
          case measure => simp [strLen]; omega

end Go.Proofs.Ytmgngapkgcofnab
