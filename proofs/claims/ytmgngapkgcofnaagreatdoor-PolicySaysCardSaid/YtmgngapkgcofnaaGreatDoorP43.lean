/- The reference's like: the walk. -/
import Derived.Test.YtmgngapkgcofnaaGreatDoorP42
import Derived.Test.YtmgngapkgcofnaaGreatDoorP41
import Derived.Test.YtmgngapkgcofnaaGreatDoorP15
import Derived.Deep.QuietTactic
import Derived.BigQuiet
namespace Go.Proofs.YtmgngapkgcofnaaGreatDoor
open Go.RowKit Go.PlainAid

/-- Is this a piece of a pattern, of this part? -/
def IsPiece (a : List Int) (P : Part) : Prop := ∃ r, partL (a ++ r) = some (P, r)
theorem partsB_pieces : ∀ (n : Nat) (l : List Int) (ps : List (List Int × Part)), partsB n l = some ps → ∀ x ∈ ps, IsPiece x.1 x.2 := by
  intro n
  induction n with
  | zero => intro l ps h; rcases l with _ | ⟨c, r⟩ <;> simp [partsB] at h; subst h; simp
  | succ n ih =>
    intro l ps h
    rcases l with _ | ⟨c, r⟩
    · simp [partsB] at h; subst h; simp
    · simp only [partsB] at h
      cases hp : partL (c :: r) with
      | none => simp [hp] at h
      | some x =>
        simp only [hp, Option.bind_some, Option.map_eq_some_iff] at h
        obtain ⟨qs, h1, rfl⟩ := h
        intro y hy
        rcases List.mem_cons.1 hy with rfl | hy
        · obtain ⟨a, ha⟩ := partL_suffix (p := x.1) (r := x.2) hp
          refine ⟨x.2, ?_⟩
          have : ((c :: r).take ((c :: r).length - x.2.length)) = a := by
            rw [ha, List.length_append, Nat.add_sub_cancel, List.take_left]
          rw [this, ← ha]; exact hp
        · exact ih _ _ h1 y hy
theorem piece_pos {a : List Int} {P : Part} (h : IsPiece a P) : 0 < a.length := by
  obtain ⟨r, hr⟩ := h
  have := partL_len hr
  rw [List.length_append] at this
  omega
theorem piece_star {a : ByteArray} {P : Part} (h : IsPiece (bytesOf a) P) (h0 : bt a 0 = 42) : P.many = true ∧ ∀ c, P.has c = (decide (a.size = 2) || c != 47) := by
  have hp := piece_pos h
  rw [bytesOf_length] at hp
  obtain ⟨r, hr⟩ := h
  rw [← List.drop_zero (l := bytesOf a), drop_bt' r hp, h0] at hr
  generalize hl : (bytesOf a).drop 1 ++ r = l at hr
  have hll : l.length = a.size - 1 + r.length := by rw [← hl, List.length_append, List.length_drop, bytesOf_length]
  simp only [partL, if_true] at hr
  split at hr
  · rename_i r' 
    simp only [Option.some.injEq, Prod.mk.injEq] at hr
    obtain ⟨rfl, rfl⟩ := hr
    simp at hll
    refine ⟨rfl, fun c => ?_⟩
    rw [show decide (a.size = 2) = true from decide_eq_true (by omega)]
    rfl
  · simp only [Option.some.injEq, Prod.mk.injEq] at hr
    obtain ⟨rfl, rfl⟩ := hr
    refine ⟨rfl, fun c => ?_⟩
    rw [show decide (a.size = 2) = false from decide_eq_false (by omega)]
    rfl
theorem piece_plain {a : ByteArray} {P : Part} (h : IsPiece (bytesOf a) P) (h0 : bt a 0 ≠ 42) : P.many = false := by
  have hp := piece_pos h
  rw [bytesOf_length] at hp
  obtain ⟨r, hr⟩ := h
  rw [← List.drop_zero (l := bytesOf a), drop_bt' r hp] at hr
  simp only [partL, if_neg h0] at hr
  split at hr
  · simp only [Option.some.injEq, Prod.mk.injEq] at hr; rw [← hr.1]; rfl
  · split at hr
    · unfold classF at hr
      simp only [Option.map_eq_some_iff] at hr
      obtain ⟨x, _, h2⟩ := hr
      simp only [Prod.mk.injEq] at h2
      rw [← h2.1]
    · split at hr
      · split at hr
        · split at hr
          · simp only [Option.some.injEq, Prod.mk.injEq] at hr; rw [← hr.1]; rfl
          · simp at hr
        · simp at hr
      · split at hr
        · simp only [Option.some.injEq, Prod.mk.injEq] at hr; rw [← hr.1]; rfl
        · simp at hr

/-- Texts lie in a row. -/
def StrsAt (w : World) (g : Nat) (ls : List ByteArray) : Prop := ∀ i a, ls[i]? = some a → w.cell? ⟨g, i, none⟩ = some (.string a)
theorem StrsAt.below {w w' : World} {g B : Nat} {ls : List ByteArray} (h : StrsAt w g ls) (hb : Below B w w') (hB : g < B) : StrsAt w' g ls :=
  fun i a hi => (hb.cell (p := ⟨g, _, none⟩) hB).trans (h i a hi)
theorem strs_of_own {w : World} {B : Nat} {v : Value} {ls : List ByteArray} {n : Nat} (h : w.ownsRow B 9 1 v n (ls.map Value.string)) (hl : 0 < n) :
    ∃ g cap, v = .slice (some ⟨g, 0, none⟩) n cap ∧ B ≤ g ∧ g < w.heap.size ∧ StrsAt w g ls := by
  obtain ⟨h1, (⟨rfl, h2⟩ | ⟨g, cap, cur, rfl, hB, hg, h3, h4, h5, h6⟩)⟩ := h
  · omega
  · refine ⟨g, cap, rfl, hB, ?_, ?_⟩
    · rcases Nat.lt_or_ge g w.heap.size with h | h
      · exact h
      · simp [Array.getElem?_eq_none h] at hg
    · intro i a hi
      have h7 : (ls.map Value.string)[i]? = some (.string a) := by simp [hi]
      rw [cell_of_row w _ _ _ _ _ hg]
      rw [← h6, List.getElem?_take] at h7
      split at h7
      · simpa using h7
      · simp at h7

theorem nextAt_no {P : Part} {n : Nat} {sb : Nat → Nat} {A : Nat → Bool} {i : Nat} (h : A i = false ∨ (P.many = false ∧ (n ≤ i ∨ P.has (sb i) = false))) : nextAt P n sb A (i + 1) = nextAt P n sb A i := by
  funext x
  rw [nextAt]
  rcases h with h | ⟨hm, h | h⟩
  · rw [h]; simp
  · rw [hm]
    have : decide (x = i + 1 ∧ i < n) = false := decide_eq_false (by omega)
    simp [this]
  · rw [hm, h]; simp
theorem nextAt_one {P : Part} {n : Nat} {sb : Nat → Nat} {A : Nat → Bool} {i : Nat} (hA : A i = true) (hm : P.many = false) (hi : i < n) (h : P.has (sb i) = true) : nextAt P n sb A (i + 1) = upd (nextAt P n sb A i) (i + 1) true := by
  funext x
  rw [nextAt, hA, hm, h]
  unfold upd
  by_cases e : x = i + 1
  · subst e; simp [hi]
  · rw [if_neg e]; simp [e]
theorem byteN_bt (s : ByteArray) (j : Nat) : bt s j = (byteN s j : Int) := by
  unfold bt byteN
  split <;> rfl
/-- What a star has set behind its place, up to j. -/
def starK (G : Nat → Bool) (i j : Nat) : Nat → Bool := fun x => G x || decide (i ≤ x ∧ x ≤ j)
theorem starK_start (G : Nat → Bool) (i : Nat) : upd G i true = starK G i i := by
  funext x
  unfold upd starK
  by_cases e : x = i
  · subst e; simp
  · rw [if_neg e, show decide (i ≤ x ∧ x ≤ i) = false from decide_eq_false (by omega), Bool.or_false]
theorem starK_step {G : Nat → Bool} {i j : Nat} (h : i ≤ j) : upd (starK G i j) (j + 1) true = starK G i (j + 1) := by
  funext x
  unfold upd starK
  by_cases e : x = j + 1
  · subst e; rw [if_pos rfl, show decide (i ≤ j + 1 ∧ j + 1 ≤ j + 1) = true from decide_eq_true (by omega), Bool.or_true]
  · rw [if_neg e]
    have : decide (i ≤ x ∧ x ≤ j) = decide (i ≤ x ∧ x ≤ j + 1) := by rw [decide_eq_decide]; omega
    rw [this]
theorem nextAt_star {P : Part} {n : Nat} {sb : Nat → Nat} {A : Nat → Bool} {i j : Nat} (hA : A i = true) (hm : P.many = true) (hij : i ≤ j) (hj : j ≤ n) (hall : ∀ x, i ≤ x → x < j → P.has (sb x) = true) (hend : j = n ∨ P.has (sb j) = false) :
    starK (nextAt P n sb A i) i j = nextAt P n sb A (i + 1) := by
  funext x
  rw [nextAt, hA, hm, if_pos rfl, Bool.true_and]
  unfold starK
  congr 1
  rw [decide_eq_decide]
  constructor
  · rintro ⟨h1, h2⟩
    exact ⟨h1, by omega, fun y hy hy' => hall y hy' (by omega)⟩
  · rintro ⟨h1, h2, h3⟩
    refine ⟨h1, ?_⟩
    rcases Nat.lt_or_ge j x with h | h
    · rcases hend with e | e
      · omega
      · have := h3 j h hij
        rw [e] at this; simp at this
    · exact h

set_option linter.unusedSimpArgs false in
set_option maxRecDepth 100000 in
set_option maxHeartbeats 4000000 in
theorem like_any (g cap : Nat) (ls : List ByteArray) (L : List Part) (s : ByteArray) (w : World) (hn : ls.length = L.length) (hn2 : ls.length ≤ 4096) (hsz : ∀ a ∈ ls, a.size ≤ 4096) (hs : s.size ≤ 100000)
    (hpc : ∀ (k : Nat) (a : ByteArray) (P : Part), ls[k]? = some a → L[k]? = some P → IsPiece (bytesOf a) P) (hst : StrsAt w g ls) (hg : g < w.heap.size) :
    Calls Tryz.prog 68 #[.slice (some ⟨g, 0, none⟩) ls.length cap, .string s] w fun e w' => e = .returned (.bool (Mk L (byteN s) L.length s.size)) ∧ Below w.heap.size w w' := by
  have HST := Lib.hid hst
  have HPC := Lib.hid hpc
  have HSZ := Lib.hid hsz
  clear hst hpc hsz
  have hmk := fun w : World => run_make_bools w s.size (by omega)
  have m1 : BoolsAt (w.alloc (.cells (boolRow (s.size + 1) fun _ => false) 4)) w.heap.size (s.size + 1) (fun _ => false) := heap_alloc_new _ _
  have m2 := m1.frozen 0
  have m3 := m1.at (i := 0) (by omega)
  have m4 : Hid (BoolsAt (w.alloc (.cells ((boolRow (s.size + 1) fun _ => false).setIfInBounds 0 (.bool true)) 4)) w.heap.size (s.size + 1) (fun i => i == 0)) := by
    show _ = _
    rw [boolRow_set, upd_zero]
    exact heap_alloc_new _ _
  have m5 : Hid (Below w.heap.size w (w.alloc (.cells ((boolRow (s.size + 1) fun _ => false).setIfInBounds 0 (.bool true)) 4))) := (Below.refl w.heap.size w).alloc (Nat.le_refl _) _
  have x1 : (0 : Int) < ((s.size + 1 : Nat) : Int) := by omega
  have gx := get_bt s
  clear m1
  go_enter Tryz.func68, Tryz.ntmps68
  go_wp2_with fail
  go_loopw [5, 6] (fun av kv wr => ∃ (k b : Nat) (A : Nat → Bool), k ≤ ls.length ∧ kv = .int .i64 k ∧ av = .slice (some ⟨b, 0, none⟩) (s.size + 1) (s.size + 1) ∧ g < b ∧ Hid (BoolsAt wr b (s.size + 1) A) ∧ Hid (∀ x, x ≤ s.size → A x = Mk L (byteN s) k x) ∧ Hid (Below w.heap.size w wr)) (fun _ kv _ => ls.length - (intOf kv).toNat)
  case atStart => exact ⟨0, w.heap.size, _, Nat.zero_le _, rfl, rfl, hg, m4, fun x _ => rfl, m5⟩
  case round =>
    obtain ⟨k, b, A, hk, rfl, rfl, hgb, hB, hAM, hW⟩ := hrel
    clear m2 m3 m4 m5
    have hbsz : b < wr.heap.size := bools_lt hB.out
    by_cases hlt : k < ls.length
    · have hla : ls[k]? = some ls[k] := by simp
      have hLa : L[k]? = some (L[k]'(by omega)) := by simp
      have hpie := HPC.out k _ _ hla hLa
      have hcell := HST.out k _ hla
      have hasz := HSZ.out ls[k] (by simp)
      have hMk := Lib.hid (fun i => Mk_some (l := L) (sb := byteN s) (k := k) (by omega) i)
      generalize ls[k] = a at *
      generalize L[k]'(by omega) = P at *
      clear hla hLa
      have hapos : 0 < a.size := by have := piece_pos hpie; rwa [bytesOf_length] at this
      have ga := get_bt a
      have HPI := Lib.hid hpie
      clear hpie
      have hbW : Below w.heap.size w (wr.alloc (.cells (boolRow (s.size + 1) fun _ => false) 4)) := hW.out.alloc hW.out.size _
      have n1 : BoolsAt (wr.alloc (.cells (boolRow (s.size + 1) fun _ => false) 4)) wr.heap.size (s.size + 1) (fun _ => false) := heap_alloc_new _ _
      have n2 : (wr.alloc (.cells (boolRow (s.size + 1) fun _ => false) 4)).heap.size = wr.heap.size + 1 := by simp
      have n3 : BoolsAt (wr.alloc (.cells (boolRow (s.size + 1) fun _ => false) 4)) b (s.size + 1) A := ((((Below.refl wr.heap.size wr).alloc (Nat.le_refl _) _).block b hbsz)).trans hB.out
      have n4 : (wr.alloc (.cells (boolRow (s.size + 1) fun _ => false) 4)).cell? ⟨g, k, none⟩ = some (.string a) := (hbW.cell (p := ⟨g, k, none⟩) hg).trans hcell
      have x1' : (k : Int) < (ls.length : Int) := by omega
      have x2' : (0 : Int) ≤ (k : Int) := by omega
      go_upto_region 7 with fail
      have HbW := Lib.hid hbW
      have Hn1 := Lib.hid n1
      have Hn3 := Lib.hid n3
      have Hn4 := Lib.hid n4
      clear hbW n1 n3 n4 hcell
      generalize wr.alloc (.cells (boolRow (s.size + 1) fun _ => false) 4) = V at *
      have hgn : g < wr.heap.size := by omega
      have hNW := hW.out.size
      generalize wr.heap.size = NB at *
      go_wp2_with fail
      go_loopw [8] (fun iv wl => ∃ i : Nat, i ≤ s.size + 1 ∧ iv = .int .i64 i ∧ BoolsAt wl NB (s.size + 1) (nextAt P s.size (byteN s) A i) ∧ Below NB V wl) (fun iv _ => s.size + 1 - (intOf iv).toNat)
      case atStart => exact ⟨0, Nat.zero_le _, rfl, Hn1.out, Below.refl _ _⟩
      case round =>
        obtain ⟨i, hi, rfl, hbi, hbl⟩ := hrel
        by_cases hle : i ≤ s.size
        · have hb2 : BoolsAt wr b (s.size + 1) A := (hbl.block b (by omega)).trans Hn3.out
          have c1 := hb2.at (i := i) (by omega)
          have c2 : wr.cell? ⟨g, k, none⟩ = some (.string a) := (hbl.cell (p := ⟨g, k, none⟩) hgn).trans Hn4.out
          have y1 : (i : Int) ≤ (s.size : Int) := by omega
          have y2 : (0 : Int) ≤ (i : Int) := by omega
          have y3 : (i : Int) < ((s.size + 1 : Nat) : Int) := by omega
          have y4 : (0 : Int) < (a.size : Int) := by omega
          have HBI := Lib.hid hbi
          have HBL := Lib.hid hbl
          clear hb2 hbi hbl
          cases hAi : A i with
          | false =>
            rw [hAi] at c1
            have HF : Hid (BoolsAt wr NB (s.size + 1) (nextAt P s.size (byteN s) A (i + 1))) := by rw [nextAt_no (.inl hAi)]; exact HBI.out
            clear hAi
            go_wp2_with fail
            go_roundw
            case rel => exact ⟨i + 1, by omega, by go_num, HF.out, HBL.out⟩
            case measure => simp [intOf]; omega
          | true =>
            rw [hAi] at c1
            by_cases h42 : bt a 0 = 42
            · have d : (bt a 0 != 42) = false := by simpa using h42
              obtain ⟨hm, hh⟩ := piece_star HPI.out h42
              have d1 := HBI.out.frozen i
              have d2 := HBI.out.at (i := i) (by omega)
              have d3 : Hid (BoolsAt (wr.setCell ⟨NB, i, none⟩ (.bool true)) NB (s.size + 1) (starK (nextAt P s.size (byteN s) A i) i i)) := by
                rw [← starK_start]; exact HBI.out.set i true
              have d4 : Hid (Below NB V (wr.setCell ⟨NB, i, none⟩ (.bool true))) := HBL.out.setCell (p := ⟨NB, i, none⟩) (Nat.le_refl _) _
              have d5 : (wr.setCell ⟨NB, i, none⟩ (.bool true)).cell? ⟨g, k, none⟩ = some (.string a) := (World.cell?_setCell_far _ _ _ _ (by simp; omega)).trans c2
              have HA := Lib.hid hAi
              have HM := Lib.hid hm
              have HH := Lib.hid hh
              generalize hG : nextAt P s.size (byteN s) A i = G0 at *
              have HGE := Lib.hid hG
              clear hG
              clear hAi hm hh h42
              go_upto_region 15 with fail
              generalize wr.setCell ⟨NB, i, none⟩ (.bool true) = W1 at *
              have HD3 := d3
              go_wp2_with fail
              go_loopw [9] (fun jv wl => ∃ j : Nat, i ≤ j ∧ j ≤ s.size ∧ jv = .int .i64 j ∧ BoolsAt wl NB (s.size + 1) (starK G0 i j) ∧ Hid (∀ x, i ≤ x → x < j → P.has (byteN s x) = true) ∧ wl.cell? ⟨g, k, none⟩ = some (.string a) ∧ Below NB V wl) (fun jv _ => s.size - (intOf jv).toNat)
              case atStart => exact ⟨i, Nat.le_refl _, hle, rfl, d3.out, fun x h1 h2 => by omega, d5, d4.out⟩
              case round =>
                obtain ⟨j, hij, hjs, rfl, hbj, hall, hcj, hbj2⟩ := hrel
                clear d1 d2 d3 d4 d5 HD3 HBI HBL c1 c2
                have HBJ := Lib.hid hbj
                have HBJ2 := Lib.hid hbj2
                clear hbj hbj2
                have z2 : (0 : Int) ≤ (j : Int) := by omega
                have hend : Hid ((j = s.size ∨ P.has (byteN s j) = false) → BoolsAt wr NB (s.size + 1) (nextAt P s.size (byteN s) A (i + 1))) := by
                  intro h
                  rw [← nextAt_star HA.out HM.out hij hjs hall.out h, HGE.out]
                  exact HBJ.out
                by_cases hjl : j < s.size
                · have z1 : (j : Int) < (s.size : Int) := by omega
                  have z3 : (j : Int) + 1 < ((s.size + 1 : Nat) : Int) := by omega
                  have hbb := byteN_bt s j
                  have q1 := HBJ.out.frozen (j + 1)
                  have q2 := HBJ.out.at (i := j + 1) (by omega)
                  have q3 : Hid (BoolsAt (wr.setCell ⟨NB, j + 1, none⟩ (.bool true)) NB (s.size + 1) (starK G0 i (j + 1))) := by
                    rw [← starK_step hij]; exact HBJ.out.set (j + 1) true
                  have q4 : Hid (Below NB V (wr.setCell ⟨NB, j + 1, none⟩ (.bool true))) := HBJ2.out.setCell (p := ⟨NB, j + 1, none⟩) (Nat.le_refl _) _
                  have q5 : Hid ((wr.setCell ⟨NB, j + 1, none⟩ (.bool true)).cell? ⟨g, k, none⟩ = some (.string a)) := (World.cell?_setCell_far _ _ _ _ (by simp; omega)).trans hcj
                  generalize starK G0 i j (j + 1) = v9 at q2
                  by_cases ha2 : a.size = 2
                  · have z4 : ((a.size : Int) == 2) = true := by simp; omega
                    have hnx : Hid (∀ x, i ≤ x → x < j + 1 → P.has (byteN s x) = true) := by
                      intro x h1 h2
                      rcases Nat.lt_succ_iff_lt_or_eq.1 h2 with h | rfl
                      · exact hall.out x h1 h
                      · rw [HH.out, show decide (a.size = 2) = true from decide_eq_true ha2]; rfl
                    clear ha2 hbb
                    go_wp2_with fail
                    go_roundw
                    case rel => exact ⟨j + 1, by omega, by omega, by go_num, q3.out, hnx, q5.out, q4.out⟩
                    case measure => simp [intOf]; omega
                  · have z4 : ((a.size : Int) == 2) = false := by simp; omega
                    by_cases h47 : bt s j = 47
                    · have z5 : (bt s j != 47) = false := by simpa using h47
                      have hX : Hid (BoolsAt wr NB (s.size + 1) (nextAt P s.size (byteN s) A (i + 1))) := hend.out (.inr (by rw [HH.out, show decide (a.size = 2) = false from decide_eq_false ha2, Bool.false_or]; simp; omega))
                      clear ha2 hbb h47
                      go_wp2_with fail
                      go_roundw
                      case rel => exact ⟨i + 1, by omega, by go_num, hX.out, HBJ2.out⟩
                      case measure => simp [intOf]; omega
                    · have z5 : (bt s j != 47) = true := by simpa using h47
                      have hnx : Hid (∀ x, i ≤ x → x < j + 1 → P.has (byteN s x) = true) := by
                        intro x h1 h2
                        rcases Nat.lt_succ_iff_lt_or_eq.1 h2 with h | rfl
                        · exact hall.out x h1 h
                        · rw [HH.out, show (byteN s x != 47) = true from by simp; omega, Bool.or_true]
                      clear ha2 hbb h47
                      go_wp2_with fail
                      go_roundw
                      case rel => exact ⟨j + 1, by omega, by omega, by go_num, q3.out, hnx, q5.out, q4.out⟩
                      case measure => simp [intOf]; omega
                · have hX : Hid (BoolsAt wr NB (s.size + 1) (nextAt P s.size (byteN s) A (i + 1))) := hend.out (.inl (by omega))
                  have z1 : ¬ (j : Int) < (s.size : Int) := by omega
                  go_wp2_with fail
                  go_roundw
                  case rel => exact ⟨i + 1, by omega, by go_num, hX.out, HBJ2.out⟩
                  case measure => simp [intOf]; omega
            · have d : (bt a 0 != 42) = true := by simpa using h42
              have hm := piece_plain HPI.out h42
              have HM := Lib.hid hm
              have HA := Lib.hid hAi
              clear hAi hm h42
              by_cases hil : i < s.size
              · have z1 : (i : Int) < (s.size : Int) := by omega
                have hbb := byteN_bt s i
                obtain ⟨r, hr⟩ := HPI.out
                have hsin : ∀ w0 : World, Calls Tryz.prog 85 #[.string a, .int .u8 (bt s i)] w0 fun e w' => e = .returned (.bool (P.has (byteN s i))) ∧ w' = w0 := fun w0 =>
                  (single_any a P r (bt s i) w0 hasz hr (by simpa using d) (bt_nonneg s i) (bt_le s i)).mono fun _ _ ⟨h1, h2⟩ => ⟨by rw [h1, hbb]; simp, h2.symm⟩
                have HR := Lib.hid hr
                clear hr hbb
                cases hh : P.has (byteN s i) with
                | false =>
                  rw [hh] at hsin
                  have HSIN := Lib.hid hsin
                  have hX : Hid (BoolsAt wr NB (s.size + 1) (nextAt P s.size (byteN s) A (i + 1))) := by rw [nextAt_no (.inr ⟨HM.out, .inr hh⟩)]; exact HBI.out
                  clear hsin hh
                  go_upto_region 12 with fail
                  go_quiet ((go_at_call 85; exact Calls.quiet_of_same (HSIN.out _)))
                  go_wp2_with fail
                  go_roundw
                  case rel => exact ⟨i + 1, by omega, by go_num, hX.out, below_drewN HBL.out _⟩
                  case measure => simp [intOf]; omega
                | true =>
                  rw [hh] at hsin
                  have HSIN := Lib.hid hsin
                  have hX : Hid (nextAt P s.size (byteN s) A (i + 1) = upd (nextAt P s.size (byteN s) A i) (i + 1) true) := nextAt_one HA.out HM.out hil hh
                  clear hsin hh
                  go_upto_region 12 with fail
                  go_quiet ((go_at_call 85; exact Calls.quiet_of_same (HSIN.out _)))
                  have q0 : BoolsAt (wr.drewN nq) NB (s.size + 1) (nextAt P s.size (byteN s) A i) := HBI.out
                  have q1 := q0.frozen (i + 1)
                  have q2 := q0.at (i := i + 1) (by omega)
                  have q3 : Hid (BoolsAt ((wr.drewN nq).setCell ⟨NB, i + 1, none⟩ (.bool true)) NB (s.size + 1) (nextAt P s.size (byteN s) A (i + 1))) := by
                    rw [hX.out]; exact q0.set (i + 1) true
                  have q4 : Hid (Below NB V ((wr.drewN nq).setCell ⟨NB, i + 1, none⟩ (.bool true))) := (below_drewN HBL.out nq).setCell (p := ⟨NB, i + 1, none⟩) (Nat.le_refl _) _
                  generalize nextAt P s.size (byteN s) A i (i + 1) = v9 at q2
                  have z3 : (i : Int) + 1 < ((s.size + 1 : Nat) : Int) := by omega
                  clear q0
                  generalize wr.drewN nq = W1 at *
                  go_wp2_with fail
                  go_roundw
                  case rel => exact ⟨i + 1, by omega, by go_num, q3.out, q4.out⟩
                  case measure => simp [intOf]; omega
              · have hX : Hid (BoolsAt wr NB (s.size + 1) (nextAt P s.size (byteN s) A (i + 1))) := by rw [nextAt_no (.inr ⟨HM.out, .inl (by omega)⟩)]; exact HBI.out
                have z1 : decide ((i : Int) < (s.size : Int)) = false := by simp; omega
                go_upto_region 12 with fail
                go_quiet (fail)
                go_wp2_with fail
                go_roundw
                case rel => exact ⟨i + 1, by omega, by go_num, hX.out, below_drewN HBL.out _⟩
                case measure => simp [intOf]; omega
        · obtain rfl : i = s.size + 1 := by omega
          have HB3 : Hid (Below w.heap.size w wr) := HbW.out.trans (hbl.mono (by omega))
          have HBI := Lib.hid hbi
          have HX : Hid (∀ x, x ≤ s.size → nextAt P s.size (byteN s) A (s.size + 1) x = Mk L (byteN s) (k + 1) x) := by
            intro x hx
            rw [nextAt_full P s.size (byteN s) A _ hAM.out x hx, hMk.out]
          have y1 : ¬ (s.size : Int) + 1 ≤ (s.size : Int) := by omega
          clear hbi hbl
          go_wp2_with fail
          go_roundw
          case rel => exact ⟨k + 1, NB, _, by omega, by go_num, rfl, by omega, HBI, HX, HB3⟩
          case measure => simp [intOf]; omega
    · obtain rfl : k = ls.length := by omega
      have e1 := hB.out.at (i := s.size) (by omega)
      rw [hAM.out _ (Nat.le_refl _), hn] at e1
      have y1 : (s.size : Int) < ((s.size + 1 : Nat) : Int) := by omega
      have y2 : (0 : Int) ≤ (s.size : Int) := by omega
      obtain ⟨RES, hR⟩ : ∃ RES, Hid (Mk L (byteN s) L.length s.size = RES) := ⟨_, rfl⟩
      rw [hR.out] at e1
      go_wp2_with fail
      go_ret
      exact ⟨ret_bool hR.out.symm, hW.out⟩

end Go.Proofs.YtmgngapkgcofnaaGreatDoor
