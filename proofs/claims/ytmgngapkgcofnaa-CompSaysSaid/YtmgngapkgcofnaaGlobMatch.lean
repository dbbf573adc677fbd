/- glob.Check and glob.Match: the walks. -/
import Derived.Test.YtmgngapkgcofnaaGlobParts
import Derived.Test.YtmgngapkgcofnaaGlobSkip
import Derived.Laws.MakeOwn
namespace Go.Proofs.Ytmgngapkgcofnaa
open Go.RowKit

theorem parts_yes (s : ByteArray) (w : World) (hs : s.size ≤ 4096) {ps : List Part} (h : partsF (bytesOf s) = some ps) :
    Calls Try.prog 62 #[.string s] w fun e w' => ∃ v, e = .returned (.tuple #[v, .bool true]) ∧ w'.ownsRow w.heap.size 127 257 v ps.length (flatP ps) ∧ Below w.heap.size w w' :=
  (parts_any s w hs).mono fun e w' ⟨h1, h2⟩ => by
    unfold PartsR at h1
    rw [h] at h1
    obtain ⟨v, h3, h4⟩ := h1
    exact ⟨v, h3, h4, h2⟩
theorem parts_no (s : ByteArray) (w : World) (hs : s.size ≤ 4096) (h : partsF (bytesOf s) = none) :
    Calls Try.prog 62 #[.string s] w fun e w' => e = .returned (.tuple #[.slice none 0 0, .bool false]) ∧ Below w.heap.size w w' :=
  (parts_any s w hs).mono fun e w' ⟨h1, h2⟩ => by
    unfold PartsR at h1
    rw [h] at h1
    exact ⟨h1, h2⟩

set_option maxHeartbeats 1000000 in
theorem globCheck_any (p : ByteArray) (w : World) (hs : p.size ≤ 4096) :
    Calls Try.prog 17 #[.string p] w fun e w' => e = .returned (errV (globF (bytesOf p))) ∧ Below w.heap.size w w' := by
  by_cases h24 : 24 < p.size
  · have HF : Hid (globF (bytesOf p) = 2) := by show _ = _; unfold globF; rw [bytesOf_length, if_pos h24]
    have k : (24 : Int) < (p.size : Int) := by omega
    clear h24
    go_enter Try.func17, Try.ntmps17
    go_wp2_with fail
    go_ret
    exact ⟨by rw [HF.out]; rfl, Below.refl _ _⟩
  · have k : ¬ (24 : Int) < (p.size : Int) := by omega
    rcases Nat.eq_zero_or_pos p.size with h0 | h0
    · have y1 : p.toList.isEmpty = true := by rw [isEmpty_of]; simpa using h0
      have HF : Hid (globF (bytesOf p) = 4) := by show _ = _; unfold globF; rw [bytesOf_length, if_neg h24, if_pos (bytesOf_nil h0)]
      have hp : Hid (partsF (bytesOf p) = some []) := by show _ = _; rw [bytesOf_nil h0]; rfl
      clear h24 h0
      go_enter Try.func17, Try.ntmps17
      go_wp2_with (go_at_call 62; refine (parts_yes _ _ hs hp.out).mono ?_; rintro e w1 ⟨v, rfl, hown, hb⟩; have hown2 := Lib.hid hown; clear hown)
      go_ret
      exact ⟨by rw [HF.out]; rfl, hb⟩
    · have y1 : p.toList.isEmpty = false := by rw [isEmpty_of]; exact decide_eq_false (by omega)
      have hne : bytesOf p ≠ [] := by intro h; have := bytesOf_length p; rw [h] at this; simp at this; omega
      cases hp : partsF (bytesOf p) with
      | none =>
        have HF : Hid (globF (bytesOf p) = 4) := by show _ = _; unfold globF; rw [bytesOf_length, if_neg h24, if_neg hne, hp]
        have HP := Lib.hid hp
        clear h24 h0 hp hne
        go_enter Try.func17, Try.ntmps17
        go_wp2_with (go_at_call 62; refine (parts_no _ _ hs HP.out).mono ?_; rintro e w1 ⟨rfl, hb⟩)
        go_ret
        exact ⟨by rw [HF.out]; rfl, hb⟩
      | some ps =>
        have HF : Hid (globF (bytesOf p) = 0) := by show _ = _; unfold globF; rw [bytesOf_length, if_neg h24, if_neg hne, hp]
        have HP := Lib.hid hp
        clear h24 h0 hp hne
        go_enter Try.func17, Try.ntmps17
        go_wp2_with (go_at_call 62; refine (parts_yes _ _ hs HP.out).mono ?_; rintro e w1 ⟨v, rfl, hown, hb⟩; have hown2 := Lib.hid hown; clear hown)
        go_ret
        exact ⟨by rw [HF.out]; rfl, hb⟩

/-- The byte at a place. -/
def byteN (s : ByteArray) (j : Nat) : Nat := if h : j < s.size then s[j].toNat else 0
/-- What Match answers. -/
def matchB (p s : ByteArray) : Bool := if globF (bytesOf p) ≠ 0 then false else match partsF (bytesOf p) with
  | none => false
  | some l => Mk l (byteN s) l.length s.size
theorem matchB_some {p s : ByteArray} {l : List Part} (h0 : globF (bytesOf p) = 0) (h : partsF (bytesOf p) = some l) : matchB p s = Mk l (byteN s) l.length s.size := by
  unfold matchB; rw [if_neg (by rw [h0]; simp), h]
theorem globF_parts {l : List Int} (h : globF l = 0) : ∃ ps, partsF l = some ps ∧ l.length ≤ 24 ∧ l ≠ [] := by
  unfold globF at h
  split at h
  · simp at h
  · split at h
    · simp at h
    · cases hp : partsF l with
      | none => rw [hp] at h; simp at h
      | some ps => exact ⟨ps, rfl, by omega, by assumption⟩
theorem partsL_length : ∀ (n : Nat) (l : List Int) (ps : List Part), partsL n l = some ps → ps.length ≤ l.length := by
  intro n
  induction n with
  | zero => intro l ps h; rcases l with _ | ⟨c, r⟩ <;> simp [partsL] at h; subst h; simp
  | succ n ih =>
    intro l ps h
    rcases l with _ | ⟨c, r⟩
    · simp [partsL] at h; subst h; simp
    · simp only [partsL] at h
      cases hp : partL (c :: r) with
      | none => simp [hp] at h
      | some x =>
        simp only [hp, Option.bind_some, Option.map_eq_some_iff] at h
        obtain ⟨qs, h1, rfl⟩ := h
        have := ih _ _ h1
        have := partL_len (p := x.1) (r := x.2) hp
        simp at this ⊢; omega
theorem partsF_length {l : List Int} {ps : List Part} (h : partsF l = some ps) : ps.length ≤ l.length := partsL_length _ _ _ h
theorem partsF_pos {l : List Int} {ps : List Part} (h : partsF l = some ps) (hl : l ≠ []) : 0 < ps.length := by
  rw [partsF_cons hl] at h
  cases hp : partL l with
  | none => simp [hp] at h
  | some x =>
    simp only [hp, Option.bind_some, Option.map_eq_some_iff] at h
    obtain ⟨qs, _, rfl⟩ := h
    simp

theorem flatP_at (l : List Part) (i : Nat) (p : Part) (hp : l[i]? = some p) (j : Nat) (v : Value) (hv : p.row[j]? = some v) : (flatP l)[i * 257 + j]? = some v := by
  have hj : j < 257 := by
    rw [← p.row_size]
    rcases Nat.lt_or_ge j p.row.size with h | h
    · exact h
    · simp [Array.getElem?_eq_none h] at hv
  induction l generalizing i with
  | nil => simp at hp
  | cons q l ih =>
    rcases i with _ | i
    · simp at hp; subst hp
      simp only [flatP, List.flatMap_cons, Nat.zero_mul, Nat.zero_add]
      rw [List.getElem?_append_left (by rw [Part.row_len]; exact hj)]
      simpa using hv
    · simp only [List.getElem?_cons_succ] at hp
      have := ih i hp
      simp only [flatP, List.flatMap_cons] at this ⊢
      rw [List.getElem?_append_right (by rw [Part.row_len]; omega), Part.row_len, show (i + 1) * 257 + j - 257 = i * 257 + j from by omega]
      exact this
theorem parts_of_own {w : World} {B : Nat} {v : Value} {l : List Part} (h : w.ownsRow B 127 257 v l.length (flatP l)) (hl : 0 < l.length) :
    ∃ g cap, v = .slice (some ⟨g, 0, none⟩) l.length cap ∧ B ≤ g ∧ g < w.heap.size ∧ PartsAt w g 0 l := by
  obtain ⟨h1, (⟨rfl, h2⟩ | ⟨g, cap, cur, rfl, hB, hg, h3, h4, h5, h6⟩)⟩ := h
  · omega
  · refine ⟨g, cap, rfl, hB, ?_, ?_⟩
    · rcases Nat.lt_or_ge g w.heap.size with h | h
      · exact h
      · simp [Array.getElem?_eq_none h] at hg
    · intro i p hp j v hv
      have h7 := flatP_at l i p hp j v hv
      rw [cell_of_row w _ _ _ _ _ hg, Nat.zero_add]
      rw [← h6, List.getElem?_take] at h7
      split at h7
      · simpa using h7
      · simp at h7

theorem bool_i : (Try.prog.info? 4).map (fun i => (i.zero, i.size, i.bytes)) = some (some (.bool false), 1, 1) := by kernel_rfl
theorem run_make_bools (w : World) (n : Nat) (hn : n ≤ 1000000) : (Instr.makeSlice 123 (.int .i64 ((n : Int) + 1)) (.int .i64 ((n : Int) + 1))).run Try.prog w = .ok (.slice (some ⟨w.heap.size, 0, none⟩) (n + 1) (n + 1)) (w.alloc (.cells (boolRow (n + 1) fun _ => false) 4)) := by
  obtain ⟨i0, hi, hz0, hz1, hz2⟩ := info_parts bool_i
  have := run_make w 123 4 i0 (.bool false) Try.underlying123 hi hz0 .i64 .i64 ((n : Int) + 1) ((n : Int) + 1) (by omega) (by omega) (by rw [hz2]; omega) (by omega)
  rw [this]
  have e : ((n : Int) + 1).toNat = n + 1 := by omega
  rw [e, hz1, Nat.mul_one]
  have e2 : madeCells (Value.bool false).cells (n + 1) = boolRow (n + 1) fun _ => false := by
    unfold madeCells boolRow
    apply Array.ext (by simp)
    intro i h1 h2
    simp [Value.cells]
    rw [Nat.mod_one]
    rfl
  rw [e2]

theorem upd_zero : upd (fun _ => false) 0 true = fun i => i == 0 := by
  funext i
  unfold upd
  by_cases h : i = 0
  · subst h; rfl
  · rw [if_neg h]; simp [h]
theorem byteN_at {s : ByteArray} {i : Nat} (h : i < s.size) : byteN s i = s[i].toNat := by simp [byteN, h]
theorem stepF_yes {l : List Part} {f : Nat → Bool} {c k : Nat} {p : Part} (h : l[k]? = some p) (h1 : f k = true) (h2 : p.has c = true) :
    stepF l f c (k + 1) = upd (upd (stepF l f c k) k (stepF l f c k k || p.many)) (k + 1) (stepF l f c k (k + 1) || !p.many) := by
  funext i
  simp only [stepF, h, h1, h2, Bool.and_self, if_true, upd]
  by_cases e : i = k
  · subst e; simp
  · rw [if_neg e]
    by_cases e2 : i = k + 1
    · subst e2; simp
    · rw [if_neg e2, if_neg e2, if_neg e]
theorem stepF_no {l : List Part} {f : Nat → Bool} {c k : Nat} {p : Part} (h : l[k]? = some p) (h1 : f k = false ∨ p.has c = false) : stepF l f c (k + 1) = stepF l f c k := by
  funext i
  simp only [stepF, h]
  rw [if_neg]
  rcases h1 with h | h <;> simp [h]
theorem bools_lt {w : World} {b n : Nat} {f : Nat → Bool} (h : BoolsAt w b n f) : b < w.heap.size := by
  rcases Nat.lt_or_ge b w.heap.size with h1 | h1
  · exact h1
  · have h2 : w.heap[b]? = some _ := h
    simp [Array.getElem?_eq_none h1] at h2
theorem stepF_above (l : List Part) (f : Nat → Bool) (c : Nat) : ∀ k i, k < i → stepF l f c k i = false := by
  intro k
  induction k with
  | zero => intro i _; rfl
  | succ k ih =>
    intro i hi
    simp only [stepF]
    split
    · exact ih i (by omega)
    · split
      · rw [if_neg (by omega), if_neg (by omega)]; exact ih i (by omega)
      · exact ih i (by omega)

set_option linter.unusedSimpArgs false in
set_option maxRecDepth 100000 in
set_option maxHeartbeats 4000000 in
theorem globMatch_any (p s : ByteArray) (w : World) (hp : p.size ≤ 4096) (hs : s.size ≤ 100000) :
    Calls Try.prog 19 #[.string p, .string s] w fun e w' => e = .returned (.bool (matchB p s)) ∧ Below w.heap.size w w' := by
  by_cases h0 : globF (bytesOf p) = 0
  case neg =>
    have HM : Hid (matchB p s = false) := by show _ = _; unfold matchB; rw [if_pos h0]
    have HF : Hid (errV (globF (bytesOf p)) = .iface 114 (.int .i64 (globF (bytesOf p)))) := errV_pos h0
    clear h0
    go_enter Try.func19, Try.ntmps19
    go_wp2_with (go_at_call 17; refine (globCheck_any _ _ hp).mono ?_; rintro e w1 ⟨rfl, hb1⟩; rw [HF.out])
    go_ret
    exact ⟨by rw [HM.out]; rfl, hb1⟩
  case pos =>
  obtain ⟨l, hl, h24, hne⟩ := globF_parts h0
  have hln := partsF_length hl
  have hpos := partsF_pos hl hne
  have hn : l.length ≤ 24 := by omega
  have HM : Hid (matchB p s = Mk l (byteN s) l.length s.size) := matchB_some h0 hl
  have HF : Hid (errV (globF (bytesOf p)) = .nilIface) := by show _ = _; rw [h0]; rfl
  have HP := Lib.hid hl
  clear h0 hl h24 hne hln
  have hmk := fun w : World => run_make_bools w l.length (by omega)
  go_enter Try.func19, Try.ntmps19
  go_upto_region 4 with (first
    | (go_at_call 17; refine (globCheck_any _ _ hp).mono ?_; rintro e w1 ⟨rfl, hb1⟩; rw [HF.out])
    | (go_at_call 62; refine (parts_yes _ _ hp HP.out).mono ?_; rintro e w2 ⟨v, rfl, hown, hb2⟩; have HO := Lib.hid hown; clear hown))
  obtain ⟨g, cap, rfl, hg, hg2, hPA⟩ := parts_of_own HO.out hpos
  have HPA := Lib.hid hPA
  have hb : Below w.heap.size w w2 := hb1.trans (hb2.mono hb1.size)
  clear HO hPA hb1 hb2 HP
  have m1 : BoolsAt (w2.alloc (.cells (boolRow (l.length + 1) fun _ => false) 4)) w2.heap.size (l.length + 1) (fun _ => false) := heap_alloc_new _ _
  have m2 := m1.frozen 0
  have m3 := m1.at (i := 0) (by omega)
  have m4 : Hid (BoolsAt (w2.alloc (.cells ((boolRow (l.length + 1) fun _ => false).setIfInBounds 0 (.bool true)) 4)) w2.heap.size (l.length + 1) (fun i => i == 0)) := by
    show _ = _
    rw [boolRow_set, upd_zero]
    exact heap_alloc_new _ _
  have m5 : Hid (Below w2.heap.size w2 (w2.alloc (.cells ((boolRow (l.length + 1) fun _ => false).setIfInBounds 0 (.bool true)) 4))) := (Below.refl w2.heap.size w2).alloc (Nat.le_refl _) _
  have x1 : (0 : Int) < ((l.length + 1 : Nat) : Int) := by omega
  clear m1
  have hpl : Hid (PartsAt (w2.alloc (.cells ((boolRow (l.length + 1) fun _ => false).setIfInBounds 0 (.bool true)) 4)) g 0 l) := HPA.out.below m5.out hg2
  go_wp2_with (go_at_call 64; refine (skip_any g cap w2.heap.size l (fun i => i == 0) _ hpl.out hg2 (by omega) m4.out).mono ?_; rintro e w3 ⟨rfl, hs1, hs2⟩; have M1 : Hid (BoolsAt w3 w2.heap.size (l.length + 1) (cS l (byteN s) 0)) := hs1; have M2 : Hid (Below w2.heap.size w2 w3) := m5.out.trans hs2; clear hs1 hs2)
  clear m4 m5 hpl
  go_loopw [7, 31] (fun av iv wr => ∃ i b : Nat, i ≤ s.size ∧ iv = .int .i64 i ∧ av = .slice (some ⟨b, 0, none⟩) (l.length + 1) (l.length + 1) ∧ g < b ∧ Hid (BoolsAt wr b (l.length + 1) (cS l (byteN s) i)) ∧ Hid (Below w2.heap.size w2 wr)) (fun _ iv _ => s.size - (intOf iv).toNat)
  case atStart => exact ⟨0, w2.heap.size, Nat.zero_le _, rfl, rfl, hg2, M1, M2⟩
  case round =>
    obtain ⟨i, b, hi, rfl, rfl, hgb, hB, hW⟩ := hrel
    clear M1 M2
    have hbsz : b < wr.heap.size := bools_lt hB.out
    by_cases hlt : i < s.size
    · have hbn := Lib.hid (byteN_at hlt)
      have x5 : (i : Int) < (s.size : Int) := by omega
      have x6 : (0 : Int) ≤ (i : Int) := by omega
      have hcS : Hid (cS l (byteN s) (i + 1) = skipF l (stepF l (cS l (byteN s) i) (byteN s i) l.length) l.length) := rfl
      have hc255 : s[i].toNat < 256 := s[i].toNat_lt
      rw [hbn.out] at hcS
      have hbW : Below w2.heap.size w2 (wr.alloc (.cells (boolRow (l.length + 1) fun _ => false) 4)) := hW.out.alloc hW.out.size _
      have n1 : BoolsAt (wr.alloc (.cells (boolRow (l.length + 1) fun _ => false) 4)) wr.heap.size (l.length + 1) (fun _ => false) := heap_alloc_new _ _
      have n2 : (wr.alloc (.cells (boolRow (l.length + 1) fun _ => false) 4)).heap.size = wr.heap.size + 1 := by simp
      have n3 : BoolsAt (wr.alloc (.cells (boolRow (l.length + 1) fun _ => false) 4)) b (l.length + 1) (cS l (byteN s) i) := ((((Below.refl wr.heap.size wr).alloc (Nat.le_refl _) _).block b hbsz)).trans hB.out
      have hpW := HPA.out.below hbW hg2
      go_upto_region 11 with fail
      have HbW := Lib.hid hbW
      have Hn1 := Lib.hid n1
      have Hn3 := Lib.hid n3
      have HpW := Lib.hid hpW
      clear hbW n1 n3 hpW
      generalize wr.alloc (.cells (boolRow (l.length + 1) fun _ => false) 4) = V at *
      generalize hF : cS l (byteN s) i = F at *
      clear hF
      generalize hcc : s[i].toNat = c at *
      have hgn : g < wr.heap.size := by omega
      have hNW := hW.out.size
      generalize wr.heap.size = NB at *
      go_wp2_with fail
      go_loopw [40] (fun kv wl => ∃ j : Nat, j ≤ l.length ∧ kv = .int .i64 j ∧ BoolsAt wl NB (l.length + 1) (stepF l F c j) ∧ Below NB V wl) (fun kv _ => l.length - (intOf kv).toNat)
      case atStart => exact ⟨0, Nat.zero_le _, rfl, Hn1.out, Below.refl _ _⟩
      case round =>
        obtain ⟨j, hj, rfl, hbj, hbl⟩ := hrel
        by_cases hlj : j < l.length
        · have hP : PartsAt wr g 0 l := HpW.out.below hbl hgn
          have hlq : l[j]? = some l[j] := by simp
          have HY := Lib.hid (fun h1 h2 => stepF_yes (f := F) (c := c) hlq h1 h2)
          have HN := Lib.hid (fun h1 => stepF_no (f := F) (c := c) hlq h1)
          have hz1 : stepF l F c j (j + 1) = false := stepF_above l F c j (j + 1) (by omega)
          have hc := hP j l[j] hlq
          generalize l[j] = q at *
          have hsz := hbl.size
          generalize stepF l F c j = G at *
          have x1 : (j : Int) < (l.length : Int) := by omega
          have x2 : (0 : Int) ≤ (j : Int) := by omega
          have HC : Hid (∀ k v, q.row[k]? = some v → wr.cell? ((⟨g, j * 257, none⟩ : Addr).add k) = some v) := fun k v hv => by
            rw [add_plain]; simpa using hc k v hv
          have hB2 : BoolsAt wr b (l.length + 1) F := (hbl.block b (by omega)).trans Hn3.out
          clear hc hP hlq
          obtain ⟨W2, hW2, c1, c2, c3⟩ := part_copy wr q
          have c4 : Below NB V W2 := hbl.trans (c2.mono (by omega))
          have c5 : BoolsAt W2 NB (l.length + 1) G := (c2.block NB (by omega)).trans hbj
          have c6 : BoolsAt W2 b (l.length + 1) F := (c2.block b (by omega)).trans hB2
          have c7 : W2.cell? ⟨wr.heap.size, 256, none⟩ = some (.bool q.many) := by rw [cell_of_row W2 _ _ _ _ _ c1]; exact q.row_many
          have c8 : W2.cell? ⟨wr.heap.size, c, none⟩ = some (.bool (q.has c)) := by rw [cell_of_row W2 _ _ _ _ _ c1]; exact q.row_at (by omega)
          have c9 : W2.cell? ⟨b, j, none⟩ = some (.bool (F j)) := c6.at (by omega)
          have c10 : W2.cell? ⟨NB, j, none⟩ = some (.bool (G j)) := c5.at (by omega)
          have c11 : W2.cell? ⟨NB, j + 1, none⟩ = some (.bool (G (j + 1))) := c5.at (by omega)
          have c12 := c5.frozen j
          have c13 := c5.frozen (j + 1)
          rw [hz1] at c11
          have Hc5 := Lib.hid c5
          have Hc4 := Lib.hid c4
          have HZ1 := Lib.hid hz1
          clear hbj hB2 c6 hz1
          have y1 : (c : Int) < 256 := by omega
          have y2 : (0 : Int) ≤ (c : Int) := by omega
          go_upto_region 14 with (first
            | (refine part_load rfl (.tmp 43) rfl (some 44) rfl ⟨g, j * 257, none⟩ (by simp [Act.eval]) q HC.out ?_)
            | (refine part_store rfl (.tmp 11) (.tmp 44) rfl rfl wr.heap.size q (by simp [Act.eval]) (by simp [Act.eval]) Try.zeroCells127 (heap_alloc_new _ _) Try.zeroCells127_size ?_))
          rw [hW2]
          clear hW2 HC c1 c2 c4 c5
          generalize q.row = R at *
          cases hFj : F j with
          | false =>
            rw [hFj] at c9
            have HG : Hid (BoolsAt W2 NB (l.length + 1) (stepF l F c (j + 1))) := by rw [HN.out (Or.inl hFj)]; exact Hc5.out
            clear hFj
            go_wp2_with fail
            go_roundw
            case rel => exact ⟨j + 1, by omega, by go_num, HG.out, Hc4.out⟩
            case measure => simp [intOf]; omega
          | true =>
            rw [hFj] at c9
            cases hqc : q.has c with
            | false =>
              rw [hqc] at c8
              have HG : Hid (BoolsAt W2 NB (l.length + 1) (stepF l F c (j + 1))) := by rw [HN.out (Or.inr hqc)]; exact Hc5.out
              clear hFj hqc
              go_wp2_with fail
              go_roundw
              case rel => exact ⟨j + 1, by omega, by go_num, HG.out, Hc4.out⟩
              case measure => simp [intOf]; omega
            | true =>
              rw [hqc] at c8
              have HST : Hid (stepF l F c (j + 1) = upd (upd G j (G j || q.many)) (j + 1) (!q.many)) := by
                show _ = _
                rw [HY.out hFj hqc, HZ1.out]; rfl
              clear hFj hqc
              generalize hgj : G j = gv at *
              generalize q.many = mv at *
              cases gv
              · cases mv
                · have d0 := Hc5.out.set j false
                  have d1 := d0.frozen (j + 1)
                  have d2 := d0.at (i := j + 1) (by omega)
                  have d3 : (W2.setCell ⟨NB, j, none⟩ (.bool false)).cell? ⟨wr.heap.size, 256, none⟩ = W2.cell? ⟨wr.heap.size, 256, none⟩ := World.cell?_setCell_far _ _ _ _ (by simp; omega)
                  rw [c7] at d3
                  rw [show upd G j false (j + 1) = false from by unfold upd; rw [if_neg (by omega)]; exact HZ1.out] at d2
                  have d5 : Hid (BoolsAt ((W2.setCell ⟨NB, j, none⟩ (.bool false)).setCell ⟨NB, j + 1, none⟩ (.bool true)) NB (l.length + 1) (stepF l F c (j + 1))) := by
                    rw [HST.out]; exact d0.set (j + 1) true
                  have d6 : Hid (Below NB V ((W2.setCell ⟨NB, j, none⟩ (.bool false)).setCell ⟨NB, j + 1, none⟩ (.bool true))) := (Hc4.out.setCell (p := ⟨NB, j, none⟩) (Nat.le_refl _) _).setCell (p := ⟨NB, j + 1, none⟩) (Nat.le_refl _) _
                  clear d0
                  go_upto_region 16 with fail
                  generalize W2.setCell ⟨NB, j, none⟩ (.bool false) = W3 at *
                  go_wp2_with fail
                  go_roundw
                  case rel => exact ⟨j + 1, by omega, by go_num, d5.out, d6.out⟩
                  case measure => simp [intOf]; omega
                · have d0 := Hc5.out.set j true
                  have d1 := d0.frozen (j + 1)
                  have d2 := d0.at (i := j + 1) (by omega)
                  have d3 : (W2.setCell ⟨NB, j, none⟩ (.bool true)).cell? ⟨wr.heap.size, 256, none⟩ = W2.cell? ⟨wr.heap.size, 256, none⟩ := World.cell?_setCell_far _ _ _ _ (by simp; omega)
                  rw [c7] at d3
                  rw [show upd G j true (j + 1) = false from by unfold upd; rw [if_neg (by omega)]; exact HZ1.out] at d2
                  have d5 : Hid (BoolsAt ((W2.setCell ⟨NB, j, none⟩ (.bool true)).setCell ⟨NB, j + 1, none⟩ (.bool false)) NB (l.length + 1) (stepF l F c (j + 1))) := by
                    rw [HST.out]; exact d0.set (j + 1) false
                  have d6 : Hid (Below NB V ((W2.setCell ⟨NB, j, none⟩ (.bool true)).setCell ⟨NB, j + 1, none⟩ (.bool false))) := (Hc4.out.setCell (p := ⟨NB, j, none⟩) (Nat.le_refl _) _).setCell (p := ⟨NB, j + 1, none⟩) (Nat.le_refl _) _
                  clear d0
                  go_upto_region 16 with fail
                  generalize W2.setCell ⟨NB, j, none⟩ (.bool true) = W3 at *
                  go_wp2_with fail
                  go_roundw
                  case rel => exact ⟨j + 1, by omega, by go_num, d5.out, d6.out⟩
                  case measure => simp [intOf]; omega
              · cases mv
                · have d0 := Hc5.out.set j true
                  have d1 := d0.frozen (j + 1)
                  have d2 := d0.at (i := j + 1) (by omega)
                  have d3 : (W2.setCell ⟨NB, j, none⟩ (.bool true)).cell? ⟨wr.heap.size, 256, none⟩ = W2.cell? ⟨wr.heap.size, 256, none⟩ := World.cell?_setCell_far _ _ _ _ (by simp; omega)
                  rw [c7] at d3
                  rw [show upd G j true (j + 1) = false from by unfold upd; rw [if_neg (by omega)]; exact HZ1.out] at d2
                  have d5 : Hid (BoolsAt ((W2.setCell ⟨NB, j, none⟩ (.bool true)).setCell ⟨NB, j + 1, none⟩ (.bool true)) NB (l.length + 1) (stepF l F c (j + 1))) := by
                    rw [HST.out]; exact d0.set (j + 1) true
                  have d6 : Hid (Below NB V ((W2.setCell ⟨NB, j, none⟩ (.bool true)).setCell ⟨NB, j + 1, none⟩ (.bool true))) := (Hc4.out.setCell (p := ⟨NB, j, none⟩) (Nat.le_refl _) _).setCell (p := ⟨NB, j + 1, none⟩) (Nat.le_refl _) _
                  clear d0
                  go_upto_region 16 with fail
                  generalize W2.setCell ⟨NB, j, none⟩ (.bool true) = W3 at *
                  go_wp2_with fail
                  go_roundw
                  case rel => exact ⟨j + 1, by omega, by go_num, d5.out, d6.out⟩
                  case measure => simp [intOf]; omega
                · have d0 := Hc5.out.set j true
                  have d1 := d0.frozen (j + 1)
                  have d2 := d0.at (i := j + 1) (by omega)
                  have d3 : (W2.setCell ⟨NB, j, none⟩ (.bool true)).cell? ⟨wr.heap.size, 256, none⟩ = W2.cell? ⟨wr.heap.size, 256, none⟩ := World.cell?_setCell_far _ _ _ _ (by simp; omega)
                  rw [c7] at d3
                  rw [show upd G j true (j + 1) = false from by unfold upd; rw [if_neg (by omega)]; exact HZ1.out] at d2
                  have d5 : Hid (BoolsAt ((W2.setCell ⟨NB, j, none⟩ (.bool true)).setCell ⟨NB, j + 1, none⟩ (.bool false)) NB (l.length + 1) (stepF l F c (j + 1))) := by
                    rw [HST.out]; exact d0.set (j + 1) false
                  have d6 : Hid (Below NB V ((W2.setCell ⟨NB, j, none⟩ (.bool true)).setCell ⟨NB, j + 1, none⟩ (.bool false))) := (Hc4.out.setCell (p := ⟨NB, j, none⟩) (Nat.le_refl _) _).setCell (p := ⟨NB, j + 1, none⟩) (Nat.le_refl _) _
                  clear d0
                  go_upto_region 16 with fail
                  generalize W2.setCell ⟨NB, j, none⟩ (.bool true) = W3 at *
                  go_wp2_with fail
                  go_roundw
                  case rel => exact ⟨j + 1, by omega, by go_num, d5.out, d6.out⟩
                  case measure => simp [intOf]; omega
        · obtain rfl : j = l.length := by omega
          have hpl : PartsAt wr g 0 l := HpW.out.below hbl hgn
          have hnb : NB < V.heap.size := by omega
          have HB3 : Hid (Below w2.heap.size w2 wr) := HbW.out.trans (hbl.mono (by omega))
          go_wp2_with (go_at_call 64; refine (skip_any g cap NB l _ _ hpl hgn (by omega) hbj).mono ?_; rintro e w3 ⟨rfl, hs1, hs2⟩; have M1 : Hid (BoolsAt w3 NB (l.length + 1) (cS l (byteN s) (i + 1))) := (by rw [hcS.out]; exact hs1); have M2 : Hid (Below w2.heap.size w2 w3) := HB3.out.trans (hs2.mono (by omega)); clear hs1 hs2)
          go_roundw
          case rel => exact ⟨i + 1, NB, by omega, by go_num, rfl, by omega, M1, M2⟩
          case measure => simp [intOf]; omega
    · obtain rfl : i = s.size := by omega
      have e1 := hB.out.at (i := l.length) (by omega)
      have hR : Hid (cS l (byteN s) s.size l.length = matchB p s) := by show _ = _; rw [HM.out, cS_end]
      generalize cS l (byteN s) s.size l.length = RES at *
      have y1 : (l.length : Int) < ((l.length + 1 : Nat) : Int) := by omega
      go_wp2_with fail
      go_ret
      exact ⟨ret_bool hR.out, hb.trans (hW.out.mono hb.size)⟩

end Go.Proofs.Ytmgngapkgcofnaa
