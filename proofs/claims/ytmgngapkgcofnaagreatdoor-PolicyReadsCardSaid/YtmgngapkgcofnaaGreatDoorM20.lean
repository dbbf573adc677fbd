/- The reference's cut: a text at each of a byte: the walk. -/
import Derived.Test.YtmgngapkgcofnaaGreatDoorM19
import Derived.Test.YtmgngapkgcofnaaGreatDoorM18
import Derived.Test.YtmgngapkgcofnaaGreatDoorM06
import Derived.PlainAid
namespace Go.Proofs.YtmgngapkgcofnaaGreatDoor
open Go.RowKit Go.PlainAid

theorem drop_cons_get {l : List UInt8} {i : Nat} (h : i < l.length) : l.drop i = l[i] :: l.drop (i + 1) := List.drop_eq_getElem_cons h
theorem cut_same {c : UInt8} {l : List UInt8} {f i : Nat} (hf : f ≤ i) (hi : i < l.length) (hn : ∀ b ∈ (l.drop f).take (i - f), b ≠ c) (hc : l[i] ≠ c) : ∀ b ∈ (l.drop f).take (i + 1 - f), b ≠ c := by
  intro b hb
  rw [show i + 1 - f = (i - f) + 1 from by omega, List.take_add_one, List.getElem?_drop, show f + (i - f) = i from by omega, List.getElem?_eq_getElem hi] at hb
  rcases List.mem_append.1 hb with hb | hb
  · exact hn b hb
  · simp at hb; subst hb; exact hc
theorem cut_here {c : UInt8} {l : List UInt8} {f i : Nat} (hf : f ≤ i) (hi : i < l.length) (hn : ∀ b ∈ (l.drop f).take (i - f), b ≠ c) (hc : l[i] = c) : cutW c (l.drop f) = (l.drop f).take (i - f) :: cutW c (l.drop (i + 1)) := by
  have h1 : l.drop f = (l.drop f).take (i - f) ++ c :: l.drop (i + 1) := by
    have h2 : (l.drop f).drop (i - f) = l.drop i := by rw [List.drop_drop]; congr 1; omega
    rw [← hc, ← drop_cons_get hi, ← h2, List.take_append_drop]
  conv => lhs; rw [h1]
  exact cutW_app c _ _ hn
theorem ext_take (s : ByteArray) (f i : Nat) : bL (s.extract f i) = ((bL s).drop f).take (i - f) := by
  unfold bL
  rw [ByteArray.data_extract, Array.toList_extract, List.extract]
/-- What holds at the head of cut's loop. -/
def CutIn (s : ByteArray) (c : UInt8) (w wr : World) (lv : Value) (i f : Nat) : Prop :=
  ∃ ls : List ByteArray, ls.length ≤ i ∧ wr.ownsRow w.heap.size 9 1 lv ls.length (ls.map Value.string) ∧ Below w.heap.size w wr ∧
    ((i ≤ s.size ∧ f ≤ i ∧ ls.map bL ++ cutW c ((bL s).drop f) = cutW c (bL s) ∧ ∀ b ∈ ((bL s).drop f).take (i - f), b ≠ c) ∨ (i = s.size + 1 ∧ ls.map bL = cutW c (bL s)))
def CutR (s : ByteArray) (c : UInt8) (w : World) (e : Ending) (w' : World) : Prop :=
  ∃ (ws : List ByteArray) (v : Value), e = .returned v ∧ ws.map bL = cutW c (bL s) ∧ w'.ownsRow w.heap.size 9 1 v ws.length (ws.map Value.string) ∧ Below w.heap.size w w'
set_option linter.unusedSimpArgs false in
set_option maxRecDepth 100000 in
set_option maxHeartbeats 4000000 in
theorem cut_any (s : ByteArray) (c : UInt8) (w : World) (hs : s.size ≤ 1000000) :
    Calls Tryz.prog 25 #[.string s, .int .u8 (c.toNat : Int)] w (CutR s c w) := by
  obtain ⟨i0, hi, hz0, hz1, hz2⟩ := info_parts str_i
  have gx := get_bt s
  have hlen : (bL s).length = s.size := by unfold bL; simp
  have HLEN := Lib.hid hlen
  clear hlen
  have HST : Hid (CutIn s c w w (.slice none 0 0) 0 0) := ⟨[], Nat.le_refl _, World.ownsRow_nil _ _ _ _, Below.refl _ _, .inl ⟨Nat.zero_le _, Nat.le_refl _, rfl, by simp⟩⟩
  go_enter Tryz.func25, Tryz.ntmps25
  go_wp2_with fail
  go_loopw [5, 6, 7] (fun lv fv iv wr => ∃ (i f : Nat), i ≤ s.size + 1 ∧ iv = .int .i64 i ∧ fv = .int .i64 f ∧ CutIn s c w wr lv i f) (fun _ _ iv _ => s.size + 1 - (intOf iv).toNat)
  case atStart => exact ⟨0, 0, by omega, rfl, rfl, HST.out⟩
  case round =>
    clear HST
    obtain ⟨i, f, hi1, rfl, rfl, ls, hll, hown, hb, hcase⟩ := hrel
    by_cases hin : i ≤ s.size
    · have x1 : (i : Int) ≤ (s.size : Int) := by omega
      have x2 : (0 : Int) ≤ (i : Int) := by omega
      obtain ⟨_, hfi, hcut, hno⟩ := hcase.resolve_right (fun h => by omega)
      have x3 : (f : Int) ≤ (i : Int) := by omega
      have x4 : ¬ (f : Int) < 0 := by omega
      have HOW := Lib.hid hown
      have HBB := Lib.hid hb
      have hbs := hb.size
      have HGO : Hid (∀ (v' : Value) (w1 : World), w1.ownsRow w.heap.size 9 1 v' (ls.length + 1) (ls.map Value.string ++ [.string (s.extract f i)]) → (wr.alloc (.cells #[.string (s.extract f i)] 9)).grownBy w1 u5.ownBlock → w1.ownsRow w.heap.size 9 1 v' (ls ++ [s.extract f i]).length ((ls ++ [s.extract f i]).map Value.string) ∧ Below w.heap.size w w1) := fun v' w1 h1 h2 =>
        ⟨by simpa using h1, (hb.alloc (by omega) _).grown h2 (by simp; omega) (ownsRow_ge hown)⟩
      clear hown hb hcase
      by_cases hie : i = s.size
      · have t1 : ((i : Int) == (s.size : Int)) = true := by rw [hie]; simp
        have HEND : Hid (∀ (v' : Value) (w1 : World), w1.ownsRow w.heap.size 9 1 v' (ls ++ [s.extract f i]).length ((ls ++ [s.extract f i]).map Value.string) → Below w.heap.size w w1 → CutIn s c w w1 v' (i + 1) (i + 1)) := fun v' w1 h1 h2 =>
          ⟨ls ++ [s.extract f i], by simp; omega, h1, h2, .inr ⟨by omega, by
            have hl := HLEN.out
            rw [List.map_append, List.map_singleton, ext_take]
            have e1 : ((bL s).drop f).take (i - f) = (bL s).drop f := List.take_of_length_le (by simp; omega)
            rw [e1] at hno ⊢
            rw [← hcut, cutW_one c _ hno]⟩⟩
        clear hcut hno hie
        go_wp2_with (at_builtin; refine wpList_append_own _ rfl _ _ _ rfl w.heap.size 9 i0 _ 1 16 Tryz.underlying64 hi hz0 hz1 hz2 rfl (by omega) _ ls.length (ls.map Value.string) rfl (HOW.out.alloc _) ⟨wr.heap.size, 0, none⟩ 1 1 [.string (s.extract f i)] rfl rfl (cells1 _ _ _ _ (heap_alloc_new _ _)) (by simp [Value.oneCell']) (by unfold maxLen; omega) (by omega) (by simp; omega) ?_; intro v' w1 hown3 hgrow _)
        obtain ⟨ho4, hb4⟩ := HGO.out v' w1 hown3 hgrow
        have HC := Lib.hid (HEND.out v' w1 ho4 hb4)
        clear hown3 hgrow ho4 hb4
        go_wp2_with fail
        go_roundw
        case rel => exact ⟨i + 1, i + 1, by omega, by go_num, by go_num, HC.out⟩
        case measure => simp [intOf]; omega
      · have t1 : ((i : Int) == (s.size : Int)) = false := by simp; omega
        have x5 : (i : Int) < (s.size : Int) := by omega
        have hil : i < (bL s).length := by have := HLEN.out; omega
        have hbt : bt s i = ((bL s)[i].toNat : Int) := by rw [← gx i (by omega)]; rfl
        by_cases hc : (bL s)[i] = c
        · have t2 : (bt s i == (c.toNat : Int)) = true := by rw [hbt, hc]; simp
          have HEND : Hid (∀ (v' : Value) (w1 : World), w1.ownsRow w.heap.size 9 1 v' (ls ++ [s.extract f i]).length ((ls ++ [s.extract f i]).map Value.string) → Below w.heap.size w w1 → CutIn s c w w1 v' (i + 1) (i + 1)) := fun v' w1 h1 h2 =>
            ⟨ls ++ [s.extract f i], by simp; omega, h1, h2, .inl ⟨by omega, Nat.le_refl _, by
              rw [List.map_append, List.map_singleton, ext_take, ← hcut, cut_here hfi hil hno hc, List.append_assoc]; rfl, by simp⟩⟩
          clear hcut hno hie hbt hc
          go_wp2_with (at_builtin; refine wpList_append_own _ rfl _ _ _ rfl w.heap.size 9 i0 _ 1 16 Tryz.underlying64 hi hz0 hz1 hz2 rfl (by omega) _ ls.length (ls.map Value.string) rfl (HOW.out.alloc _) ⟨wr.heap.size, 0, none⟩ 1 1 [.string (s.extract f i)] rfl rfl (cells1 _ _ _ _ (heap_alloc_new _ _)) (by simp [Value.oneCell']) (by unfold maxLen; omega) (by omega) (by simp; omega) ?_; intro v' w1 hown3 hgrow _)
          obtain ⟨ho4, hb4⟩ := HGO.out v' w1 hown3 hgrow
          have HC := Lib.hid (HEND.out v' w1 ho4 hb4)
          clear hown3 hgrow ho4 hb4
          go_wp2_with fail
          go_roundw
          case rel => exact ⟨i + 1, i + 1, by omega, by go_num, by go_num, HC.out⟩
          case measure => simp [intOf]; omega
        · have t2 : (bt s i == (c.toNat : Int)) = false := by
            rw [hbt]
            refine beq_eq_false_iff_ne.2 (fun e => hc ?_)
            exact UInt8.toNat_inj.1 (by omega)
          have HC : Hid (CutIn s c w wr u5 (i + 1) f) := ⟨ls, by omega, HOW.out, HBB.out, .inl ⟨by omega, by omega, hcut, cut_same hfi hil hno hc⟩⟩
          clear hcut hno hie hbt hc HGO HOW HBB
          go_wp2_with fail
          go_roundw
          case rel => exact ⟨i + 1, f, by omega, by go_num, rfl, HC.out⟩
          case measure => simp [intOf]; omega
    · have x1 : ¬ (i : Int) ≤ (s.size : Int) := by omega
      obtain ⟨_, hfin⟩ := hcase.resolve_left (fun h => by omega)
      have HFIN : Hid (CutR s c w (.returned u5) wr) := ⟨ls, u5, rfl, hfin, hown, hb⟩
      clear hfin hown hb hcase
      go_wp2_with fail
      go_returns
      exact HFIN.out
end Go.Proofs.YtmgngapkgcofnaaGreatDoor
