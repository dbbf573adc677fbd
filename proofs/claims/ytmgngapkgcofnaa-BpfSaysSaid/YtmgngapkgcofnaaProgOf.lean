/- The reference's ProgramOf. -/
import Derived.Test.YtmgngapkgcofnaaPBytes
import Derived.Test.YtmgngapkgcofnaaFault
namespace Go.Proofs.Ytmgngapkgcofnaa
open Go.RowKit Go.PlainAid

def kdec (s : ByteArray) (m : Nat) : Nat → Int
  | 0 => 0
  | j + 1 => kdec s m j * 256 + bt s (8 * m + (7 - j))
theorem kdec_range (s : ByteArray) (m j : Nat) (h : j < 4) : 0 ≤ kdec s m j ∧ kdec s m j < 16777216 := by
  have b := fun i => bt_nonneg s i
  have c := fun i => bt_le s i
  match j, h with
  | 0, _ => simp [kdec]
  | 1, _ => have := b (8 * m + 7); have := c (8 * m + 7); simp only [kdec]; simp; omega
  | 2, _ => have := b (8 * m + 7); have := c (8 * m + 7); have := b (8 * m + 6); have := c (8 * m + 6); simp only [kdec]; simp; omega
  | 3, _ => have := b (8 * m + 7); have := c (8 * m + 7); have := b (8 * m + 6); have := c (8 * m + 6); have := b (8 * m + 5); have := c (8 * m + 5); simp only [kdec]; simp; omega
theorem kdec_four (s : ByteArray) (m : Nat) : kdec s m 4 = (insOf s m).k := by simp only [kdec, insOf]; simp; omega
def progF (s : ByteArray) : Option (List Ins) :=
  if s.size % 8 ≠ 0 ∨ 32768 < s.size then none
  else if checkF (insList s (s.size / 8)) = 0 ∧ strOfNums (encL (insList s (s.size / 8))) = s then some (insList s (s.size / 8)) else none
def ProgR (s : ByteArray) (e : Ending) (w' : World) : Prop :=
  match progF s with
  | none => e = .returned (.tuple #[.slice none 0 0, .bool false])
  | some l => ∃ v, e = .returned (.tuple #[v, .bool true]) ∧ InsSl w' w'.heap.size v l
theorem ProgR.no {s : ByteArray} {e : Ending} {w' : World} (h : progF s = none) (he : e = .returned (.tuple #[.slice none 0 0, .bool false])) : ProgR s e w' := by
  unfold ProgR; rw [h]; exact he
theorem ProgR.yes {s : ByteArray} {e : Ending} {w' : World} {l : List Ins} {v : Value} (h : progF s = some l) (he : e = .returned (.tuple #[v, .bool true])) (hs : InsSl w' w'.heap.size v l) : ProgR s e w' := by
  unfold ProgR; rw [h]; exact ⟨v, he, hs⟩
theorem toList_inj {a b : ByteArray} (h : a.toList = b.toList) : a = b := by
  rw [ByteArray.toList_eq, ByteArray.toList_eq] at h
  obtain ⟨⟨x⟩⟩ := a
  obtain ⟨⟨y⟩⟩ := b
  simp at h
  rw [h]
theorem ins_next (s : ByteArray) (k : Nat) :
    flat (insList s k) ++ [.int .i64 (bt s (8 * k)), .int .i64 (bt s (8 * k + 2)), .int .i64 (bt s (8 * k + 3)), .int .u32 (insOf s k).k] = flat (insList s (k + 1)) := by
  rw [insList_succ, flat_append]
  simp [flat, insOf]

set_option maxRecDepth 100000 in
set_option maxHeartbeats 2000000 in
theorem progOf_loop (s : ByteArray) (w : World) (h0 : s.size % 8 = 0) (h1 : s.size ≤ 32768) :
    Calls Try.prog 13 #[.string s] w fun e w' => ProgR s e w' ∧ Below w.heap.size w w' := by
  have HP : Hid (progF s = if checkF (insList s (s.size / 8)) = 0 ∧ strOfNums (encL (insList s (s.size / 8))) = s then some (insList s (s.size / 8)) else none) := by
    show progF s = _
    unfold progF; rw [if_neg (by omega)]
  obtain ⟨i0, hi, hz0, hz1, hz2⟩ := info_parts insInfo
  obtain ⟨n, hn, hn2⟩ : ∃ n, 8 * n ≤ s.size ∧ s.size ≤ 8 * n := ⟨s.size / 8, by omega⟩
  clear h0
  have t0 : decide (0 < ((s.size : Int) % 8)) = false := by simp; omega
  have t1 : decide (32768 < (s.size : Int)) = false := by simp; omega
  have gx := get_bt s
  go_enter Try.func13, Try.ntmps13
  go_wp2
  go_loopw [4, 5] (fun v i wr => ∃ k : Nat, k ≤ n ∧ i = .int .i64 (8 * (k : Int)) ∧ Below w.heap.size w wr ∧ wr.ownsRow w.heap.size 42 4 v k (flat (insList s k))) (fun _ i _ => s.size - (intOf i).toNat)
  case atStart => exact ⟨0, Nat.zero_le _, rfl, Below.refl _ _, World.ownsRow_nil _ _ _ _⟩
  case round =>
    obtain ⟨k, hk, rfl, hb, hown⟩ := hrel
    by_cases hlt : k < n
    · go_wp2_with fail
      obtain ⟨wo, rfl⟩ : ∃ wo : World, wo = wr := ⟨_, rfl⟩
      go_loopw [6, 7] (fun kv nv wi => ∃ j : Nat, j ≤ 4 ∧ nv = .int .i64 (7 - (j : Int)) ∧ kv = .int .u32 (kdec s k j) ∧ wi = wo) (fun _ nv _ => (intOf nv).toNat)
      case atStart => exact ⟨0, by omega, rfl, rfl, rfl⟩
      case round =>
        obtain ⟨j, hj, rfl, rfl, rfl⟩ := hrel
        by_cases hj4 : j < 4
        · obtain ⟨r0, r1⟩ := kdec_range s k j hj4
          have HX : Hid (kdec s k (j + 1) = kdec s k j * 256 + bt s (8 * k + (7 - j))) := rfl
          have c0 := bt_nonneg s (8 * k + (7 - j))
          have c1 := bt_le s (8 * k + (7 - j))
          generalize kdec s k j = z at *
          have hx : 8 * k + (7 - j) < s.size := by omega
          have hix : (8 * (k : Int) + (7 - (j : Int))).toNat = 8 * k + (7 - j) := by omega
          go_wp2
          go_roundw
          case rel => exact ⟨j + 1, by omega, congrArg (Value.int IntKind.i64) (by omega), by rw [HX.out], trivial⟩
          case measure => simp [intOf]; omega
        · obtain rfl : j = 4 := by omega
          rw [kdec_four]
          have hok := insOf_ok s k
          have HN := Lib.hid (ins_next s k)
          obtain ⟨K0, K1⟩ := hok
          generalize (insOf s k).k = K at *
          have c0 := bt_nonneg s (8 * k)
          have c1 := bt_le s (8 * k)
          have c2 := bt_nonneg s (8 * k + 2)
          have c3 := bt_le s (8 * k + 2)
          have c4 := bt_nonneg s (8 * k + 3)
          have c5 := bt_le s (8 * k + 3)
          have hbs := hb.size
          have HO : Hid (wr.drew.ownsRow w.heap.size 42 4 u4 k (flat (insList s k))) := hown
          clear hown
          have E0 := Lib.hid (IntWalk.i64_in (bt s (8 * k)) (by omega))
          have E2 := Lib.hid (IntWalk.i64_in (bt s (8 * k + 2)) (by omega))
          have E3 := Lib.hid (IntWalk.i64_in (bt s (8 * k + 3)) (by omega))
          have f0 : (8 * (k : Int)).toNat = 8 * k := by omega
          have f2 : (8 * (k : Int) + 2).toNat = 8 * k + 2 := by omega
          have f3 : (8 * (k : Int) + 3).toNat = 8 * k + 3 := by omega
          have x0 : 8 * k < s.size := by omega
          have x2 : 8 * k + 2 < s.size := by omega
          have x3 : 8 * k + 3 < s.size := by omega
          have p0 : (0 : Int) ≤ 8 * (k : Int) := by omega
          have p2 : (0 : Int) ≤ 8 * (k : Int) + 2 := by omega
          have p3 : (0 : Int) ≤ 8 * (k : Int) + 3 := by omega
          have y0 : 8 * (k : Int) < (s.size : Int) := by omega
          have y2 : 8 * (k : Int) + 2 < (s.size : Int) := by omega
          have y3 : 8 * (k : Int) + 3 < (s.size : Int) := by omega
          have q2 : IntKind.i64.wrap (8 * (k : Int) + 2) = 8 * (k : Int) + 2 := IntWalk.i64_in _ (by omega)
          have q3 : IntKind.i64.wrap (8 * (k : Int) + 3) = 8 * (k : Int) + 3 := IntWalk.i64_in _ (by omega)
          go_upto_region 12 with fail
          go_region_law (refine step_append_lies _ rfl (.tmp 36) (.tmp 53) _ rfl w.heap.size 42 i0 _ 4 32 Try.underlying23 hi hz0 hz1 hz2 rfl (by omega) u4 k (flat (insList s k)) (by simp [Act.eval]) (HO.out.alloc _) ⟨wr.heap.size, 0, none⟩ 1 1 [.int .i64 (bt s (8 * k)), .int .i64 (bt s (8 * k + 2)), .int .i64 (bt s (8 * k + 3)), .int .u32 K] (by simp [Act.eval]) rfl (ins_cells _ _ _ _ _ _ _ (heap_alloc_new _ _) (by simp only [E0.out, E2.out, E3.out])) (by simp [Value.oneCell']) (by omega) (by unfold maxLen; omega) (by omega) (by simp; omega) _ rfl ?_; intro g cap w' hown' hgrow hat hlt2)
          all_goals
            have hb2 : Below w.heap.size w w' := Below.grown (((hb.alloc hbs _)).drew) hgrow (by simp; omega) (own_ge HO.out)
            rw [HN.out] at hown'
            clear hgrow hat HO E0 E2 E3 q2 q3 hb
            go_wp2
            go_roundw
            case rel => exact ⟨k + 1, by omega, congrArg (Value.int IntKind.i64) (by omega), hb2, hown'⟩
            case measure => simp [intOf]; omega
    · obtain rfl : k = n := by omega
      have hnd : s.size / 8 = k := by omega
      have HP2 : Hid (progF s = if checkF (insList s k) = 0 ∧ strOfNums (encL (insList s k)) = s then some (insList s k) else none) := by
        show progF s = _
        rw [HP.out, hnd]
      have hsl := insSl_of_own (l := insList s k) (by rw [insList_length]; exact hown) (insList_ok s k)
      have hll : (insList s k).length ≤ 4096 := by rw [insList_length]; omega
      have hsame : 8 * (k : Int) = (s.size : Int) := by omega
      have hnot : ¬ (8 * (k : Int) < (s.size : Int)) := by omega
      have HS := Lib.hid hsl
      clear hnd hown HP hsl gx hsame
      by_cases hc : checkF (insList s k) = 0
      · have HE := Lib.hid hc
        by_cases hstr : strOfNums (encL (insList s k)) = s
        · have HF : Hid (progF s = some (insList s k)) := by show _ = _; rw [HP2.out, if_pos ⟨hc, hstr⟩]
          have HB : Hid (strOfNums (encL (insList s k)) = s) := hstr
          clear hc HP2 hstr
          go_wp2_with (first
            | (go_at_call 23; refine (fault_any _ _ _ HS.out (by omega)).mono ?_; rintro e w1 ⟨rfl, hb1⟩; rw [HE.out])
            | (go_at_call 28; refine (pbytes_any _ _ _ ((HS.out.below hb1).mono hb1.size) hll).mono ?_; rintro e w2 ⟨rfl, hb2⟩; rw [HB.out]))
          go_ret2
          exact ⟨ProgR.yes HF.out rfl ((((HS.out.below hb1).mono hb1.size).below hb2).mono hb2.size), below_then (below_then hb (Nat.le_refl _) hb1) (Nat.le_refl _) hb2⟩
        · have HF : Hid (progF s = none) := by show _ = _; rw [HP2.out, if_neg (fun h => hstr h.2)]
          have hq : ((strOfNums (encL (insList s k))).toList == s.toList) = false := by
            exact beq_eq_false_iff_ne.2 fun h => hstr (toList_inj h)
          clear hc HP2 hstr
          have hpb := fun v w' h => pbytes_any v (insList s k) w' h hll
          have HA := Lib.hid hpb
          clear hpb
          generalize strOfNums (encL (insList s k)) = X at hq HA
          go_wp2_with (first
            | (go_at_call 23; refine (fault_any _ _ _ HS.out (by omega)).mono ?_; rintro e w1 ⟨rfl, hb1⟩; rw [HE.out])
            | (go_at_call 28; refine (HA.out _ _ ((HS.out.below hb1).mono hb1.size)).mono ?_; rintro e w2 ⟨rfl, hb2⟩))
          go_ret2
          exact ⟨ProgR.no HF.out rfl, below_then (below_then hb (Nat.le_refl _) hb1) (Nat.le_refl _) hb2⟩
      · have HF : Hid (progF s = none) := by show _ = _; rw [HP2.out, if_neg (fun h => hc h.1)]
        have hpos : 0 < checkF (insList s k) := by have := checkF_range (insList s k); omega
        clear hc HP2
        have hll2 : (insList s k).length ≤ 140737488355328 := by omega
        have hfa := fun w' h => fault_any u4 (insList s k) w' h hll2
        have HA := Lib.hid hfa
        clear hfa
        generalize checkF (insList s k) = z at HA hpos
        go_wp2_with (go_at_call 23; refine (HA.out _ HS.out).mono ?_; rintro e w1 ⟨rfl, hb1⟩)
        go_ret2
        exact ⟨ProgR.no HF.out rfl, below_then hb (Nat.le_refl _) hb1⟩

end Go.Proofs.Ytmgngapkgcofnaa
