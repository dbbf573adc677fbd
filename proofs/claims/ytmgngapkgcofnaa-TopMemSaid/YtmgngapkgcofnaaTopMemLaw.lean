/- What is sealed stays: plain law; touch and is: the walks. -/
import Derived.Test.YtmgngapkgcofnaaMemSaysW
import Derived.Deep.RegionHeld3
import Derived.BigQuiet
import Derived.Deep.QuietTactic
namespace Go.Proofs.Ytmgngapkgcofnaa
open Go.RowKit Go.PlainAid

def touch1 (S : MemS) (x : ActD) : MemS := if (x.kind.toList == ([109, 97, 112] : List UInt8)) = true then mapS S x.n x.wr else if (x.kind.toList == ([117, 110, 109, 97, 112] : List UInt8)) = true then unmapS S x.n else putS S x.a.toNat x.s
def touchN (S : MemS) (l : List ActD) : Nat → MemS
  | 0 => S
  | k + 1 => match l[k]? with
    | some x => touch1 (touchN S l k) x
    | none => touchN S l k
theorem mapS_sl (S : MemS) (n : Int) (wr : Bool) : (mapS S n wr).sl = S.sl := by unfold mapS; split <;> rfl
theorem unmapS_sl (S : MemS) (n : Int) : (unmapS S n).sl = S.sl := by unfold unmapS; split <;> rfl
theorem putS_sl (S : MemS) (a : Nat) (s : ByteArray) : (putS S a s).sl = S.sl := by
  unfold putS
  split
  · exact putN_sl _ _ _ _
  · rfl
theorem touch1_sl (S : MemS) (x : ActD) : (touch1 S x).sl = S.sl := by
  unfold touch1; split
  · exact mapS_sl _ _ _
  · split
    · exact unmapS_sl _ _
    · exact putS_sl _ _ _
theorem touchN_sl (S : MemS) (l : List ActD) : ∀ k, (touchN S l k).sl = S.sl := by
  intro k
  induction k with
  | zero => rfl
  | succ k ih =>
    rw [touchN]
    split
    · rw [touch1_sl, ih]
    · exact ih
/-- The bytes of a text, read back. -/
theorem back_text (s : ByteArray) : strOfNums ((List.range s.size).map (bt s)) = s := by
  have h : (strOfNums ((List.range s.size).map (bt s))).data.toList = s.data.toList := by
    rw [strOfNums_data]
    apply List.ext_getElem
    · simp
    · intro i h1 h2
      have hi : i < s.size := by simpa using h2
      simp only [List.getElem_map, List.getElem_range]
      unfold bt
      rw [dif_pos hi]
      simp
      rfl
  have h2 : (strOfNums ((List.range s.size).map (bt s))).data = s.data := Array.toList_inj.1 h
  cases s
  cases hs : strOfNums _
  rw [hs] at h2
  simp only at h2
  rw [h2]
theorem readL_range {f : Nat → Option Int} {a : Nat} {g : Nat → Int} : ∀ n, (∀ k, k < n → f ((a + k) % 18446744073709551616) = some (g k)) → readL f a n = some ((List.range n).map g) := by
  intro n
  induction n with
  | zero => intro _; rfl
  | succ n ih =>
    intro h
    rw [readL, ih (fun k hk => h k (by omega)), h n (by omega), List.range_succ, List.map_append]; rfl
theorem get_sealed {S : MemS} {i : Nat} (hi : i < 4) (s : ByteArray) (hs : s.size ≤ 64) (h : S.sl i = some (bt s)) : getP (byteS S) (512 + 64 * i) s.size = (s, 0) := by
  unfold getP
  rw [if_neg (by omega), show ((s.size : Int)).toNat = s.size from by simp]
  rw [readL_range s.size (g := bt s) (fun k hk => ?_)]
  · simp only; rw [back_text]
  · unfold byteS
    rw [show (512 + 64 * i + k) % 18446744073709551616 = 512 + 64 * i + k from by omega, if_neg (by omega), if_pos (by omega), show (512 + 64 * i + k) / 64 - 8 = i from by omega, h]
    simp only [Option.map_some]
    rw [show (512 + 64 * i + k) % 64 = k from by omega]
theorem ffF_first {S : MemS} (h : S.sl 0 = none) : ffF S 4 0 = some 0 := by rw [ffF, h]; rfl
theorem ffF_second {S : MemS} (h : (S.sl 0).isSome = true) (h1 : S.sl 1 = none) : ffF S 4 0 = some 1 := by rw [ffF, if_pos h, ffF, h1]; rfl

theorem tassert_errno (n : Int) (w : World) : (Instr.typeAssert (.iface 114 (.int .i64 n)) 25 114 true).run Try.prog w = .ok (.tuple #[.int .i64 n, .bool true]) w := by kernel_rfl
theorem is_any (n f : Int) (w : World) (hn : 0 ≤ n) :
    Calls Try.prog 59 #[errV n, .int .i64 f] w fun e w' => e = .returned (.bool (decide (n = f))) ∧ w = w' := by
  by_cases h : n = 0
  · subst h
    rw [errV_zero]
    go_enter Try.func59, Try.ntmps59
    go_wp2
    go_ret
    refine ⟨ret_bool ?_, rfl⟩
    rw [Bool.eq_iff_iff]; simp <;> omega
  · rw [errV_pos h]
    have h1 : 1 ≤ n := by omega
    clear h hn
    have ha := tassert_errno
    go_enter Try.func59, Try.ntmps59
    go_wp2
    all_goals
      go_ret
      refine ⟨ret_bool ?_, rfl⟩
      rw [Bool.eq_iff_iff]; simp <;> omega

theorem ActRow.but {w w' : World} {b o m : Nat} {l : List ActD} (h : ActRow w b o l) (hb : But m w w') (hB : b < w.heap.size) (hm : b ≠ m) : ActRow w' b o l := fun i x hx j v hv => by
  rw [← h i x hx j v hv]
  unfold World.cell?
  simp only
  rw [hb.block b hB hm]

set_option linter.unusedSimpArgs false in
set_option maxRecDepth 100000 in
set_option maxHeartbeats 4000000 in
theorem touch_any (m H : Nat) (B : Nat → Prop) (S : MemS) (v : Value) (l : List ActD) (w : World) (h : ActsSl w H v l) (hm : MemAt w B m S) (hH : H ≤ m) (hlen : l.length ≤ 4096) (hsh : ∀ x ∈ l, x.s.size ≤ 200) :
    Calls Try.prog 57 #[.pointer (some ⟨m, 0, none⟩), v] w fun e w' => e = .returned (.tuple #[]) ∧ MemAt w' B m (touchN S l l.length) ∧ But m w w' := by
  obtain ⟨hok, A, c, rfl, hr⟩ := h
  have hmlt : m < w.heap.size := by obtain ⟨_, _, hb, _⟩ := hm.rep; exact hb.lt
  have HOK := Lib.hid hok
  have HR := Lib.hid hr
  have HSH := Lib.hid hsh
  have HM := Lib.hid hm
  clear hok hr hsh hm
  go_enter Try.func57, Try.ntmps57
  go_wp2_with fail
  go_loopw [4] (fun iv wr => ∃ k : Nat, k ≤ l.length ∧ iv = .int .i64 k ∧ Hid (MemAt wr B m (touchN S l k)) ∧ Hid (But m w wr)) (fun iv _ => l.length - (intOf iv).toNat)
  case atStart => exact ⟨0, Nat.zero_le _, rfl, HM, But.refl _ _⟩
  case round =>
    obtain ⟨k, hk, rfl, hMk, hBt⟩ := hrel
    by_cases hlt : k < l.length
    · have x1 : (k : Int) < (l.length : Int) := by omega
      have x2 : (0 : Int) ≤ (k : Int) := by omega
      have hl : l[k]? = some l[k] := by simp
      obtain ⟨b, o, rfl, hb, hrow⟩ := HR.out.resolve_left (by intro e; rw [e] at hlt; simp at hlt)
      have hrow1 := hrow.but hBt.out (by omega) (by omega) k _ hl
      have hsz := HSH.out l[k] (by simp)
      obtain ⟨_, ha0, _, _, _⟩ := HOK.out l[k] (by simp)
      have HT : Hid (touchN S l (k + 1) = touch1 (touchN S l k) l[k]) := by show _ = _; rw [touchN, hl]
      have f0 : wr.cell? ⟨b, o + k * 11, none⟩ = some (.string l[k].kind) := hrow1 0 _ rfl
      have f1 := hrow1 1 _ rfl
      have f2 := hrow1 2 _ rfl
      have f3 := hrow1 3 _ rfl
      have f4 := hrow1 4 _ rfl
      obtain ⟨a, ha⟩ : ∃ a : Nat, l[k].a = a := ⟨l[k].a.toNat, by omega⟩
      have HT1 : Hid (touch1 (touchN S l k) l[k] = if (l[k].kind.toList == ([109, 97, 112] : List UInt8)) = true then mapS (touchN S l k) l[k].n l[k].wr else if (l[k].kind.toList == ([117, 110, 109, 97, 112] : List UInt8)) = true then unmapS (touchN S l k) l[k].n else putS (touchN S l k) a l[k].s) := by
        show _ = _; unfold touch1; rw [ha]; rfl
      rw [ha] at f2
      have ha2 : a < 18446744073709551616 := by omega
      have HN : Hid (∀ S' w', touch1 (touchN S l k) l[k] = S' → MemAt w' B m S' → But m wr w' → MemAt w' B m (touchN S l (k + 1)) ∧ But m w w') := fun S' w' h1 h2 h3 => by rw [HT.out, h1]; exact ⟨h2, hBt.out.trans h3⟩
      have hblt : b < wr.heap.size := by have := hBt.out.size; omega
      have hbm : b ≠ m := by omega
      have HZ : Hid (∀ w' : World, But m wr.drew w' → w'.cell? ⟨b, o + k * 11 + 1, none⟩ = some (.int .i64 l[k].n) ∧ w'.cell? ⟨b, o + k * 11 + 2, none⟩ = some (.int .u64 a) ∧ w'.cell? ⟨b, o + k * 11 + 3, none⟩ = some (.string l[k].s) ∧ w'.cell? ⟨b, o + k * 11 + 4, none⟩ = some (.bool l[k].wr)) := fun w' h => by
        have hc : ∀ j, w'.cell? ⟨b, j, none⟩ = wr.cell? ⟨b, j, none⟩ := fun j => by
          unfold World.cell?
          simp only
          rw [h.block b hblt hbm]; rfl
        exact ⟨(hc _).trans f1, (hc _).trans f2, (hc _).trans f3, (hc _).trans f4⟩
      clear hrow1 hrow ha ha0 HT hBt
      generalize l[k].kind = kind at *
      generalize l[k].n = n at *
      generalize l[k].s = s at *
      generalize l[k].wr = wb at *
      have hMd : MemAt wr.drew B m (touchN S l k) := hMk.out.drew
      have HMd := Lib.hid hMd
      clear hMd
      cases q0 : (kind.toList == ([109, 97, 112] : List UInt8)) with
      | true =>
        have hT2 : touch1 (touchN S l k) l[k] = mapS (touchN S l k) n wb := by rw [HT1.out, if_pos q0]
        have HN2 : Hid (∀ w', MemAt w' B m (mapS (touchN S l k) n wb) → But m wr.drew w' → MemAt w' B m (touchN S l (k + 1)) ∧ But m w w') := fun w' h1 h2 => HN.out _ w' hT2 h1 ((But.of_drew wr).trans h2)
        have HC : Hid (∀ w1, MemAt w1 B m (touchN S l k) → Calls Try.prog 32 #[.pointer (some ⟨m, 0, none⟩), .int .i64 n, .bool wb] w1 fun e w' => (∃ v, e = .returned v) ∧ MemAt w' B m (mapS (touchN S l k) n wb) ∧ But m w1 w') := fun w1 h => (memMap_any m B _ n wb w1 h).mono fun _ _ ⟨h1, h2, h3⟩ => ⟨⟨_, h1⟩, h2, h3⟩
        clear hT2 HN HT1
        generalize touchN S l k = Sk at *
        go_upto_region 6 with fail
        go_region_held3 (fun w' : World => w'.cell? ⟨b, o + k * 11 + 1, none⟩ = some (.int .i64 n) ∧ w'.cell? ⟨b, o + k * 11 + 2, none⟩ = some (.int .u64 a) ∧ w'.cell? ⟨b, o + k * 11 + 3, none⟩ = some (.string s) ∧ w'.cell? ⟨b, o + k * 11 + 4, none⟩ = some (.bool wb)) (first | exact HZ.out _ (But.refl _ _) | exact HZ.out _ hb4) (first
          | (go_at_call 32; refine calls_args (by simp [Act.eval]) ((HC.out _ HMd.out).mono ?_); rintro e w4 ⟨⟨v4, rfl⟩, hm4, hb4⟩))
        obtain ⟨HE1, HE2⟩ := HN2.out _ hm4 hb4
        go_wp2_with fail
        go_roundw
        case rel => exact ⟨k + 1, by omega, by go_num, HE1, HE2⟩
        case measure => simp [intOf]; omega
      | false =>
        cases q1 : (kind.toList == ([117, 110, 109, 97, 112] : List UInt8)) with
        | true =>
          have hT2 : touch1 (touchN S l k) l[k] = unmapS (touchN S l k) n := by rw [HT1.out, if_neg (by rw [q0]; decide), if_pos q1]
          have HN2 : Hid (∀ w', MemAt w' B m (unmapS (touchN S l k) n) → But m wr.drew w' → MemAt w' B m (touchN S l (k + 1)) ∧ But m w w') := fun w' h1 h2 => HN.out _ w' hT2 h1 ((But.of_drew wr).trans h2)
          have HC : Hid (∀ w1, MemAt w1 B m (touchN S l k) → Calls Try.prog 34 #[.pointer (some ⟨m, 0, none⟩), .int .i64 n] w1 fun e w' => (∃ v, e = .returned v) ∧ MemAt w' B m (unmapS (touchN S l k) n) ∧ But m w1 w') := fun w1 h => (memUnmap_any m B _ n w1 h).mono fun _ _ ⟨h1, h2, h3⟩ => ⟨⟨_, h1⟩, h2, h3⟩
          clear hT2 HN HT1
          generalize touchN S l k = Sk at *
          go_wp2_with (go_at_call 34; refine calls_args (by simp [Act.eval]) ((HC.out _ hMk.out).mono ?_); rintro e w4 ⟨⟨v4, rfl⟩, hm4, hb4⟩)
          obtain ⟨HE1, HE2⟩ := HN2.out _ hm4 ⟨hb4.os, hb4.tape, hb4.output, hb4.size, hb4.block⟩
          go_roundw
          case rel => exact ⟨k + 1, by omega, by go_num, HE1, HE2⟩
          case measure => simp [intOf]; omega
        | false =>
          have hT2 : touch1 (touchN S l k) l[k] = putS (touchN S l k) a s := by rw [HT1.out, if_neg (by rw [q0]; decide), if_neg (by rw [q1]; decide)]
          have HN2 : Hid (∀ w', MemAt w' B m (putS (touchN S l k) a s) → But m wr.drew w' → MemAt w' B m (touchN S l (k + 1)) ∧ But m w w') := fun w' h1 h2 => HN.out _ w' hT2 h1 ((But.of_drew wr).trans h2)
          have hs4 : s.size ≤ 4096 := by omega
          have HC : Hid (∀ w1, MemAt w1 B m (touchN S l k) → Calls Try.prog 36 #[.pointer (some ⟨m, 0, none⟩), .int .u64 a, .string s] w1 fun e w' => (∃ v, e = .returned v) ∧ MemAt w' B m (putS (touchN S l k) a s) ∧ But m w1 w') := fun w1 h => (memPut_any m B _ a s w1 h hs4).mono fun _ _ ⟨h1, h2, h3⟩ => ⟨⟨_, h1⟩, h2, h3⟩
          clear hT2 HN HT1
          generalize touchN S l k = Sk at *
          go_upto_region 4 with fail
          go_region_held3 (fun w' : World => w'.cell? ⟨b, o + k * 11 + 1, none⟩ = some (.int .i64 n) ∧ w'.cell? ⟨b, o + k * 11 + 2, none⟩ = some (.int .u64 a) ∧ w'.cell? ⟨b, o + k * 11 + 3, none⟩ = some (.string s) ∧ w'.cell? ⟨b, o + k * 11 + 4, none⟩ = some (.bool wb)) (first | exact HZ.out _ (But.refl _ _) | exact HZ.out _ hb4) (first
            | (go_at_call 36; refine calls_args (by simp [Act.eval]) ((HC.out _ HMd.out).mono ?_); rintro e w4 ⟨⟨v4, rfl⟩, hm4, hb4⟩))
          obtain ⟨HE1, HE2⟩ := HN2.out _ hm4 hb4
          go_wp2_with fail
          go_roundw
          case rel => exact ⟨k + 1, by omega, by go_num, HE1, HE2⟩
          case measure => simp [intOf]; omega
    · obtain rfl : k = l.length := by omega
      go_wp2_with fail
      go_returns
      exact ⟨rfl, hMk.out, hBt.out⟩

end Go.Proofs.Ytmgngapkgcofnaa
