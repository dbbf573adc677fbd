/- Package mem: Get, Text: the walks. -/
import Derived.Test.YtmgngapkgcofnaaMemOps2
import Derived.Test.YtmgngapkgcofnaaEnc
import Derived.Maps.AppendAt
import Derived.OwnWalk
namespace Go.Proofs.Ytmgngapkgcofnaa
open Go.RowKit Go.PlainAid

theorem wrap_sum (a k : Nat) : IntKind.u64.wrap ((a : Int) + (k : Int)) = (((a + k) % 18446744073709551616 : Nat) : Int) := by
  rw [IntKind.wrap_u64]; omega
/-- Bytes from an address on. -/
def readL (f : Nat → Option Int) (a : Nat) : Nat → Option (List Int)
  | 0 => some []
  | n + 1 => match readL f a n with
    | none => none
    | some l => (f ((a + n) % 18446744073709551616)).map (l ++ [·])
theorem readL_none {f : Nat → Option Int} {a k : Nat} (h : readL f a k = none) : ∀ n, k ≤ n → readL f a n = none := by
  intro n hn
  induction n with
  | zero => obtain rfl : k = 0 := by omega
            exact h
  | succ n ih =>
    by_cases e : k = n + 1
    · rw [← e]; exact h
    · rw [readL, ih (by omega)]
theorem readL_length {f : Nat → Option Int} {a : Nat} : ∀ {n l}, readL f a n = some l → l.length = n := by
  intro n
  induction n with
  | zero => intro l h; simp [readL] at h; subst h; rfl
  | succ n ih =>
    intro l h
    rw [readL] at h
    cases hr : readL f a n with
    | none => rw [hr] at h; simp at h
    | some l' =>
      rw [hr] at h
      simp only [Option.map_eq_some_iff] at h
      obtain ⟨v, _, rfl⟩ := h
      simp [ih hr]
theorem memByte_int (m : Nat) (B : Nat → Prop) (S : MemS) (x : Int) (w : World) (h : MemAt w B m S) (h0 : 0 ≤ x) (h1 : x < 18446744073709551616) :
    Calls Try.prog 46 #[.pointer (some ⟨m, 0, none⟩), .int .u64 x] w fun e w' => e = .returned (byteV S x.toNat) ∧ w = w' := by
  have := memByte_any m B S x.toNat w h (by omega)
  rw [show ((x.toNat : Nat) : Int) = x from by omega] at this
  exact this
theorem MemAt.below {w w' : World} {B : Nat → Prop} {m H : Nat} {S : MemS} (h : MemAt w B m S) (hb : Below H w w') (hH : w.heap.size ≤ H) : MemAt w' B m S := by
  obtain ⟨h1, h2, C, sp, h3, h4, h5⟩ := h
  refine ⟨h1, h2, C, sp, (hb.block m (Nat.lt_of_lt_of_le h3.lt hH)).trans h3, h4, fun i hi => ?_⟩
  have := h5 i hi
  unfold SealAt at *
  split at this
  · trivial
  · exact ⟨this.1, this.2.1, (hb.block _ (Nat.lt_of_lt_of_le this.2.2.lt hH)).trans this.2.2⟩
  · exact this.elim
theorem byteS_range {S : MemS} (h : S.ok) {a : Nat} {v : Int} (hv : byteS S a = some v) : 0 ≤ v ∧ v ≤ 255 := by
  unfold byteS at hv
  split at hv
  · split at hv
    · simp at hv; rw [← hv]; exact h.1 _ _
    · simp at hv
  · split at hv
    · simp only [Option.map_eq_some_iff] at hv
      obtain ⟨f, hf, rfl⟩ := hv
      exact h.2 _ _ hf _
    · simp at hv

theorem cell1 (W : World) (b : Nat) (t : TypeId) (v : Value) (hc : W.heap[b]? = some (.cells #[v] t (0, 0))) :
    ∀ (j : Nat) (u : Value), [v][j]? = some u → W.cell? ((⟨b, 0, none⟩ : Addr).add j) = some u := by
  intro j u hu
  match j, hu with
  | 0, hu => simp at hu; subst hu; simp [Addr.add, World.cell?, hc]
def sliceLen : Value → Nat
  | .slice _ n _ => n
  | _ => 0
/-- What Get answers. -/
def getV (f : Nat → Option Int) (a : Nat) (n : Int) : Value :=
  if n < 0 ∨ 512 < n then .tuple #[.string ⟨#[]⟩, .iface 114 (.int .i64 1)]
  else match readL f a n.toNat with
    | some l => .tuple #[.string (strOfNums l), .nilIface]
    | none => .tuple #[.string ⟨#[]⟩, .iface 114 (.int .i64 5)]

set_option linter.unusedSimpArgs false in
set_option maxHeartbeats 2000000 in
theorem memGet_any (m : Nat) (B : Nat → Prop) (S : MemS) (a : Nat) (n : Int) (w : World) (h : MemAt w B m S) :
    Calls Try.prog 38 #[.pointer (some ⟨m, 0, none⟩), .int .u64 a, .int .i64 n] w fun e w' => e = .returned (getV (byteS S) a n) ∧ Below w.heap.size w w' := by
  by_cases h1 : n < 0 ∨ 512 < n
  · have HV : Hid (getV (byteS S) a n = .tuple #[.string ⟨#[]⟩, .iface 114 (.int .i64 1)]) := if_pos h1
    by_cases h2 : n < 0
    · clear h1 h
      go_enter Try.func38, Try.ntmps38
      go_wp2_with fail
      go_ret2
      exact ⟨by rw [HV.out]; rfl, Below.refl _ _⟩
    · have h3 : 512 < n := by omega
      clear h1 h
      go_enter Try.func38, Try.ntmps38
      go_wp2_with fail
      go_ret2
      exact ⟨by rw [HV.out]; rfl, Below.refl _ _⟩
  · obtain ⟨N, rfl⟩ : ∃ N : Nat, n = N := ⟨n.toNat, by omega⟩
    have HV : Hid (getV (byteS S) a N = match readL (byteS S) a N with
      | some l => .tuple #[.string (strOfNums l), .nilIface]
      | none => .tuple #[.string ⟨#[]⟩, .iface 114 (.int .i64 5)]) := by show _ = _; unfold getV; rw [if_neg h1]; simp
    have y1 : ¬ (N : Int) < 0 := by omega
    have y2 : ¬ (512 : Int) < (N : Int) := by omega
    have hN : N ≤ 512 := by omega
    obtain ⟨i0, hi, hz0, hz1, hz2⟩ := info_parts u8Info
    have H := Lib.hid h
    clear h h1
    go_enter Try.func38, Try.ntmps38
    go_wp2_with fail
    go_loopw [8, 20] (fun ov iv wr => ∃ (k : Nat) (l : List Int), k ≤ N ∧ iv = .int .i64 k ∧ Hid (readL (byteS S) a k = some l) ∧ Hid (wr.ownsRow w.heap.size 5 1 ov k (u8s l)) ∧ Below w.heap.size w wr) (fun _ iv _ => N - (intOf iv).toNat)
    case atStart => exact ⟨0, [], Nat.zero_le _, rfl, rfl, World.ownsRow_nil _ _ _ _, Below.refl _ _⟩
    case round =>
      obtain ⟨k, l, hk, rfl, hl, hown, hb⟩ := hrel
      by_cases hlt : k < N
      · have x1 : (k : Int) < (N : Int) := by omega
        have x2 : (0 : Int) ≤ (k : Int) := by omega
        have hM : MemAt wr B m S := H.out.below hb (Nat.le_refl _)
        have HM := Lib.hid hM
        have hbs := hb.size
        clear hM
        have hw := wrap_sum a k
        have hlen := readL_length hl.out
        obtain ⟨X, hX⟩ : ∃ X, Hid ((a + k) % 18446744073709551616 = X) := ⟨_, rfl⟩
        have hX1 : X < 18446744073709551616 := by rw [← hX.out]; omega
        rw [hX.out] at hw
        cases hby : byteS S X with
        | none =>
          have hR : Hid (readL (byteS S) a N = none) := by
            refine readL_none (k := k + 1) ?_ N hlt
            rw [readL, hl.out]
            simp only
            rw [hX.out, hby]; rfl
          have hBV : Hid (byteV S X = .tuple #[.int .u8 0, .iface 114 (.int .i64 5)]) := by show _ = _; unfold byteV; rw [hby]
          clear hby
          go_wp2_with (go_at_call 46; refine (memByte_any m B S X _ HM.out hX1).mono ?_; rintro e w1 ⟨rfl, rfl⟩; rw [hBV.out])
          go_ret2
          exact ⟨by rw [HV.out, hR.out]; rfl, hb⟩
        | some v =>
          have hR : Hid (readL (byteS S) a (k + 1) = some (l ++ [v])) := by
            show _ = _
            rw [readL, hl.out]
            simp only
            rw [hX.out, hby]; rfl
          have hBV : Hid (byteV S X = .tuple #[.int .u8 v, .nilIface]) := by show _ = _; unfold byteV; rw [hby]
          clear hby
          go_wp2_with (first
            | (go_at_call 46; refine (memByte_any m B S X _ HM.out hX1).mono ?_; rintro e w1 ⟨rfl, rfl⟩; rw [hBV.out])
            | (at_builtin; refine wpList_append_own _ rfl _ _ _ rfl w.heap.size 5 i0 _ 1 1 Try.underlying131 hi hz0 hz1 hz2 rfl (by omega) _ k (u8s l) rfl (hown.out.alloc _) ⟨wr.heap.size, 0, none⟩ 1 1 [.int .u8 v] rfl rfl (cell1 _ _ _ _ (heap_alloc_new _ _)) (by simp [Value.oneCell']) (by unfold maxLen; omega) (by omega) (by simp; omega) ?_; intro v' w1 hown3 hgrow _))
          have hb4 : Below w.heap.size w w1 := (hb.alloc (by omega) _).grown hgrow (by simp; omega) (own_ge hown.out)
          have hown4 : Hid (w1.ownsRow w.heap.size 5 1 v' (k + 1) (u8s (l ++ [v]))) := by rw [u8s, List.map_append]; exact hown3
          clear hown3 hgrow hown
          go_wp2_with fail
          go_roundw
          case rel => exact ⟨k + 1, l ++ [v], by omega, by go_num, hR, hown4, hb4⟩
          case measure => simp [intOf]; omega
      · obtain rfl : k = N := by omega
        have hc := conv_own hown.out
        have hR := hl
        clear hown hl
        go_wp2_with fail
        go_ret2
        exact ⟨by rw [HV.out, hR.out]; rfl, hb⟩

theorem own_form {w : World} {B : Nat} {e : TypeId} {sz n : Nat} {v : Value} {xs : List Value} (h : w.ownsRow B e sz v n xs) : ∃ A c, v = .slice A n c := by
  rcases h.2 with ⟨rfl, rfl⟩ | ⟨g, cap, cur, rfl, _⟩
  · exact ⟨none, 0, rfl⟩
  · exact ⟨_, _, rfl⟩
/-- What Text answers, behind so many bytes. -/
def textR (f : Nat → Option Int) (a : Nat) : Nat → List Int → Value
  | 0, _ => undef
  | n + 1, l => match f ((a + l.length) % 18446744073709551616) with
    | none => .tuple #[.string ⟨#[]⟩, .iface 114 (.int .i64 5)]
    | some v => if v = 0 then .tuple #[.string (strOfNums l), .nilIface] else if l.length = 40 then .tuple #[.string ⟨#[]⟩, .iface 114 (.int .i64 6)] else textR f a n (l ++ [v])
def textV (f : Nat → Option Int) (a : Nat) : Value := textR f a 41 []

set_option linter.unusedSimpArgs false in
set_option maxHeartbeats 2000000 in
theorem memText_any (m : Nat) (B : Nat → Prop) (S : MemS) (a : Nat) (w : World) (h : MemAt w B m S) :
    Calls Try.prog 40 #[.pointer (some ⟨m, 0, none⟩), .int .u64 a] w fun e w' => e = .returned (textV (byteS S) a) ∧ Below w.heap.size w w' := by
  obtain ⟨i0, hi, hz0, hz1, hz2⟩ := info_parts u8Info
  have H := Lib.hid h
  obtain ⟨RES, hRES⟩ : ∃ R, Hid (textV (byteS S) a = R) := ⟨_, rfl⟩
  clear h
  rw [hRES.out]
  go_enter Try.func40, Try.ntmps40
  go_wp2_with fail
  go_loopw [6] (fun ov wr => ∃ (n : Nat) (l : List Int) (A : Option Addr) (c : Nat), ov = .slice A l.length c ∧ n + l.length = 41 ∧ 0 < n ∧ Hid (RES = textR (byteS S) a n l) ∧ Hid (wr.ownsRow w.heap.size 5 1 (.slice A l.length c) l.length (u8s l)) ∧ Below w.heap.size w wr) (fun ov _ => 41 - sliceLen ov)
  case atStart => exact ⟨41, [], none, 0, rfl, rfl, by omega, hRES.out.symm, World.ownsRow_nil _ _ _ _, Below.refl _ _⟩
  case round =>
    obtain ⟨n, l, A, c, rfl, hn, hn0, hR, hown, hb⟩ := hrel
    obtain ⟨n, rfl⟩ : ∃ j, n = j + 1 := ⟨n - 1, by omega⟩
    have hM : MemAt wr B m S := H.out.below hb (Nat.le_refl _)
    have HM := Lib.hid hM
    have hbs := hb.size
    clear hM
    have hw := wrap_sum a l.length
    obtain ⟨X, hX⟩ : ∃ X, Hid ((a + l.length) % 18446744073709551616 = X) := ⟨_, rfl⟩
    have hX1 : X < 18446744073709551616 := by rw [← hX.out]; omega
    rw [hX.out] at hw
    have x1 : (0 : Int) ≤ (l.length : Int) := by omega
    have x2 : (l.length : Int) ≤ 40 := by omega
    cases hby : byteS S X with
    | none =>
      have hF : Hid (RES = .tuple #[.string ⟨#[]⟩, .iface 114 (.int .i64 5)]) := by
        show _ = _
        rw [hR.out, textR, hX.out, hby]
      have hBV : Hid (byteV S X = .tuple #[.int .u8 0, .iface 114 (.int .i64 5)]) := by show _ = _; unfold byteV; rw [hby]
      clear hby hR
      go_wp2_with (go_at_call 46; refine (memByte_any m B S X _ HM.out hX1).mono ?_; rintro e w1 ⟨rfl, rfl⟩; rw [hBV.out])
      go_ret2
      exact ⟨by rw [hF.out]; rfl, hb⟩
    | some v =>
      have hBV : Hid (byteV S X = .tuple #[.int .u8 v, .nilIface]) := by show _ = _; unfold byteV; rw [hby]
      by_cases hv : v = 0
      · have hF : Hid (RES = .tuple #[.string (strOfNums l), .nilIface]) := by
          show _ = _
          rw [hR.out, textR, hX.out, hby]; simp only; rw [if_pos hv]
        have hc := conv_own hown.out
        subst hv
        clear hby hR hown
        go_wp2_with (go_at_call 46; refine (memByte_any m B S X _ HM.out hX1).mono ?_; rintro e w1 ⟨rfl, rfl⟩; rw [hBV.out])
        go_ret2
        exact ⟨by rw [hF.out]; rfl, hb⟩
      · have hv' : (v == 0) = false := by simpa using hv
        by_cases h40 : l.length = 40
        · have hF : Hid (RES = .tuple #[.string ⟨#[]⟩, .iface 114 (.int .i64 6)]) := by
            show _ = _
            rw [hR.out, textR, hX.out, hby]; simp only; rw [if_neg hv, if_pos h40]
          have h40' : ((l.length : Int) == 40) = true := by simp; omega
          clear hby hR hv h40
          go_wp2_with (go_at_call 46; refine (memByte_any m B S X _ HM.out hX1).mono ?_; rintro e w1 ⟨rfl, rfl⟩; rw [hBV.out])
          go_ret2
          exact ⟨by rw [hF.out]; rfl, hb⟩
        · have hF : Hid (RES = textR (byteS S) a n (l ++ [v])) := by
            show _ = _
            rw [hR.out, textR, hX.out, hby]; simp only; rw [if_neg hv, if_neg h40]
          have h40' : ((l.length : Int) == 40) = false := by simp; omega
          clear hby hR hv
          go_wp2_with (first
            | (go_at_call 46; refine (memByte_any m B S X _ HM.out hX1).mono ?_; rintro e w1 ⟨rfl, rfl⟩; rw [hBV.out])
            | (at_builtin; refine wpList_append_own _ rfl _ _ _ rfl w.heap.size 5 i0 _ 1 1 Try.underlying131 hi hz0 hz1 hz2 rfl (by omega) _ l.length (u8s l) rfl (hown.out.alloc _) ⟨wr.heap.size, 0, none⟩ 1 1 [.int .u8 v] rfl rfl (cell1 _ _ _ _ (heap_alloc_new _ _)) (by simp [Value.oneCell']) (by unfold maxLen; omega) (by omega) (by simp; omega) ?_; intro v' w1 hown3 hgrow _))
          have hb4 : Below w.heap.size w w1 := (hb.alloc (by omega) _).grown hgrow (by simp; omega) (own_ge hown.out)
          have hown4 : w1.ownsRow w.heap.size 5 1 v' (l ++ [v]).length (u8s (l ++ [v])) := by rw [u8s, List.map_append, List.length_append]; exact hown3
          obtain ⟨A', c', hf⟩ := own_form hown4
          subst hf
          have HO4 := Lib.hid hown4
          clear hown3 hgrow hown hown4
          go_wp2_with fail
          go_roundw
          case rel => exact ⟨n, l ++ [v], A', c', rfl, by simp; omega, by omega, hF, HO4, hb4⟩
          case measure => simp [sliceLen]; omega

end Go.Proofs.Ytmgngapkgcofnaa
