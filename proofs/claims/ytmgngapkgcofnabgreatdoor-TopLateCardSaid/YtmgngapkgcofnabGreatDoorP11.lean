/- Programs as bytes and as rows of memory: words and plain lemmas. -/
import Derived.Test.YtmgngapkgcofnabGreatDoorP04
import Derived.Deep.QuietTactic
import Derived.BigQuiet
import Derived.Deep.AppendLies
import Derived.Deep.RegionLaw
import Derived.PlainAid
import Derived.Laws.BitsAllLaws
import Derived.Laws.BytesArg
import Derived.Test.YtmgngapkgcofnabGreatDoorP03
import Derived.Maps.AppendAt
import Derived.OwnWalk
import Derived.BigRegion
import Derived.Test.YtmgngapkgcofnabGreatDoorP10
import Derived.Test.YtmgngapkgcofnabGreatDoorP02
import Derived.Test.YtmgngapkgcofnabGreatDoorP07
import Derived.Test.YtmgngapkgcofnabGreatDoorP06
import Derived.Laws.StructEq
import Derived.Deep.MidRow
import Derived.ProofKit
import Derived.OpenShut
import Derived.Deep.Slices
namespace Go.Proofs.YtmgngapkgcofnabGreatDoor
open Go.RowKit Go.PlainAid
def insOf (s : ByteArray) (i : Nat) : Ins :=
 ⟨bt s (8 * i), bt s (8 * i + 2), bt s (8 * i + 3), bt s (8 * i + 4) + 256 * bt s (8 * i + 5) + 65536 * bt s (8 * i + 6) + 16777216 * bt s (8 * i + 7)⟩
def insList (s : ByteArray) (n : Nat) : List Ins := (List.range n).map (insOf s)
def flat (l : List Ins) : List Value := l.flatMap fun x => [.int .i64 x.op, .int .i64 x.jt, .int .i64 x.jf, .int .u32 x.k]
theorem flat_append (l m : List Ins) : flat (l ++ m) = flat l ++ flat m := by simp [flat]
theorem ins_cells (W : World) (b : Nat) (p q r t : Value) (c : Array Value) (hc : W.heap[b]? = some (.cells c 230 (0, 0))) (h : c = #[p, q, r, t]) :
  ∀ (j : Nat) (u : Value), [p, q, r, t][j]? = some u → W.cell? ((⟨b, 0, none⟩ : Addr).add j) = some u := by
 subst h; intro j u hu
 match j, hu with
 | 0, hu | 1, hu | 2, hu | 3, hu => simp at hu; subst hu; simp [Addr.add, World.cell?, hc]
theorem insInfo : (Tryz.prog.info? 230).map (fun i => (i.zero, i.size, i.bytes)) = some (some (.agg #[.int .i64 0, .int .i64 0, .int .i64 0, .int .u32 0]), 4, 32) := by kernel_rfl
def clean (s : ByteArray) (n : Nat) : Prop := ∀ j, j < n → bt s (8 * j + 1) = 0
instance (s : ByteArray) (n : Nat) : Decidable (clean s n) := by unfold clean; infer_instance
def parseF (s : ByteArray) : Option (List Ins) :=
 if s.size % 8 ≠ 0 ∨ 32768 < s.size then none
 else if clean s (s.size / 8) then (if checkF (insList s (s.size / 8)) = 0 then some (insList s (s.size / 8)) else none) else none
theorem own_ge {w : World} {base : Nat} {e : TypeId} {size : Nat} {v : Value} {n : Nat} {xs : List Value} (h : w.ownsRow base e size v n xs) : ∀ k, v.ownBlock = some k → base ≤ k := by
 intro k hk; rcases h.2 with ⟨rfl, _⟩ | ⟨g, cap, cur, rfl, hg, _⟩
 ·simp [Value.ownBlock] at hk
 ·simp [Value.ownBlock] at hk; omega
def ParseR (s : ByteArray) (e : Ending) (w' : World) : Prop :=
 match parseF s with
 | none => e = .returned (.tuple #[.slice none 0 0, errV 4])
 | some l => ∃ v, e = .returned (.tuple #[v, errV 0]) ∧ InsSl w' w'.heap.size v l
theorem ParseR.no {s : ByteArray} {e : Ending} {w' : World} (h : parseF s = none) (he : e = .returned (.tuple #[.slice none 0 0, errV 4])) : ParseR s e w' := by
 unfold ParseR; rw [h]; exact he
theorem ParseR.yes {s : ByteArray} {e : Ending} {w' : World} {l : List Ins} {v : Value} (h : parseF s = some l) (he : e = .returned (.tuple #[v, errV 0])) (hs : InsSl w' w'.heap.size v l) : ParseR s e w' := by
 unfold ParseR; rw [h]; exact ⟨v, he, hs⟩
theorem flat_get (l : List Ins) : ∀ (i : Nat) (x : Ins), l[i]? = some x → (flat l)[i * 4]? = some (.int .i64 x.op) ∧ (flat l)[i * 4 + 1]? = some (.int .i64 x.jt) ∧ (flat l)[i * 4 + 2]? = some (.int .i64 x.jf) ∧ (flat l)[i * 4 + 3]? = some (.int .u32 x.k) := by
 induction l with
 | nil => intro i x hx; simp at hx
 | cons y r ih =>
  intro i x hx
  cases i with
  | zero => simp at hx; subst hx; simp [flat]
  | succ i =>
   have h := ih i x (by simpa using hx); have e : flat (y :: r) = [.int .i64 y.op, .int .i64 y.jt, .int .i64 y.jf, .int .u32 y.k] ++ flat r := by simp [flat]
   rw [e]; have k0 : (i + 1) * 4 = i * 4 + 4 := by omega
   rw [k0]; refine ⟨?_, ?_, ?_, ?_⟩
   ·rw [List.getElem?_append_right (by simp)]; simpa using h.1
   ·rw [List.getElem?_append_right (by simp)]; simpa [Nat.add_right_comm] using h.2.1
   ·rw [List.getElem?_append_right (by simp)]; simpa [Nat.add_right_comm] using h.2.2.1
   ·rw [List.getElem?_append_right (by simp)]; simpa [Nat.add_right_comm] using h.2.2.2
theorem insSl_of_own {w : World} {base : Nat} {v : Value} {l : List Ins} (h : w.ownsRow base 230 4 v l.length (flat l)) (hok : ∀ x ∈ l, x.ok) : InsSl w w.heap.size v l := by
 refine ⟨hok, ?_⟩
 have hc : ∀ g c, v = .slice (some ⟨g, 0, none⟩) l.length c → ∀ j u, (flat l)[j]? = some u → w.cell? ⟨g, j, none⟩ = some u := by
  intro g c hv j u hu; have := World.ownsRow.cells h (g := g) (by rw [hv]; rfl) j u hu; unfold Addr.add at this; split at this
  ·next e => subst e; exact this
  ·simpa using this
 rcases h.2 with ⟨hv, hn⟩ | ⟨g, cap, cur, hv, _, hh, _⟩
 ·exact ⟨none, 0, by rw [hn]; exact hv, Or.inl (List.eq_nil_of_length_eq_zero hn)⟩
 ·refine ⟨_, cap, hv, Or.inr ⟨g, 0, rfl, ?_, ?_⟩⟩
  ·rcases Nat.lt_or_ge g w.heap.size with h1 | h1
   ·exact h1
   ·rw [Array.getElem?_eq_none h1] at hh; cases hh
  ·intro i x hx; obtain ⟨a, b, c, d⟩ := flat_get l i x hx; simp only [Nat.zero_add]; exact ⟨hc g cap hv _ _ a, hc g cap hv _ _ b, hc g cap hv _ _ c, hc g cap hv _ _ d⟩
end Go.Proofs.YtmgngapkgcofnabGreatDoor
namespace Go.Proofs.YtmgngapkgcofnabGreatDoor
open Go.RowKit Go.PlainAid
abbrev u8s (xs : List Int) : List Value := xs.map (Value.int .u8)
theorem u8Info : (Tryz.prog.info? 5).map (fun i => (i.zero, i.size, i.bytes)) = some (some (.int .u8 0), 1, 1) := by kernel_rfl
theorem conv_own {w : World} {base n : Nat} {v : Value} {xs : List Int} (h : w.ownsRow base 5 1 v n (u8s xs)) : (convert 96 9 v).run Tryz.prog w = .ok (.string (strOfNums xs)) w := by
 have hl : xs.length = n := by have := h.1; simpa using this
 rcases h.2 with ⟨rfl, hn⟩ | ⟨g, cap, cur, rfl, _, _⟩
 ·obtain rfl : xs = [] := List.eq_nil_of_length_eq_zero (by omega); exact run_convert_bytes_nil w 96 5 Tryz.underlying96 Tryz.underlying5 0 0 9 Tryz.underlying9
 ·refine run_convert_bytes_arg w 96 5 Tryz.underlying96 Tryz.underlying5 g 0 n cap xs hl ?_ 9 Tryz.underlying9; intro i hi; have := World.ownsRow.cells h (g := g) rfl i (.int .u8 (xs.getD i 0)) (by simp [List.getD, List.getElem?_eq_getElem (show i < xs.length by omega)]); simp only [Nat.zero_add]; unfold Addr.add at this; split at this
  ·next e => subst e; exact this
  ·simpa using this
end Go.Proofs.YtmgngapkgcofnabGreatDoor
namespace Go.Proofs.YtmgngapkgcofnabGreatDoor
open Go.RowKit Go.PlainAid
theorem wrap_sum (a k : Nat) : IntKind.u64.wrap ((a : Int) + (k : Int)) = (((a + k) % 18446744073709551616 : Nat) : Int) := by
 rw [IntKind.wrap_u64]; omega
def readL (f : Nat → Option Int) (a : Nat) : Nat → Option (List Int)
 | 0 => some []
 | n + 1 => match readL f a n with
  | none => none
  | some l => (f ((a + n) % 18446744073709551616)).map (l ++ [·])
theorem readL_none {f : Nat → Option Int} {a k : Nat} (h : readL f a k = none) : ∀ n, k ≤ n → readL f a n = none := by
  intro n hn
  induction n with
  | zero => obtain rfl : k = 0 := by omega
            exact h
  | succ n ih =>
    by_cases e : k = n + 1
    · rw [← e]; exact h
    · rw [readL, ih (by omega)]
theorem readL_length {f : Nat → Option Int} {a : Nat} : ∀ {n l}, readL f a n = some l → l.length = n := by
 intro n
 induction n with
 | zero => intro l h; simp [readL] at h; subst h; rfl
 | succ n ih =>
  intro l h; rw [readL] at h
  cases hr : readL f a n with
  | none => rw [hr] at h; simp at h
  | some l' =>
   rw [hr] at h; simp only [Option.map_eq_some_iff] at h; obtain ⟨v, _, rfl⟩ := h; simp [ih hr]
theorem MemAt.below {w w' : World} {B : Nat → Prop} {m H : Nat} {S : MemS} (h : MemAt w B m S) (hb : Below H w w') (hH : w.heap.size ≤ H) : MemAt w' B m S := by
 obtain ⟨h1, h2, C, sp, h3, h4, h5⟩ := h; refine ⟨h1, h2, C, sp, (hb.block m (Nat.lt_of_lt_of_le h3.lt hH)).trans h3, h4, fun i hi => ?_⟩; have := h5 i hi; unfold SealAt at *
 split at this
 ·trivial
 ·exact ⟨this.1, this.2.1, (hb.block _ (Nat.lt_of_lt_of_le this.2.2.lt hH)).trans this.2.2⟩
 ·exact this.elim
theorem cell1 (W : World) (b : Nat) (t : TypeId) (v : Value) (hc : W.heap[b]? = some (.cells #[v] t (0, 0))) :
  ∀ (j : Nat) (u : Value), [v][j]? = some u → W.cell? ((⟨b, 0, none⟩ : Addr).add j) = some u := by
 intro j u hu
 match j, hu with
 | 0, hu => simp at hu; subst hu; simp [Addr.add, World.cell?, hc]
def sliceLen : Value → Nat
 | .slice _ n _ => n
 | _ => 0
def getV (f : Nat → Option Int) (a : Nat) (n : Int) : Value :=
 if n < 0 ∨ 512 < n then .tuple #[.string ⟨#[]⟩, .iface 105 (.int .i64 1)]
 else match readL f a n.toNat with
  | some l => .tuple #[.string (strOfNums l), .nilIface]
  | none => .tuple #[.string ⟨#[]⟩, .iface 105 (.int .i64 5)]
set_option linter.unusedSimpArgs false in
set_option maxHeartbeats 2000000 in
theorem memGet_any (m : Nat) (B : Nat → Prop) (S : MemS) (a : Nat) (n : Int) (w : World) (h : MemAt w B m S) :
  Calls Tryz.prog 151 #[.pointer (some ⟨m, 0, none⟩), .int .u64 a, .int .i64 n] w fun e w' => e = .returned (getV (byteS S) a n) ∧ Below w.heap.size w w' := by
 by_cases h1 : n < 0 ∨ 512 < n
 ·have HV : Hid (getV (byteS S) a n = .tuple #[.string ⟨#[]⟩, .iface 105 (.int .i64 1)]) := if_pos h1
  by_cases h2 : n < 0
  ·clear h1 h; go_enter Tryz.func151, Tryz.ntmps151
   go_wp2_with fail
   go_ret2
   exact ⟨by rw [HV.out]; rfl, Below.refl _ _⟩
  ·have h3 : 512 < n := by omega
   clear h1 h; go_enter Tryz.func151, Tryz.ntmps151
   go_wp2_with fail
   go_ret2
   exact ⟨by rw [HV.out]; rfl, Below.refl _ _⟩
 ·obtain ⟨N, rfl⟩ : ∃ N : Nat, n = N := ⟨n.toNat, by omega⟩
  have HV : Hid (getV (byteS S) a N = match readL (byteS S) a N with
   | some l => .tuple #[.string (strOfNums l), .nilIface]
   | none => .tuple #[.string ⟨#[]⟩, .iface 105 (.int .i64 5)]) := by show _ = _; unfold getV; rw [if_neg h1]; simp
  have y1 : ¬ (N : Int) < 0 := by omega
  have y2 : ¬ (512 : Int) < (N : Int) := by omega
  have hN : N ≤ 512 := by omega
  obtain ⟨i0, hi, hz0, hz1, hz2⟩ := info_parts u8Info; have H := Lib.hid h; clear h h1; go_enter Tryz.func151, Tryz.ntmps151
  go_wp2_with fail
  go_loopw [8, 20] (fun ov iv wr => ∃ (k : Nat) (l : List Int), k ≤ N ∧ iv = .int .i64 k ∧ Hid (readL (byteS S) a k = some l) ∧ Hid (wr.ownsRow w.heap.size 5 1 ov k (u8s l)) ∧ Below w.heap.size w wr) (fun _ iv _ => N - (intOf iv).toNat)
  case atStart => exact ⟨0, [], Nat.zero_le _, rfl, rfl, World.ownsRow_nil _ _ _ _, Below.refl _ _⟩
  case round =>
   obtain ⟨k, l, hk, rfl, hl, hown, hb⟩ := hrel
   by_cases hlt : k < N
   ·have x1 : (k : Int) < (N : Int) := by omega
    have x2 : (0 : Int) ≤ (k : Int) := by omega
    have hM : MemAt wr B m S := H.out.below hb (Nat.le_refl _); have HM := Lib.hid hM; have hbs := hb.size; clear hM; have hw := wrap_sum a k; have hlen := readL_length hl.out; obtain ⟨X, hX⟩ : ∃ X, Hid ((a + k) % 18446744073709551616 = X) := ⟨_, rfl⟩
    have hX1 : X < 18446744073709551616 := by rw [← hX.out]; omega
    rw [hX.out] at hw
    cases hby : byteS S X with
    | none =>
     have hR : Hid (readL (byteS S) a N = none) := by
      refine readL_none (k := k + 1) ?_ N hlt; rw [readL, hl.out]; simp only; rw [hX.out, hby]; rfl
     have hBV : Hid (byteV S X = .tuple #[.int .u8 0, .iface 105 (.int .i64 5)]) := by show _ = _; unfold byteV; rw [hby]
     clear hby
     go_wp2_with (go_at_call 95; refine (memByte_any m B S X _ HM.out hX1).mono ?_; rintro e w1 ⟨rfl, rfl⟩; rw [hBV.out])
     go_ret2
     exact ⟨by rw [HV.out, hR.out]; rfl, hb⟩
    | some v =>
     have hR : Hid (readL (byteS S) a (k + 1) = some (l ++ [v])) := by
      show _ = _; rw [readL, hl.out]; simp only; rw [hX.out, hby]; rfl
     have hBV : Hid (byteV S X = .tuple #[.int .u8 v, .nilIface]) := by show _ = _; unfold byteV; rw [hby]
     clear hby
     go_wp2_with (first
      | (go_at_call 95; refine (memByte_any m B S X _ HM.out hX1).mono ?_; rintro e w1 ⟨rfl, rfl⟩; rw [hBV.out])
      | (at_builtin; refine wpList_append_own _ rfl _ _ _ rfl w.heap.size 5 i0 _ 1 1 Tryz.underlying96 hi hz0 hz1 hz2 rfl (by omega) _ k (u8s l) rfl (hown.out.alloc _) ⟨wr.heap.size, 0, none⟩ 1 1 [.int .u8 v] rfl rfl (cell1 _ _ _ _ (heap_alloc_new _ _)) (by simp [Value.oneCell']) (by unfold maxLen; omega) (by omega) (by simp; omega) ?_; intro v' w1 hown3 hgrow _))
     have hb4 : Below w.heap.size w w1 := (hb.alloc (by omega) _).grown hgrow (by simp; omega) (own_ge hown.out); have hown4 : Hid (w1.ownsRow w.heap.size 5 1 v' (k + 1) (u8s (l ++ [v]))) := by rw [u8s, List.map_append]; exact hown3
     clear hown3 hgrow hown
     go_wp2_with fail; go_roundw
     case rel => exact ⟨k + 1, l ++ [v], by omega, by go_num, hR, hown4, hb4⟩
     case measure => simp [intOf]; omega
   ·obtain rfl : k = N := by omega
    have hc := conv_own hown.out; have hR := hl; clear hown hl
    go_wp2_with fail
    go_ret2
    exact ⟨by rw [HV.out, hR.out]; rfl, hb⟩
theorem own_form {w : World} {B : Nat} {e : TypeId} {sz n : Nat} {v : Value} {xs : List Value} (h : w.ownsRow B e sz v n xs) : ∃ A c, v = .slice A n c := by
 rcases h.2 with ⟨rfl, rfl⟩ | ⟨g, cap, cur, rfl, _⟩
 ·exact ⟨none, 0, rfl⟩
 ·exact ⟨_, _, rfl⟩
def textR (f : Nat → Option Int) (a : Nat) : Nat → List Int → Value
 | 0, _ => undef
 | n + 1, l => match f ((a + l.length) % 18446744073709551616) with
  | none => .tuple #[.string ⟨#[]⟩, .iface 105 (.int .i64 5)]
  | some v => if v = 0 then .tuple #[.string (strOfNums l), .nilIface] else if l.length = 40 then .tuple #[.string ⟨#[]⟩, .iface 105 (.int .i64 6)] else textR f a n (l ++ [v])
def textV (f : Nat → Option Int) (a : Nat) : Value := textR f a 41 []
set_option linter.unusedSimpArgs false in
set_option maxHeartbeats 2000000 in
theorem memText_any (m : Nat) (B : Nat → Prop) (S : MemS) (a : Nat) (w : World) (h : MemAt w B m S) :
  Calls Tryz.prog 150 #[.pointer (some ⟨m, 0, none⟩), .int .u64 a] w fun e w' => e = .returned (textV (byteS S) a) ∧ Below w.heap.size w w' := by
 obtain ⟨i0, hi, hz0, hz1, hz2⟩ := info_parts u8Info; have H := Lib.hid h; obtain ⟨RES, hRES⟩ : ∃ R, Hid (textV (byteS S) a = R) := ⟨_, rfl⟩
 clear h; rw [hRES.out]; go_enter Tryz.func150, Tryz.ntmps150
 go_wp2_with fail
 go_loopw [6] (fun ov wr => ∃ (n : Nat) (l : List Int) (A : Option Addr) (c : Nat), ov = .slice A l.length c ∧ n + l.length = 41 ∧ 0 < n ∧ Hid (RES = textR (byteS S) a n l) ∧ Hid (wr.ownsRow w.heap.size 5 1 (.slice A l.length c) l.length (u8s l)) ∧ Below w.heap.size w wr) (fun ov _ => 41 - sliceLen ov)
 case atStart => exact ⟨41, [], none, 0, rfl, rfl, by omega, hRES.out.symm, World.ownsRow_nil _ _ _ _, Below.refl _ _⟩
 case round =>
  obtain ⟨n, l, A, c, rfl, hn, hn0, hR, hown, hb⟩ := hrel; obtain ⟨n, rfl⟩ : ∃ j, n = j + 1 := ⟨n - 1, by omega⟩
  have hM : MemAt wr B m S := H.out.below hb (Nat.le_refl _); have HM := Lib.hid hM; have hbs := hb.size; clear hM; have hw := wrap_sum a l.length; obtain ⟨X, hX⟩ : ∃ X, Hid ((a + l.length) % 18446744073709551616 = X) := ⟨_, rfl⟩
  have hX1 : X < 18446744073709551616 := by rw [← hX.out]; omega
  rw [hX.out] at hw; have x1 : (0 : Int) ≤ (l.length : Int) := by omega
  have x2 : (l.length : Int) ≤ 40 := by omega
  cases hby : byteS S X with
  | none =>
   have hF : Hid (RES = .tuple #[.string ⟨#[]⟩, .iface 105 (.int .i64 5)]) := by
    show _ = _; rw [hR.out, textR, hX.out, hby]
   have hBV : Hid (byteV S X = .tuple #[.int .u8 0, .iface 105 (.int .i64 5)]) := by show _ = _; unfold byteV; rw [hby]
   clear hby hR
   go_wp2_with (go_at_call 95; refine (memByte_any m B S X _ HM.out hX1).mono ?_; rintro e w1 ⟨rfl, rfl⟩; rw [hBV.out])
   go_ret2
   exact ⟨by rw [hF.out]; rfl, hb⟩
  | some v =>
   have hBV : Hid (byteV S X = .tuple #[.int .u8 v, .nilIface]) := by show _ = _; unfold byteV; rw [hby]
   by_cases hv : v = 0
   ·have hF : Hid (RES = .tuple #[.string (strOfNums l), .nilIface]) := by
     show _ = _; rw [hR.out, textR, hX.out, hby]; simp only; rw [if_pos hv]
    have hc := conv_own hown.out; subst hv; clear hby hR hown
    go_wp2_with (go_at_call 95; refine (memByte_any m B S X _ HM.out hX1).mono ?_; rintro e w1 ⟨rfl, rfl⟩; rw [hBV.out])
    go_ret2
    exact ⟨by rw [hF.out]; rfl, hb⟩
   ·have hv' : (v == 0) = false := by simpa using hv
    by_cases h40 : l.length = 40
    ·have hF : Hid (RES = .tuple #[.string ⟨#[]⟩, .iface 105 (.int .i64 6)]) := by
      show _ = _; rw [hR.out, textR, hX.out, hby]; simp only; rw [if_neg hv, if_pos h40]
     have h40' : ((l.length : Int) == 40) = true := by simp; omega
     clear hby hR hv h40
     go_wp2_with (go_at_call 95; refine (memByte_any m B S X _ HM.out hX1).mono ?_; rintro e w1 ⟨rfl, rfl⟩; rw [hBV.out])
     go_ret2
     exact ⟨by rw [hF.out]; rfl, hb⟩
    ·have hF : Hid (RES = textR (byteS S) a n (l ++ [v])) := by
      show _ = _; rw [hR.out, textR, hX.out, hby]; simp only; rw [if_neg hv, if_neg h40]
     have h40' : ((l.length : Int) == 40) = false := by simp; omega
     clear hby hR hv
     go_wp2_with (first
      | (go_at_call 95; refine (memByte_any m B S X _ HM.out hX1).mono ?_; rintro e w1 ⟨rfl, rfl⟩; rw [hBV.out])
      | (at_builtin; refine wpList_append_own _ rfl _ _ _ rfl w.heap.size 5 i0 _ 1 1 Tryz.underlying96 hi hz0 hz1 hz2 rfl (by omega) _ l.length (u8s l) rfl (hown.out.alloc _) ⟨wr.heap.size, 0, none⟩ 1 1 [.int .u8 v] rfl rfl (cell1 _ _ _ _ (heap_alloc_new _ _)) (by simp [Value.oneCell']) (by unfold maxLen; omega) (by omega) (by simp; omega) ?_; intro v' w1 hown3 hgrow _))
     have hb4 : Below w.heap.size w w1 := (hb.alloc (by omega) _).grown hgrow (by simp; omega) (own_ge hown.out); have hown4 : w1.ownsRow w.heap.size 5 1 v' (l ++ [v]).length (u8s (l ++ [v])) := by rw [u8s, List.map_append, List.length_append]; exact hown3
     obtain ⟨A', c', hf⟩ := own_form hown4; subst hf; have HO4 := Lib.hid hown4; clear hown3 hgrow hown hown4
     go_wp2_with fail; go_roundw
     case rel => exact ⟨n, l ++ [v], A', c', rfl, by simp; omega, by omega, hF, HO4, hb4⟩
     case measure => simp [sliceLen]; omega
end Go.Proofs.YtmgngapkgcofnabGreatDoor
namespace Go.Proofs.YtmgngapkgcofnabGreatDoor
open Go.RowKit Go.PlainAid
def freeB (S : MemS) (a : Nat) : Bool := decide (a % 64 = 0 ∧ 512 ≤ a ∧ a < 768) && (S.sl (a / 64 - 8)).isSome
def MemS.free (S : MemS) (i : Nat) : MemS := ⟨S.p, fun j => if j = i then none else S.sl j⟩
def freeS (S : MemS) (a : Nat) : MemS := if freeB S a then S.free (a / 64 - 8) else S
def freeE (S : MemS) (a : Nat) : Int := if freeB S a then 0 else 8
theorem free_ok {S : MemS} (h : S.ok) (i : Nat) : (S.free i).ok := by
 refine ⟨h.1, fun j f hf => ?_⟩; unfold MemS.free at hf; simp only at hf; split at hf
 ·simp at hf
 ·exact h.2 j f hf
theorem memCell_free {S : MemS} {sp : Nat → Option Nat} {C : Nat → Value} (hC : ∀ i, i < 532 → C i = memCell S sp i) {i : Nat} (hi : i < 4) :
  ∀ j, j < 532 → setV C (528 + i) (.pointer none) j = memCell (S.free i) (fun k => if k = i then none else sp k) j := by
 intro j hj; unfold setV
 by_cases h : j = 528 + i
 ·subst h; rw [if_pos rfl, memCell_seal hi]; simp
 ·rw [if_neg h, hC j hj]; unfold memCell MemS.free
  by_cases h3 : j < 528
  ·rw [if_pos h3, if_pos h3]
  ·rw [if_neg h3, if_neg h3]; simp only; rw [if_neg (by omega)]
set_option linter.unusedSimpArgs false in
set_option maxRecDepth 100000 in
set_option maxHeartbeats 2000000 in
theorem memFree_any (m : Nat) (B : Nat → Prop) (S : MemS) (a : Nat) (w : World) (h : MemAt w B m S) (ha : a < 18446744073709551616) :
  Calls Tryz.prog 147 #[.pointer (some ⟨m, 0, none⟩), .int .u64 a] w fun e w' => e = .returned (errV (freeE S a)) ∧ MemAt w' B m (freeS S a) ∧ But m w w' := by
 obtain ⟨q, hq⟩ : ∃ q, q = a / 64 := ⟨_, rfl⟩
 obtain ⟨k, hk⟩ : ∃ k, k = a % 64 := ⟨_, rfl⟩
 have e1 : (a : Int) / 64 = (q : Int) := by omega
 have e2 : (a : Int) % 64 = (k : Int) := by omega
 have x0 : (0 : Int) ≤ (q : Int) := by omega
 have x00 : (q : Int) ≤ 300000000000000000 := by omega
 by_cases hg : a % 64 = 0 ∧ 512 ≤ a ∧ a < 768
 ·obtain ⟨i, rfl⟩ : ∃ i, q = i + 8 := ⟨q - 8, by omega⟩
  have hi : i < 4 := by omega
  have hk0 : k = 0 := by omega
  subst hk0; have x1 : ¬ (768 : Int) ≤ (a : Int) := by omega
  have x2 : ((i + 8 : Nat) : Int) - 8 = (i : Int) := by omega
  have x3 : (i : Int) < 4 := by omega
  have x4 : (0 : Int) ≤ (i : Int) := by omega
  have x5 : ¬ (i : Int) < 0 := by omega
  have hqi : a / 64 - 8 = i := by omega
  have hB := h.base; have hok := h.ok; obtain ⟨C, sp, hblk, hC, hse⟩ := h.rep; have c1 := hblk.cell (i := 528 + i) (by omega); have f1 := hblk.frozen (528 + i); rw [hC _ (by omega), memCell_seal hi] at c1; have hs := hse i hi
  cases hsl : S.sl i with
  | none =>
   have hb : freeB S a = false := by unfold freeB; rw [hqi, hsl]; simp
   have HE : Hid (errV (freeE S a) = .iface 105 (.int .i64 8)) := by show _ = _; unfold freeE; rw [hb]; rfl
   have HS : Hid (freeS S a = S) := by show _ = _; unfold freeS; rw [hb]; simp
   have H := Lib.hid h
   cases hsp : sp i with
   | some g => rw [hsp, hsl] at hs; exact hs.elim
   | none =>
    rw [hsp] at c1; clear hb hs hsl hsp hse hC hblk h hok hg hq hk hqi; go_enter Tryz.func147, Tryz.ntmps147
    go_wp2_with fail; go_ret; exact ⟨by rw [HE.out]; rfl, by rw [HS.out]; exact H.out, But.refl _ _⟩
  | some f =>
   have hb : freeB S a = true := by unfold freeB; rw [hqi, hsl, decide_eq_true hg]; rfl
   have HE : Hid (errV (freeE S a) = .nilIface) := by show _ = _; unfold freeE; rw [hb]; rfl
   have HS : Hid (freeS S a = S.free i) := by show _ = _; unfold freeS; rw [hb, hqi]; simp
   cases hsp : sp i with
   | none => rw [hsp, hsl] at hs; exact hs.elim
   | some g =>
    rw [hsp] at c1; have g1 := hblk.set (528 + i) (.pointer none); have g2 := memCell_free hC hi; have g3 : But m w (w.setCell ⟨m, 528 + i, none⟩ (.pointer none)) := (But.refl m w).setCell _ _
    have HF : Hid (MemAt (w.setCell ⟨m, 528 + i, none⟩ (.pointer none)) B m (S.free i)) := by
     refine ⟨hB, free_ok hok i, _, _, g1, g2, fun j hj => ?_⟩
     by_cases e : j = i
     ·subst e; simp [MemS.free, SealAt]
     ·simp only [MemS.free, if_neg e]; exact (hse j hj).but g3
    have HG := Lib.hid g3; clear g1 g2 g3 hb hs hsl hsp hse hC hblk h hok hg hq hk hqi; go_enter Tryz.func147, Tryz.ntmps147
    go_wp2_with fail; go_ret; exact ⟨by rw [HE.out]; rfl, by rw [HS.out]; exact HF.out, HG.out⟩
 ·have hb : freeB S a = false := by unfold freeB; rw [decide_eq_false hg]; rfl
  have HE : Hid (errV (freeE S a) = .iface 105 (.int .i64 8)) := by show _ = _; unfold freeE; rw [hb]; rfl
  have HS : Hid (freeS S a = S) := by show _ = _; unfold freeS; rw [hb]; simp
  have H := Lib.hid h
  by_cases h0 : 0 < k
  ·have x1 : (0 : Int) < (k : Int) := by omega
   clear hb h hg hq hk; go_enter Tryz.func147, Tryz.ntmps147
   go_wp2_with fail; go_ret; exact ⟨by rw [HE.out]; rfl, by rw [HS.out]; exact H.out, But.refl _ _⟩
  ·obtain rfl : k = 0 := by omega
   by_cases h2 : 768 ≤ a
   ·have x1 : (768 : Int) ≤ (a : Int) := by omega
    clear hb h hg hq hk; go_enter Tryz.func147, Tryz.ntmps147
    go_wp2_with fail; go_ret; exact ⟨by rw [HE.out]; rfl, by rw [HS.out]; exact H.out, But.refl _ _⟩
   ·have x1 : ¬ (768 : Int) ≤ (a : Int) := by omega
    have x2 : (q : Int) - 8 < 0 := by omega
    clear hb h hg hq hk; go_enter Tryz.func147, Tryz.ntmps147
    go_wp2_with fail; go_ret; exact ⟨by rw [HE.out]; rfl, by rw [HS.out]; exact H.out, But.refl _ _⟩
def ptrV (x : Option Nat) : Value := .pointer (x.map fun g => ⟨g, 0, none⟩)
theorem run_index4 (w : World) (sp : Nat → Option Nat) (k : Nat) (hk : k < 4) : (Instr.index 159 (.agg #[ptrV (sp 0), ptrV (sp 1), ptrV (sp 2), ptrV (sp 3)]) (.int .i64 k)).run Tryz.prog w = .ok (ptrV (sp k)) w := by
 have h : k = 0 ∨ k = 1 ∨ k = 2 ∨ k = 3 := by omega
 have hi : (Tryz.prog.info? 158).map (fun i => i.size) = some 1 := by kernel_rfl
 clear hk; rcases h with rfl | rfl | rfl | rfl <;> simp [Instr.index, run_underlying Tryz.underlying159, asIntOf, go_sem]
end Go.Proofs.YtmgngapkgcofnabGreatDoor
namespace Go.Proofs.YtmgngapkgcofnabGreatDoor
open Go.RowKit Go.PlainAid
def MemS.poke (S : MemS) (x : Nat) (v : Int) : MemS := ⟨fun n => if n = x / 64 then ⟨fun k => if k = x % 64 then v else (S.p n).b k, (S.p n).read, (S.p n).write⟩ else S.p n, S.sl⟩
def putN (S : MemS) (a : Nat) (f : Nat → Int) : Nat → MemS
 | 0 => S
 | n + 1 => (putN S a f n).poke ((a + n) % 18446744073709551616) (f n)
def putOk (S : MemS) (x : Nat) : Bool := decide (x < 512) && (S.p (x / 64)).write
def putB (S : MemS) (a : Nat) : Nat → Bool
 | 0 => true
 | n + 1 => putB S a n && putOk S ((a + n) % 18446744073709551616)
def putE (S : MemS) (a n : Nat) : Int := if putB S a n then 0 else 5
def putS (S : MemS) (a : Nat) (s : ByteArray) : MemS := if putB S a s.size then putN S a (bt s) s.size else S
theorem putB_at {S : MemS} {a : Nat} : ∀ {n k : Nat}, putB S a n = true → k < n → putOk S ((a + k) % 18446744073709551616) = true := by
 intro n
 induction n with
 | zero => intro k _ h; omega
 | succ n ih =>
  intro k h hk; simp only [putB, Bool.and_eq_true] at h; rcases Nat.lt_or_ge k n with h1 | h1
  ·exact ih h.1 h1
  ·obtain rfl : k = n := by omega
   exact h.2
theorem putB_not {S : MemS} {a n k : Nat} (h : putOk S ((a + k) % 18446744073709551616) = false) (hk : k < n) : putB S a n = false := by
 cases hb : putB S a n with
 | false => rfl
 | true => rw [putB_at hb hk] at h; cases h
theorem poke_ok {S : MemS} (h : S.ok) (x : Nat) {v : Int} (h0 : 0 ≤ v) (h1 : v ≤ 255) : (S.poke x v).ok := by
 refine ⟨fun n j => ?_, h.2⟩; unfold MemS.poke; simp only; split
 ·simp only; split
  ·exact ⟨h0, h1⟩
  ·exact h.1 n j
 ·exact h.1 n j
theorem bt_range (s : ByteArray) (i : Nat) : 0 ≤ bt s i ∧ bt s i ≤ 255 := by
 unfold bt; split
 ·rename_i h; have := (s[i]'h).toNat_lt; omega
 ·omega
theorem memCell_poke {S : MemS} {sp : Nat → Option Nat} {C : Nat → Value} (hC : ∀ i, i < 532 → C i = memCell S sp i) {q k : Nat} (hq : q < 8) (hk : k < 64) (v : Int) :
  ∀ i, i < 532 → setV C (q * 66 + k) (.int .u8 v) i = memCell (S.poke (q * 64 + k) v) sp i := by
 intro i hi; have e1 : (q * 64 + k) / 64 = q := by omega
 have e2 : (q * 64 + k) % 64 = k := by omega
 unfold setV
 by_cases h1 : i = q * 66 + k
 ·subst h1; rw [if_pos rfl, memCell_byte hq hk]; simp [MemS.poke, e1, e2]
 ·rw [if_neg h1, hC i hi]; unfold memCell MemS.poke
  by_cases h3 : i < 528
  ·rw [if_pos h3, if_pos h3]
   by_cases h4 : i / 66 = q
   ·simp only [h4, e1, e2, if_true]
    by_cases h5 : i % 66 < 64
    ·rw [if_pos h5, if_pos h5, if_neg (by omega)]
    ·rw [if_neg h5, if_neg h5]
   ·simp only [e1, if_neg h4]
  ·rw [if_neg h3, if_neg h3]
theorem MemAt.drew {w : World} {B : Nat → Prop} {m : Nat} {S : MemS} (h : MemAt w B m S) : MemAt w.drew B m S := by
 obtain ⟨h1, h2, C, sp, h3, h4, h5⟩ := h; refine ⟨h1, h2, C, sp, h3, h4, fun i hi => ?_⟩; have := h5 i hi; unfold SealAt at *
 split at this <;> exact this
set_option linter.unusedSimpArgs false in
set_option maxHeartbeats 2000000 in
theorem memPut_any (m : Nat) (B : Nat → Prop) (S : MemS) (a : Nat) (s : ByteArray) (w : World) (h : MemAt w B m S) (hs : s.size ≤ 4096) :
  Calls Tryz.prog 104 #[.pointer (some ⟨m, 0, none⟩), .int .u64 a, .string s] w fun e w' => e = .returned (errV (putE S a s.size)) ∧ MemAt w' B m (putS S a s) ∧ But m w w' := by
 have H := Lib.hid h; clear h; go_enter Tryz.func104, Tryz.ntmps104
 go_wp2_with fail
 go_loop [13] (fun iv => ∃ k : Nat, k ≤ s.size ∧ iv = .int .i64 k ∧ Hid (putB S a k = true)) (fun iv => s.size - (intOf iv).toNat)
 case atStart => exact ⟨0, Nat.zero_le _, rfl, rfl⟩
 case round =>
  obtain ⟨k, hk, rfl, hB⟩ := hrel
  by_cases hlt : k < s.size
  ·have x1 : (k : Int) < (s.size : Int) := by omega
   have x2 : (0 : Int) ≤ (k : Int) := by omega
   have hw := wrap_sum a k; obtain ⟨X, hX⟩ : ∃ X, Hid ((a + k) % 18446744073709551616 = X) := ⟨_, rfl⟩
   have hX1 : X < 18446744073709551616 := by rw [← hX.out]; omega
   rw [hX.out] at hw
   by_cases h512 : X < 512
   ·obtain ⟨q, hq⟩ : ∃ q, q = X / 64 := ⟨_, rfl⟩
    have hq8 : q < 8 := by omega
    have e1 : (X : Int) / 64 = (q : Int) := by omega
    have y1 : ¬ (512 : Int) ≤ (X : Int) := by omega
    have y2 : (0 : Int) ≤ (q : Int) := by omega
    have y3 : (q : Int) < 8 := by omega
    obtain ⟨C, sp, hblk, hC, hse⟩ := H.out.rep; have c1 := hblk.cell (i := q * 66 + 65) (by omega); rw [hC _ (by omega), memCell_write hq8] at c1; have ho : Hid (putOk S X = (S.p q).write) := by show _ = _; unfold putOk; rw [decide_eq_true h512, ← hq]; rfl
    clear hblk hC hse
    cases hwr : (S.p q).write with
    | true =>
     rw [hwr] at c1; have hB' : Hid (putB S a (k + 1) = true) := by show _ = _; rw [putB, hB.out, hX.out, ho.out, hwr]; rfl
     clear hB ho hwr hq h512
     go_wp2_with fail; go_round
     case rel => exact ⟨k + 1, by omega, by go_num, hB'⟩
     case measure => simp [intOf]; omega
    | false =>
     rw [hwr] at c1; have hb : putB S a s.size = false := putB_not (k := k) (by rw [hX.out, ho.out, hwr]) hlt; have HE : Hid (errV (putE S a s.size) = .iface 105 (.int .i64 5)) := by show _ = _; unfold putE; rw [hb]; rfl
     have HS : Hid (putS S a s = S) := by show _ = _; unfold putS; rw [hb]; simp
     clear hB ho hwr hq h512 hb
     go_wp2_with fail; go_ret; exact ⟨by rw [HE.out]; rfl, by rw [HS.out]; exact H.out, But.refl _ _⟩
   ·have y1 : (512 : Int) ≤ (X : Int) := by omega
    have hb : putB S a s.size = false := putB_not (k := k) (by rw [hX.out]; unfold putOk; rw [decide_eq_false h512]; rfl) hlt; have HE : Hid (errV (putE S a s.size) = .iface 105 (.int .i64 5)) := by show _ = _; unfold putE; rw [hb]; rfl
    have HS : Hid (putS S a s = S) := by show _ = _; unfold putS; rw [hb]; simp
    clear hB h512 hb
    go_wp2_with fail; go_ret; exact ⟨by rw [HE.out]; rfl, by rw [HS.out]; exact H.out, But.refl _ _⟩
  ·obtain rfl : k = s.size := by omega
   have HE : Hid (errV (putE S a s.size) = .nilIface) := by show _ = _; unfold putE; rw [hB.out]; rfl
   have HS : Hid (putS S a s = putN S a (bt s) s.size) := by show _ = _; unfold putS; rw [hB.out]; simp
   clear hlt hk
   go_wp2_with fail
   go_loopw [37] (fun iv wr => ∃ k : Nat, k ≤ s.size ∧ iv = .int .i64 k ∧ Hid (MemAt wr B m (putN S a (bt s) k)) ∧ Hid (But m w wr)) (fun iv _ => s.size - (intOf iv).toNat)
   case atStart => exact ⟨0, Nat.zero_le _, rfl, H.out, But.refl _ _⟩
   case round =>
    obtain ⟨k, hk, rfl, hM, hBt⟩ := hrel
    by_cases hlt : k < s.size
    ·have x1 : (k : Int) < (s.size : Int) := by omega
     have x2 : (0 : Int) ≤ (k : Int) := by omega
     have hw := wrap_sum a k; have hok := putB_at hB.out hlt; obtain ⟨X, hX⟩ : ∃ X, Hid ((a + k) % 18446744073709551616 = X) := ⟨_, rfl⟩
     have hX1 : X < 18446744073709551616 := by rw [← hX.out]; omega
     rw [hX.out] at hw hok
     have h512 : X < 512 := by
      unfold putOk at hok; simp only [Bool.and_eq_true, decide_eq_true_eq] at hok; exact hok.1
     obtain ⟨q, hq⟩ : ∃ q, q = X / 64 := ⟨_, rfl⟩
     obtain ⟨j, hj⟩ : ∃ j, j = X % 64 := ⟨_, rfl⟩
     have hq8 : q < 8 := by omega
     have hj64 : j < 64 := by omega
     have e1 : (X : Int) / 64 = (q : Int) := by omega
     have e2 : (X : Int) % 64 = (j : Int) := by omega
     have y2 : (0 : Int) ≤ (q : Int) := by omega
     have y3 : (q : Int) < 8 := by omega
     have y4 : (0 : Int) ≤ (j : Int) := by omega
     have y5 : (j : Int) < 64 := by omega
     have gx := get_bt s; have gr := bt_range s k; obtain ⟨C, sp, hblk, hC, hse⟩ := hM.out.rep; have c1 := hblk.cell (i := q * 66 + j) (by omega); have f1 := hblk.frozen (q * 66 + j); have g1 := hblk.set (q * 66 + j) (.int .u8 (bt s k)); have g2 := memCell_poke hC hq8 hj64 (bt s k); rw [show q * 64 + j = X from by omega] at g2
     have g3 : But m wr (wr.setCell ⟨m, q * 66 + j, none⟩ (.int .u8 (bt s k))) := (But.refl m wr).setCell _ _
     have HF : Hid (MemAt (wr.setCell ⟨m, q * 66 + j, none⟩ (.int .u8 (bt s k))) B m (putN S a (bt s) (k + 1))) := by
      show MemAt _ B m _; rw [putN, hX.out]; exact ⟨hM.out.base, poke_ok hM.out.ok X gr.1 gr.2, _, sp, g1, g2, fun i hi => (hse i hi).but g3⟩
     have HG : Hid (But m w (wr.setCell ⟨m, q * 66 + j, none⟩ (.int .u8 (bt s k)))) := hBt.out.setCell _ _; clear hblk hC hse g1 g2 g3 hok hq hj h512
     go_wp2_with fail
     go_region
     go_wp2_with fail; go_roundw
     case rel => exact ⟨k + 1, by omega, by go_num, HF.out.drew, HG.out.drew⟩
     case measure => simp [intOf]; omega
    ·obtain rfl : k = s.size := by omega
     go_wp2_with fail; go_ret; exact ⟨by rw [HE.out]; rfl, by rw [HS.out]; exact hM.out, hBt.out⟩
end Go.Proofs.YtmgngapkgcofnabGreatDoor
namespace Go.Proofs.YtmgngapkgcofnabGreatDoor
open Go.RowKit
def kindOf (op : Int) : Int := if op = 8 then 2 else if op = 9 then 3 else 1
def CondD.bad (nr : Nat) (c : CondD) : Prop := kindF nr c.arg.toNat ≠ kindOf c.op ∨ (c.op ≠ 7 ∧ c.m ≠ 0) ∨ (7 < c.op ∧ c.v ≠ 0) ∨ (c.op ≠ 8 ∧ c.glob.size ≠ 0) ∨ (c.op ≠ 9 ∧ c.net ≠ ⟨0, 0, 0, 0⟩)
instance (nr : Nat) (c : CondD) : Decidable (c.bad nr) := by unfold CondD.bad; infer_instance
def condF (nr : Nat) (c : CondD) : Int := if c.arg < 0 ∨ 3 < c.arg ∨ c.op < 1 ∨ 9 < c.op then 1 else if c.bad nr then 3 else if c.op = 8 then globF (bytesOf c.glob) else if c.op = 9 then netF c.net else 0
def formName (nr : Nat) : ByteArray := [(⟨#[114, 101, 97, 100]⟩ : ByteArray), ⟨#[119, 114, 105, 116, 101]⟩, ⟨#[111, 112, 101, 110]⟩, ⟨#[99, 108, 111, 115, 101]⟩, ⟨#[115, 116, 97, 116]⟩, ⟨#[114, 101, 110, 97, 109, 101]⟩, ⟨#[99, 111, 110, 110, 101, 99, 116]⟩, ⟨#[108, 105, 110, 107]⟩, ⟨#[115, 101, 110, 100]⟩].getD nr ⟨#[]⟩
theorem formIdx0 (w : World) : (Instr.index 181 (.agg formsRow) (.int .i64 0)).run Tryz.prog w = .ok (.agg #[.string (formName 0), .int .i64 (kindF 0 0), .int .i64 (kindF 0 1), .int .i64 (kindF 0 2), .int .i64 (kindF 0 3)]) w := by kernel_rfl
theorem formIdx1 (w : World) : (Instr.index 181 (.agg formsRow) (.int .i64 1)).run Tryz.prog w = .ok (.agg #[.string (formName 1), .int .i64 (kindF 1 0), .int .i64 (kindF 1 1), .int .i64 (kindF 1 2), .int .i64 (kindF 1 3)]) w := by kernel_rfl
theorem formIdx2 (w : World) : (Instr.index 181 (.agg formsRow) (.int .i64 2)).run Tryz.prog w = .ok (.agg #[.string (formName 2), .int .i64 (kindF 2 0), .int .i64 (kindF 2 1), .int .i64 (kindF 2 2), .int .i64 (kindF 2 3)]) w := by kernel_rfl
theorem formIdx3 (w : World) : (Instr.index 181 (.agg formsRow) (.int .i64 3)).run Tryz.prog w = .ok (.agg #[.string (formName 3), .int .i64 (kindF 3 0), .int .i64 (kindF 3 1), .int .i64 (kindF 3 2), .int .i64 (kindF 3 3)]) w := by kernel_rfl
theorem formIdx4 (w : World) : (Instr.index 181 (.agg formsRow) (.int .i64 4)).run Tryz.prog w = .ok (.agg #[.string (formName 4), .int .i64 (kindF 4 0), .int .i64 (kindF 4 1), .int .i64 (kindF 4 2), .int .i64 (kindF 4 3)]) w := by kernel_rfl
theorem formIdx5 (w : World) : (Instr.index 181 (.agg formsRow) (.int .i64 5)).run Tryz.prog w = .ok (.agg #[.string (formName 5), .int .i64 (kindF 5 0), .int .i64 (kindF 5 1), .int .i64 (kindF 5 2), .int .i64 (kindF 5 3)]) w := by kernel_rfl
theorem formIdx6 (w : World) : (Instr.index 181 (.agg formsRow) (.int .i64 6)).run Tryz.prog w = .ok (.agg #[.string (formName 6), .int .i64 (kindF 6 0), .int .i64 (kindF 6 1), .int .i64 (kindF 6 2), .int .i64 (kindF 6 3)]) w := by kernel_rfl
theorem formIdx7 (w : World) : (Instr.index 181 (.agg formsRow) (.int .i64 7)).run Tryz.prog w = .ok (.agg #[.string (formName 7), .int .i64 (kindF 7 0), .int .i64 (kindF 7 1), .int .i64 (kindF 7 2), .int .i64 (kindF 7 3)]) w := by kernel_rfl
theorem formIdx8 (w : World) : (Instr.index 181 (.agg formsRow) (.int .i64 8)).run Tryz.prog w = .ok (.agg #[.string (formName 8), .int .i64 (kindF 8 0), .int .i64 (kindF 8 1), .int .i64 (kindF 8 2), .int .i64 (kindF 8 3)]) w := by kernel_rfl
theorem formIdx (nr : Nat) (h : nr < 9) (w : World) : (Instr.index 181 (.agg formsRow) (.int .i64 (nr : Int))).run Tryz.prog w = .ok (.agg #[.string (formName nr), .int .i64 (kindF nr 0), .int .i64 (kindF nr 1), .int .i64 (kindF nr 2), .int .i64 (kindF nr 3)]) w := by
 have h1 : nr = 0 ∨ nr = 1 ∨ nr = 2 ∨ nr = 3 ∨ nr = 4 ∨ nr = 5 ∨ nr = 6 ∨ nr = 7 ∨ nr = 8 := by omega
 clear h; rcases h1 with rfl | rfl | rfl | rfl | rfl | rfl | rfl | rfl | rfl
 ·exact formIdx0 w
 ·exact formIdx1 w
 ·exact formIdx2 w
 ·exact formIdx3 w
 ·exact formIdx4 w
 ·exact formIdx5 w
 ·exact formIdx6 w
 ·exact formIdx7 w
 ·exact formIdx8 w
theorem argIdx (nr a : Nat) (h : a < 4) (w : World) : (Instr.index 178 (.agg #[.int .i64 (kindF nr 0), .int .i64 (kindF nr 1), .int .i64 (kindF nr 2), .int .i64 (kindF nr 3)]) (.int .i64 (a : Int))).run Tryz.prog w = .ok (.int .i64 (kindF nr a)) w := by
 have h1 : a = 0 ∨ a = 1 ∨ a = 2 ∨ a = 3 := by omega
 have hi : (Tryz.prog.info? 3).map (fun i => i.size) = some 1 := by kernel_rfl
 clear h; rcases h1 with rfl | rfl | rfl | rfl <;> simp [Instr.index, run_underlying Tryz.underlying178, asIntOf, go_sem]
theorem isEmpty_of2 (t : ByteArray) : t.toList.isEmpty = decide (t.size = 0) := by
 rw [ByteArray.toList_eq, Bool.eq_iff_iff]; simp [← ByteArray.size_data]
theorem formFld (s : ByteArray) (a b c d : Int) (w : World) : (Instr.field 180 (.agg #[.string s, .int .i64 a, .int .i64 b, .int .i64 c, .int .i64 d]) 1).run Tryz.prog w = .ok (.agg #[.int .i64 a, .int .i64 b, .int .i64 c, .int .i64 d]) w := by kernel_rfl
theorem netNeq (n : NetD) (w : World) : (binOp .neq 45 (.agg #[.int .u32 n.ip, .int .i64 n.bits, .int .i64 n.lo, .int .i64 n.hi]) (.agg #[.int .u32 0, .int .i64 0, .int .i64 0, .int .i64 0])).run Tryz.prog w = .ok (.bool (decide (n ≠ ⟨0, 0, 0, 0⟩))) w := by
 obtain ⟨ip, b, lo, hi⟩ := n; simp only [NetD.mk.injEq, ne_eq]; rw [run_neq_struct, run_equalIn_struct w 9999 _ _ _ (by kernel_rfl) (by kernel_rfl)]; have hfs : (Tryz.prog.fieldsOf 45).toList.map (fun f => (f.name, f.type, f.offset)) = [("IP", 43, 0), ("Bits", 3, 1), ("Lo", 3, 2), ("Hi", 3, 3)] := by kernel_rfl
 obtain ⟨f0, f1, f2, f3, hl⟩ : ∃ f0 f1 f2 f3, (Tryz.prog.fieldsOf 45).toList = [f0, f1, f2, f3] := by
  generalize (Tryz.prog.fieldsOf 45).toList = l at hfs; have hln : l.length = 4 := by have := congrArg List.length hfs; simpa using this
  match l, hln with
  | [a, b, c, d], _ => exact ⟨a, b, c, d, rfl⟩
 rw [hl] at hfs ⊢; simp only [List.map_cons, List.map_nil, List.cons.injEq, Prod.mk.injEq, and_true] at hfs; obtain ⟨⟨a0, a1, a2⟩, ⟨b0, b1, b2⟩, ⟨c0, c1, c2⟩, d0, d1, d2⟩ := hfs
 by_cases e0 : ip = 0 <;> by_cases e1 : b = 0 <;> by_cases e2 : lo = 0 <;> by_cases e3 : hi = 0 <;>
  simp [Op.eqFields, a0, a1, a2, b0, b1, b2, c0, c1, c2, d0, d1, d2, e0, e1, e2, e3, go_sem, part, isAgg, run_underlying Tryz.underlying43, run_underlying Tryz.underlying3, run_equalIn_int _ _ _ _ _ _ _ Tryz.underlying43, run_equalIn_int _ _ _ _ _ _ _ Tryz.underlying3]
end Go.Proofs.YtmgngapkgcofnabGreatDoor
namespace Go.Proofs.YtmgngapkgcofnabGreatDoor
open Go.RowKit
def CondRow (w : World) (b o : Nat) (l : List CondD) : Prop := ∀ i x, l[i]? = some x → w.rangeAt b (o + i * 9) x.row
def CondsSl (w : World) (B : Nat) (v : Value) (l : List CondD) : Prop :=
 (∀ x ∈ l, x.ok) ∧ ∃ A c, v = .slice A l.length c ∧ (l = [] ∨ ∃ b o, A = some ⟨b, o, none⟩ ∧ b < B ∧ CondRow w b o l)
theorem rangeAt_below {w w' : World} {b o B : Nat} {vs : List Value} (h : w.rangeAt b o vs) (hb : Below B w w') (hB : b < B) : w'.rangeAt b o vs :=
 fun j v hv => (hb.cell (p := ⟨b, _, none⟩) hB).trans (h j v hv)
theorem CondsSl.below {w w' : World} {B H : Nat} {v : Value} {l : List CondD} (h : CondsSl w B v l) (hb : Below H w w') (hH : B ≤ H) : CondsSl w' B v l := by
 obtain ⟨h0, A, c, h1, h2⟩ := h; refine ⟨h0, A, c, h1, h2.imp id ?_⟩; rintro ⟨b, o, ha, hB, hr⟩; exact ⟨b, o, ha, hB, fun i x hx => rangeAt_below (hr i x hx) hb (by omega)⟩
theorem CondsSl.mono {w : World} {B B' : Nat} {v : Value} {l : List CondD} (h : CondsSl w B v l) (hb : B ≤ B') : CondsSl w B' v l := by
 obtain ⟨h0, A, c, h1, h2⟩ := h; refine ⟨h0, A, c, h1, h2.imp id ?_⟩; rintro ⟨b, o, ha, hB, hr⟩; exact ⟨b, o, ha, by omega, hr⟩
def RuleRow (w : World) (B b o : Nat) (l : List RuleD) : Prop := ∀ i x, l[i]? = some x → ∃ A c, CondsSl w B (.slice A x.conds.length c) x.conds ∧ w.rangeAt b (o + i * 4) [.int .i64 x.nr, .slice A x.conds.length c, .int .i64 x.kind, .int .i64 x.errno]
def RulesSl (w : World) (B : Nat) (v : Value) (l : List RuleD) : Prop :=
 ∃ A c, v = .slice A l.length c ∧ (l = [] ∨ ∃ b o, A = some ⟨b, o, none⟩ ∧ b < B ∧ RuleRow w B b o l)
theorem RulesSl.below {w w' : World} {B H : Nat} {v : Value} {l : List RuleD} (h : RulesSl w B v l) (hb : Below H w w') (hH : B ≤ H) : RulesSl w' B v l := by
 obtain ⟨A, c, h1, h2⟩ := h; refine ⟨A, c, h1, h2.imp id ?_⟩; rintro ⟨b, o, ha, hB, hr⟩; refine ⟨b, o, ha, hB, fun i x hx => ?_⟩; obtain ⟨A', c', hc, hrg⟩ := hr i x hx; exact ⟨A', c', hc.below hb hH, rangeAt_below hrg hb (by omega)⟩
theorem RulesSl.mono {w : World} {B B' : Nat} {v : Value} {l : List RuleD} (h : RulesSl w B v l) (hb : B ≤ B') : RulesSl w B' v l := by
 obtain ⟨A, c, h1, h2⟩ := h; refine ⟨A, c, h1, h2.imp id ?_⟩; rintro ⟨b, o, ha, hB, hr⟩; refine ⟨b, o, ha, by omega, fun i x hx => ?_⟩; obtain ⟨A', c', hc, hrg⟩ := hr i x hx; exact ⟨A', c', hc.mono hb, hrg⟩
def PolAt (w : World) (B : Nat) (v : Value) (p : PolD) : Prop := ∃ A c, v = .agg #[.slice A p.rules.length c, .int .i64 p.kind, .int .i64 p.errno] ∧ RulesSl w B (.slice A p.rules.length c) p.rules
def firstNZ {α : Type} (f : α → Int) : List α → Int
 | [] => 0
 | x :: r => if f x ≠ 0 then f x else firstNZ f r
theorem firstNZ_all {α : Type} (f : α → Int) : ∀ (l : List α), (∀ (i : Nat) x, l[i]? = some x → f x = 0) → firstNZ f l = 0
 | [], _ => rfl
 | x :: r, h => by
  rw [firstNZ, if_neg (fun k => k (h 0 x rfl))]; exact firstNZ_all f r (fun i y hy => h (i + 1) y (by simpa using hy))
theorem firstNZ_at {α : Type} (f : α → Int) : ∀ (l : List α) (k : Nat) (x : α), l[k]? = some x → f x ≠ 0 → (∀ (i : Nat) y, i < k → l[i]? = some y → f y = 0) → firstNZ f l = f x
 | [], k, x, h, _, _ => by simp at h
 | y :: r, k, x, h, hx, hz => by
  rw [firstNZ]
  cases k with
  | zero =>
   obtain rfl : y = x := by simpa using h
   rw [if_pos hx]
  | succ k =>
   rw [if_neg (fun e => e (hz 0 y (by omega) rfl))]; exact firstNZ_at f r k x (by simpa using h) hx (fun i z hi hz2 => hz (i + 1) z (by omega) (by simpa using hz2))
def ruleF (r : RuleD) : Int := if r.nr < 0 ∨ 8 < r.nr then 1 else if 4 < r.conds.length then 2 else if firstNZ (condF r.nr.toNat) r.conds ≠ 0 then firstNZ (condF r.nr.toNat) r.conds else actF r.kind r.errno
def polF (p : PolD) : Int := if 12 < p.rules.length then 2 else if actF p.kind p.errno ≠ 0 then actF p.kind p.errno else firstNZ ruleF p.rules
def lightP (p : PolD) : Bool := decide (p.rules.length ≤ 14) && p.rules.all fun r => decide (r.conds.length ≤ 6) && r.conds.all fun c => decide (c.glob.size ≤ 60)
end Go.Proofs.YtmgngapkgcofnabGreatDoor
namespace Go.Proofs.YtmgngapkgcofnabGreatDoor
open Go.RowKit
def holdsF (op a k : Int) : Bool := if op = 4 then a == k else if op = 5 then decide (k < a) else if op = 6 then decide (k ≤ a) else (bits .and .u32 a k) != 0
def runF (l : List Ins) (c : CallD) : Nat → Nat → Int → Int → Int × Int
 | 0, _, _, st => (0, st)
 | n + 1, p, a, st =>
  match l[p]? with
  | none => (0, st)
  | some i =>
   if i.op = 1 then runF l c n (p + 1) (c.word i.k) (st + 1)
   else if i.op = 2 then runF l c n (p + 1) (bits .and .u32 a i.k) (st + 1)
   else if i.op = 3 then runF l c n (p + 1 + i.k.toNat) a (st + 1)
   else if i.op = 8 then (i.k, st + 1)
   else if holdsF i.op a i.k then runF l c n (p + 1 + i.jt.toNat) a (st + 1) else runF l c n (p + 1 + i.jf.toNat) a (st + 1)
structure Fine (x : Ins) (b : Int) : Prop where
 op : 1 ≤ x.op ∧ x.op ≤ 8
 jt : 0 ≤ x.jt ∧ x.jt ≤ 255
 jf : 0 ≤ x.jf ∧ x.jf ≤ 255
 word : x.op = 1 → x.k % 4 = 0 ∧ x.k < 40
 jump : x.op = 3 → x.k < b
 branch : 4 ≤ x.op → x.op ≤ 7 → x.jt < b ∧ x.jf < b
theorem fine_of {x : Ins} {b : Int} (hok : x.ok) (h : oneF x.op x.jt x.jf x.k b = 0) : Fine x b := by
 obtain ⟨k0, k1⟩ := hok; unfold oneF at h
 repeat' split at h
 all_goals first
  | (exfalso; omega)
  | (constructor <;> omega)
theorem fine_at {l : List Ins} (hok : ∀ x ∈ l, x.ok) (h : scanF l = 0) : ∀ (k : Nat) (hk : k < l.length), Fine l[k] ((l.length : Int) - 1 - k) := by
 induction l with
 | nil => intro k hk; simp at hk
 | cons x r ih =>
  unfold scanF at h; split at h
  ·next h0 =>
   intro k hk
   cases k with
   | zero =>
    have := fine_of (hok x (by simp)) h0; have e : (((x :: r).length : Nat) : Int) - 1 - ((0 : Nat) : Int) = (r.length : Int) := by simp
    rw [e]; exact this
   | succ k =>
    have := ih (fun y hy => hok y (by simp [hy])) h k (by simpa using hk); have e : (((x :: r).length : Nat) : Int) - 1 - ((k + 1 : Nat) : Int) = (r.length : Int) - 1 - k := by simp; omega
    rw [e]; simpa using this
  ·next h0 => exact absurd h h0
theorem check_ok {l : List Ins} (h : checkF l = 0) : 0 < l.length ∧ l.length ≤ 4096 ∧ scanF l = 0 ∧ (l[l.length - 1]?).map (·.op) = some 8 := by
 unfold checkF at h; split at h
 ·omega
 ·next h1 =>
  split at h
  ·next h2 => exact absurd h h2
  ·next h2 =>
   split at h
   ·next h3 => exact ⟨by omega, by omega, by omega, h3⟩
   ·omega
theorem holds_any (op a k : Int) (w : World) :
  Calls Tryz.prog 145 #[.int .i64 op, .int .u32 a, .int .u32 k] w fun e w' => e = .returned (.bool (holdsF op a k)) ∧ w = w' := by
 by_cases h4 : op = 4
 ·subst h4; go_enter Tryz.func145, Tryz.ntmps145
  go_wp2
  go_ret; exact ⟨rfl, rfl⟩
 by_cases h5 : op = 5
 ·subst h5; go_enter Tryz.func145, Tryz.ntmps145
  go_wp2
  go_ret; exact ⟨rfl, rfl⟩
 by_cases h6 : op = 6
 ·subst h6; go_enter Tryz.func145, Tryz.ntmps145
  go_wp2
  go_ret; exact ⟨rfl, rfl⟩
 have HF : Hid (holdsF op a k = ((bits .and .u32 a k) != 0)) := by show _ = _; unfold holdsF; rw [if_neg h4, if_neg h5, if_neg h6]
 have b4 : (op == 4) = false := beq_eq_false_iff_ne.2 h4; have b5 : (op == 5) = false := beq_eq_false_iff_ne.2 h5; have b6 : (op == 6) = false := beq_eq_false_iff_ne.2 h6; clear h4 h5 h6; go_enter Tryz.func145, Tryz.ntmps145
 go_wp2
 go_ret; exact ⟨by rw [HF.out]; rfl, rfl⟩
end Go.Proofs.YtmgngapkgcofnabGreatDoor
namespace Go.Proofs.YtmgngapkgcofnabGreatDoor
open Go.RowKit Go.WideShapes Go.ChangeShapes Go.Deep
section
variable {H : Type} {enc : TypeId × Value → H} {w : World} {base : Nat} {spare : Nat → Bool} {held : Bool} {fuel : Nat}
theorem u32_cell {cs : List Value} {x : DataW H × List MemPlace} (h : DataW.trod enc Tryz.prog w base spare held fuel 43 cs = some x) : ∃ n, cs = [.int .u32 n] ∧ u32ok n := by
 obtain ⟨n, h1, _, h2⟩ := DataW.trod_int Tryz.underlying43 h; have := bounds_u32 h2; exact ⟨n, h1, by constructor <;> omega⟩
theorem u64_cell {cs : List Value} {x : DataW H × List MemPlace} (h : DataW.trod enc Tryz.prog w base spare held fuel 42 cs = some x) : ∃ n, cs = [.int .u64 n] ∧ u64ok n := by
 obtain ⟨n, h1, _, h2⟩ := DataW.trod_int Tryz.underlying42 h; have := bounds_u64 h2; exact ⟨n, h1, by constructor <;> omega⟩
theorem int_cell {cs : List Value} {x : DataW H × List MemPlace} (h : DataW.trod enc Tryz.prog w base spare held fuel 3 cs = some x) : ∃ n, cs = [.int .i64 n] ∧ (Lit.int .i64 n).wf = true := by
 obtain ⟨n, h1, _, h2⟩ := DataW.trod_int Tryz.underlying3 h; exact ⟨n, h1, h2⟩
theorem list4 {α : Type} {l : List α} (h : l.length = 4) : ∃ a b c d, l = [a, b, c, d] := by
 match l, h with
 | [a, b, c, d], _ => exact ⟨a, b, c, d, rfl⟩
theorem list6 {α : Type} {l : List α} (h : l.length = 6) : ∃ a b c d e f, l = [a, b, c, d, e, f] := by
 match l, h with
 | [a, b, c, d, e, f], _ => exact ⟨a, b, c, d, e, f, rfl⟩
theorem list3 {α : Type} {l : List α} (h : l.length = 3) : ∃ a b c, l = [a, b, c] := by
 match l, h with
 | [a, b, c], _ => exact ⟨a, b, c, rfl⟩
theorem cells40 : Tryz.prog.cellsOf 52 = 6 := by kernel_rfl
theorem cells38 : Tryz.prog.cellsOf 50 = 4 := by kernel_rfl
theorem cells36 : Tryz.prog.cellsOf 43 = 1 := by kernel_rfl
theorem cells37 : Tryz.prog.cellsOf 42 = 1 := by kernel_rfl
theorem cells3 : Tryz.prog.cellsOf 3 = 1 := by kernel_rfl
theorem args_cells {cs : List Value} {x : DataW H × List MemPlace} (h : DataW.trod enc Tryz.prog w base spare held fuel 50 cs = some x) :
  ∃ a0 a1 a2 a3, cs = [.int .u64 a0, .int .u64 a1, .int .u64 a2, .int .u64 a3] ∧ u64ok a0 ∧ u64ok a1 ∧ u64ok a2 ∧ u64ok a3 := by
 obtain ⟨xs, m, _, _, hl, hxl, hf⟩ := DataW.trod_array Tryz.underlying50 h; rw [cells38] at hl; simp only [cells37] at hf; obtain ⟨c0, c1, c2, c3, rfl⟩ := list4 hl; obtain ⟨x0, x1, x2, x3, rfl⟩ := list4 hxl; obtain ⟨a0, e0, k0⟩ := u64_cell (hf 0 (by omega)); obtain ⟨a1, e1, k1⟩ := u64_cell (hf 1 (by omega)); obtain ⟨a2, e2, k2⟩ := u64_cell (hf 2 (by omega))
 obtain ⟨a3, e3, k3⟩ := u64_cell (hf 3 (by omega)); simp at e0 e1 e2 e3; subst e0 e1 e2 e3; exact ⟨a0, a1, a2, a3, rfl, k0, k1, k2, k3⟩
theorem call_cells {cs : List Value} {x : DataW H × List MemPlace} (h : DataW.trod enc Tryz.prog w base spare held fuel 52 cs = some x) :
  ∃ c : CallD, cs = [.int .u32 c.arch, .int .u32 c.nr, .int .u64 c.a0, .int .u64 c.a1, .int .u64 c.a2, .int .u64 c.a3] ∧ c.ok := by
 obtain ⟨xs, m, _, _, hl, hxl, hf⟩ := DataW.trod_struct Tryz.underlying52 h; rw [cells40] at hl; obtain ⟨c0, c1, c2, c3, c4, c5, rfl⟩ := list6 hl; obtain ⟨x0, x1, x2, rfl⟩ := list3 hxl; have f0 := hf 0 _ rfl; have f1 := hf 1 _ rfl; have f2 := hf 2 _ rfl; simp [cells36, cells38] at f0 f1 f2; obtain ⟨ar, e0, k0⟩ := u32_cell f0; obtain ⟨nr, e1, k1⟩ := u32_cell f1
 obtain ⟨a0, a1, a2, a3, e2, q0, q1, q2, q3⟩ := args_cells f2; simp at e0 e1 e2; obtain ⟨rfl, rfl, rfl, rfl⟩ := e2; subst e0 e1; exact ⟨⟨ar, nr, a0, a1, a2, a3⟩, rfl, k0, k1, q0, q1, q2, q3⟩
set_option maxRecDepth 100000 in
theorem open_call {r : Reach} {b0 : Nat} {v : Value} {d : DataW H} {p : List MemPlace} (hv : Value.okWide Tryz.prog w r b0 52 v) (h : DataW.Trod enc Tryz.prog w base spare held 52 v d p) :
  ∃ c : CallD, v = c.v ∧ c.ok := by
 obtain ⟨cs, rfl, _⟩ := okWide_struct Tryz.underlying52 hv; obtain ⟨fuel, hf⟩ := h; obtain ⟨c, hc, hok⟩ := call_cells hf; refine ⟨c, ?_, hok⟩; obtain ⟨cs⟩ := cs; simp only [Value.cells] at hc; unfold CallD.v; rw [hc]
theorem block_lt {w : World} {a : Addr} {v : Value} (h : w.cell? a = some v) : a.block < w.heap.size := by
 rcases Nat.lt_or_ge a.block w.heap.size with h1 | h1
 ·exact h1
 ·unfold World.cell? at h; rw [Array.getElem?_eq_none h1] at h; cases h
end
end Go.Proofs.YtmgngapkgcofnabGreatDoor
namespace Go.Proofs.YtmgngapkgcofnabGreatDoor
open Go.RowKit Go.WideShapes Go.ChangeShapes Go.Deep
section
variable {H : Type} {enc : TypeId × Value → H} {w : World} {base : Nat} {spare : Nat → Bool} {held : Bool} {fuel : Nat}
theorem list9 {α : Type} {l : List α} (h : l.length = 9) : ∃ a b c d e f g i j, l = [a, b, c, d, e, f, g, i, j] := by
 match l, h with
 | [a, b, c, d, e, f, g, i, j], _ => exact ⟨a, b, c, d, e, f, g, i, j, rfl⟩
theorem list2 {α : Type} {l : List α} (h : l.length = 2) : ∃ a b, l = [a, b] := by
 match l, h with
 | [a, b], _ => exact ⟨a, b, rfl⟩
theorem cellsNet : Tryz.prog.cellsOf 45 = 4 := by kernel_rfl
theorem cellsCond : Tryz.prog.cellsOf 47 = 9 := by kernel_rfl
theorem cellsRule : Tryz.prog.cellsOf 41 = 4 := by kernel_rfl
theorem cellsAct : Tryz.prog.cellsOf 24 = 2 := by kernel_rfl
theorem cellsPol : Tryz.prog.cellsOf 26 = 3 := by kernel_rfl
theorem cellsStr : Tryz.prog.cellsOf 9 = 1 := by kernel_rfl
theorem cellsCs : Tryz.prog.cellsOf 39 = 1 := by kernel_rfl
theorem cellsRs : Tryz.prog.cellsOf 22 = 1 := by kernel_rfl
theorem u32_cell2 {cs : List Value} {x : DataW H × List MemPlace} (h : DataW.trod enc Tryz.prog w base spare held fuel 43 cs = some x) : ∃ n, cs = [.int .u32 n] ∧ 0 ≤ n ∧ n < 4294967296 := by
 obtain ⟨n, h1, h2, h3⟩ := u32_cell h; exact ⟨n, h1, h2, h3⟩
theorem str_cell2 {cs : List Value} {x : DataW H × List MemPlace} (h : DataW.trod enc Tryz.prog w base spare held fuel 9 cs = some x) : ∃ s : ByteArray, cs = [.string s] ∧ s.size ≤ maxLen := by
 obtain ⟨s, h1, _, h2⟩ := DataW.trod_string Tryz.underlying9 h; exact ⟨s, h1, h2⟩
set_option maxRecDepth 100000 in
theorem net_cells {cs : List Value} {x : DataW H × List MemPlace} (h : DataW.trod enc Tryz.prog w base spare held fuel 45 cs = some x) : ∃ n : NetD, cs = n.row ∧ n.ok := by
 obtain ⟨xs, m, _, _, hl, hxl, hf⟩ := DataW.trod_struct Tryz.underlying45 h; rw [cellsNet] at hl; obtain ⟨c0, c1, c2, c3, rfl⟩ := list4 hl; obtain ⟨x0, x1, x2, x3, rfl⟩ := list4 hxl; have f0 := hf 0 _ rfl; have f1 := hf 1 _ rfl; have f2 := hf 2 _ rfl; have f3 := hf 3 _ rfl; simp [cells36, cells3] at f0 f1 f2 f3; obtain ⟨ip, e0, k0⟩ := u32_cell2 f0; obtain ⟨b, e1, k1⟩ := int_cell f1
 obtain ⟨lo, e2, k2⟩ := int_cell f2; obtain ⟨hi, e3, k3⟩ := int_cell f3; simp at e0 e1 e2 e3; subst e0 e1 e2 e3; exact ⟨⟨ip, b, lo, hi⟩, rfl, k0, k1, k2, k3⟩
set_option maxRecDepth 100000 in
theorem cond_cells {cs : List Value} {x : DataW H × List MemPlace} (h : DataW.trod enc Tryz.prog w base spare held fuel 47 cs = some x) : ∃ c : CondD, cs = c.row ∧ c.ok := by
 obtain ⟨xs, m, _, _, hl, hxl, hf⟩ := DataW.trod_struct Tryz.underlying47 h; rw [cellsCond] at hl; obtain ⟨c0, c1, c2, c3, c4, c5, c6, c7, c8, rfl⟩ := list9 hl; obtain ⟨x0, x1, x2, x3, x4, x5, rfl⟩ := list6 hxl; have f0 := hf 0 _ rfl; have f1 := hf 1 _ rfl; have f2 := hf 2 _ rfl; have f3 := hf 3 _ rfl; have f4 := hf 4 _ rfl; have f5 := hf 5 _ rfl
 simp [cells3, cells37, cellsStr, cellsNet] at f0 f1 f2 f3 f4 f5; obtain ⟨arg, e0, k0⟩ := int_cell f0; obtain ⟨op, e1, k1⟩ := int_cell f1; obtain ⟨v, e2, k2⟩ := u64_cell f2; obtain ⟨mm, e3, k3⟩ := u64_cell f3; obtain ⟨s, e4, k4⟩ := str_cell2 f4; obtain ⟨n, e5, k5⟩ := net_cells f5; simp [NetD.row] at e0 e1 e2 e3 e4 e5; obtain ⟨rfl, rfl, rfl, rfl⟩ := e5; subst e0 e1 e2 e3 e4
 have h8 : v < 18446744073709551616 := Int.lt_of_le_of_lt k2.2 (by decide); have h9 : mm < 18446744073709551616 := Int.lt_of_le_of_lt k3.2 (by decide); exact ⟨⟨arg, op, v, mm, s, n⟩, rfl, k0, k1, ⟨k2.1, h8⟩, ⟨k3.1, h9⟩, k4, k5⟩
theorem crow_len (x : CondD) : x.row.length = 9 := rfl
set_option maxRecDepth 100000 in
theorem conds_cells {cs : List Value} {x : DataW H × List MemPlace} (h : DataW.trod enc Tryz.prog w base spare held fuel 39 cs = some x) :
  ∃ (l : List CondD) (A : Option Addr) (c : Nat), cs = [.slice A l.length c] ∧ CondsSl w w.heap.size (.slice A l.length c) l := by
 rcases open_slice Tryz.underlying39 h with ⟨hcs, _⟩ | ⟨a, len, cap, m, n, D, Pl, hcs, _, hl, hm, hmm, _, hi⟩
 ·exact ⟨[], none, 0, hcs, by simp, none, 0, rfl, Or.inl rfl⟩
 ·have hlm : len ≤ m := by rw [hmm]; split <;> omega
  have hex : ∀ i, i < len → ∃ x : CondD, (∀ j u, x.row[j]? = some u → w.cell? ((a.add (i * 9)).add j) = some u) ∧ x.ok := by
   intro i hil; obtain ⟨cs', hc, ht⟩ := hi i (by omega); rw [cellsCond] at hc; obtain ⟨x, rfl, hx⟩ := cond_cells ht; obtain ⟨_, _, hat⟩ := World.cells?_some hc; refine ⟨x, fun j u hu => ?_, hx⟩
   have hj : j < 9 := by
    rcases Nat.lt_or_ge j 9 with h | h
    ·exact h
    ·rw [List.getElem?_eq_none (by rw [crow_len]; exact h)] at hu; cases hu
   rw [hat j hj, hu]
  obtain ⟨f, hf2⟩ : ∃ f : Nat → CondD, ∀ i, i < len → (∀ j u, (f i).row[j]? = some u → w.cell? ((a.add (i * 9)).add j) = some u) ∧ (f i).ok :=
   ⟨fun i => if h : i < len then Classical.choose (hex i h) else ⟨0, 0, 0, 0, ⟨#[]⟩, ⟨0, 0, 0, 0⟩⟩, fun i h => by simp only [dif_pos h]; exact Classical.choose_spec (hex i h)⟩
  have hlen : ((List.range len).map f).length = len := by simp
  refine ⟨(List.range len).map f, some a, cap, by rw [hlen]; exact hcs, ?_, some a, cap, rfl, ?_⟩
  ·intro x hx; simp only [List.mem_map, List.mem_range] at hx; obtain ⟨i, hi, rfl⟩ := hx; exact (hf2 i hi).2
  ·rcases Nat.eq_zero_or_pos len with h0 | h0
   ·left; subst h0; rfl
   ·right; have hc0 := (hf2 0 h0).1 0 _ rfl; obtain ⟨b, o, spot⟩ := a; have hspot : spot = none := by simpa [Addr.add] using World.cell?_spot hc0
    subst hspot; refine ⟨b, o, rfl, by simpa [Addr.add] using block_lt hc0, fun i x hx => ?_⟩
    have hil : i < len := by
     rcases Nat.lt_or_ge i len with h | h
     ·exact h
     ·rw [List.getElem?_eq_none (by simpa using h)] at hx; cases hx
    obtain rfl : f i = x := by simpa [hil] using hx
    intro j u hu; have hc := (hf2 i hil).1 j u hu; rw [add_plain, add_plain] at hc; exact hc
set_option maxRecDepth 100000 in
theorem act_cells2 {cs : List Value} {x : DataW H × List MemPlace} (h : DataW.trod enc Tryz.prog w base spare held fuel 24 cs = some x) : ∃ k e, cs = [.int .i64 k, .int .i64 e] := by
 obtain ⟨xs, m, _, _, hl, hxl, hf⟩ := DataW.trod_struct Tryz.underlying24 h; rw [cellsAct] at hl; obtain ⟨c0, c1, rfl⟩ := list2 hl; obtain ⟨x0, x1, rfl⟩ := list2 hxl; have f0 := hf 0 _ rfl; have f1 := hf 1 _ rfl; simp [cells3] at f0 f1; obtain ⟨k, e0, _⟩ := int_cell f0; obtain ⟨e, e1, _⟩ := int_cell f1; simp at e0 e1; subst e0 e1; exact ⟨k, e, rfl⟩
set_option maxRecDepth 100000 in
theorem rule_cells {cs : List Value} {x : DataW H × List MemPlace} (h : DataW.trod enc Tryz.prog w base spare held fuel 41 cs = some x) :
  ∃ (r : RuleD) (A : Option Addr) (c : Nat), cs = [.int .i64 r.nr, .slice A r.conds.length c, .int .i64 r.kind, .int .i64 r.errno] ∧ CondsSl w w.heap.size (.slice A r.conds.length c) r.conds := by
 obtain ⟨xs, m, _, _, hl, hxl, hf⟩ := DataW.trod_struct Tryz.underlying41 h; rw [cellsRule] at hl; obtain ⟨c0, c1, c2, c3, rfl⟩ := list4 hl; obtain ⟨x0, x1, x2, rfl⟩ := list3 hxl; have f0 := hf 0 _ rfl; have f1 := hf 1 _ rfl; have f2 := hf 2 _ rfl; simp [cells3, cellsCs, cellsAct] at f0 f1 f2; obtain ⟨nr, e0, _⟩ := int_cell f0; obtain ⟨l, A, c, e1, hcs⟩ := conds_cells f1
 obtain ⟨k, e, e2⟩ := act_cells2 f2; simp at e0 e1 e2; obtain ⟨rfl, rfl⟩ := e2; subst e0 e1; exact ⟨⟨nr, l, k, e⟩, A, c, rfl, hcs⟩
set_option maxRecDepth 100000 in
theorem rules_cells {cs : List Value} {x : DataW H × List MemPlace} (h : DataW.trod enc Tryz.prog w base spare held fuel 22 cs = some x) :
  ∃ (l : List RuleD) (A : Option Addr) (c : Nat), cs = [.slice A l.length c] ∧ RulesSl w w.heap.size (.slice A l.length c) l := by
 rcases open_slice Tryz.underlying22 h with ⟨hcs, _⟩ | ⟨a, len, cap, m, n, D, Pl, hcs, _, hl, hm, hmm, _, hi⟩
 ·exact ⟨[], none, 0, hcs, none, 0, rfl, Or.inl rfl⟩
 ·have hlm : len ≤ m := by rw [hmm]; split <;> omega
  have hex : ∀ i, i < len → ∃ x : RuleD, ∃ A c, (∀ j u, [Value.int .i64 x.nr, .slice A x.conds.length c, .int .i64 x.kind, .int .i64 x.errno][j]? = some u → w.cell? ((a.add (i * 4)).add j) = some u) ∧ CondsSl w w.heap.size (.slice A x.conds.length c) x.conds := by
   intro i hil; obtain ⟨cs', hc, ht⟩ := hi i (by omega); rw [cellsRule] at hc; obtain ⟨x, A, c, rfl, hx⟩ := rule_cells ht; obtain ⟨_, _, hat⟩ := World.cells?_some hc; refine ⟨x, A, c, fun j u hu => ?_, hx⟩
   have hj : j < 4 := by
    rcases Nat.lt_or_ge j 4 with h | h
    ·exact h
    ·rw [List.getElem?_eq_none (by simpa using h)] at hu; cases hu
   rw [hat j hj, hu]
  obtain ⟨f, hf2⟩ : ∃ f : Nat → RuleD, ∀ i, i < len → ∃ A c, (∀ j u, [Value.int .i64 (f i).nr, .slice A (f i).conds.length c, .int .i64 (f i).kind, .int .i64 (f i).errno][j]? = some u → w.cell? ((a.add (i * 4)).add j) = some u) ∧ CondsSl w w.heap.size (.slice A (f i).conds.length c) (f i).conds :=
   ⟨fun i => if h : i < len then Classical.choose (hex i h) else ⟨0, [], 0, 0⟩, fun i h => by simp only [dif_pos h]; exact Classical.choose_spec (hex i h)⟩
  have hlen : ((List.range len).map f).length = len := by simp
  refine ⟨(List.range len).map f, some a, cap, by rw [hlen]; exact hcs, some a, cap, rfl, ?_⟩; rcases Nat.eq_zero_or_pos len with h0 | h0
  ·left; subst h0; rfl
  ·right; obtain ⟨A0, cc0, hc00, _⟩ := hf2 0 h0; have hc0 := hc00 0 _ rfl; obtain ⟨b, o, spot⟩ := a; have hspot : spot = none := by simpa [Addr.add] using World.cell?_spot hc0
   subst hspot; refine ⟨b, o, rfl, by simpa [Addr.add] using block_lt hc0, fun i x hx => ?_⟩
   have hil : i < len := by
    rcases Nat.lt_or_ge i len with h | h
    ·exact h
    ·rw [List.getElem?_eq_none (by simpa using h)] at hx; cases hx
   obtain rfl : f i = x := by simpa [hil] using hx
   obtain ⟨Ai, ci, hci, hcs2⟩ := hf2 i hil; refine ⟨Ai, ci, hcs2, fun j u hu => ?_⟩; have hc := hci j u hu; rw [add_plain, add_plain] at hc; exact hc
set_option maxRecDepth 100000 in
theorem open_policy {r : Reach} {b0 : Nat} {v : Value} {d : DataW H} {p : List MemPlace} (hv : Value.okWide Tryz.prog w r b0 26 v) (h : DataW.Trod enc Tryz.prog w base spare held 26 v d p) :
  ∃ q : PolD, PolAt w w.heap.size v q := by
 obtain ⟨cs, rfl, _⟩ := okWide_struct Tryz.underlying26 hv; obtain ⟨fuel, hf0⟩ := h; obtain ⟨xs, m, _, _, hl, hxl, hf⟩ := DataW.trod_struct Tryz.underlying26 hf0; obtain ⟨cs⟩ := cs; simp only [Value.cells] at hl hf; rw [cellsPol] at hl; obtain ⟨c0, c1, c2, rfl⟩ := list3 hl; obtain ⟨x0, x1, rfl⟩ := list2 hxl; have f0 := hf 0 _ rfl; have f1 := hf 1 _ rfl; simp [cellsRs, cellsAct] at f0 f1
 obtain ⟨l, A, c, e0, hR⟩ := rules_cells f0; obtain ⟨k, e, e1⟩ := act_cells2 f1; simp at e0 e1; obtain ⟨rfl, rfl⟩ := e1; subst e0; exact ⟨⟨l, k, e⟩, A, c, rfl, hR⟩
end
end Go.Proofs.YtmgngapkgcofnabGreatDoor
