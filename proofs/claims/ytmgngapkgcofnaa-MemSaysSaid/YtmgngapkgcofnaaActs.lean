/- Acts: a slice of them in memory; LightActs. -/
import Derived.Test.YtmgngapkgcofnaaMemCopy
import Derived.Test.YtmgngapkgcofnaaWord
namespace Go.Proofs.Ytmgngapkgcofnaa
open Go.RowKit Go.PlainAid

structure ActD where
  kind : ByteArray
  n : Int
  a : Int
  s : ByteArray
  wr : Bool
  call : CallD
def ActD.row (x : ActD) : List Value := [.string x.kind, .int .i64 x.n, .int .u64 x.a, .string x.s, .bool x.wr, .int .u32 x.call.arch, .int .u32 x.call.nr, .int .u64 x.call.a0, .int .u64 x.call.a1, .int .u64 x.call.a2, .int .u64 x.call.a3]
def ActD.ok (x : ActD) : Prop := (Lit.int .i64 x.n).wf = true ∧ (0 ≤ x.a ∧ x.a < 18446744073709551616) ∧ x.call.ok ∧ x.s.size ≤ maxLen ∧ x.kind.size ≤ maxLen
def ActRow (w : World) (b o : Nat) (l : List ActD) : Prop := ∀ i x, l[i]? = some x → w.rangeAt b (o + i * 11) x.row
def ActsSl (w : World) (B : Nat) (v : Value) (l : List ActD) : Prop :=
  (∀ x ∈ l, x.ok) ∧ ∃ A c, v = .slice A l.length c ∧ (l = [] ∨ ∃ b o, A = some ⟨b, o, none⟩ ∧ b < B ∧ ActRow w b o l)
theorem ActRow.below {w w' : World} {b o B : Nat} {l : List ActD} (h : ActRow w b o l) (hb : Below B w w') (hB : b < B) : ActRow w' b o l :=
  fun i x hx j v hv => (hb.cell (p := ⟨b, _, none⟩) hB).trans (h i x hx j v hv)
theorem ActsSl.below {w w' : World} {B : Nat} {v : Value} {l : List ActD} (h : ActsSl w B v l) (hb : Below B w w') : ActsSl w' B v l := by
  obtain ⟨h0, A, c, h1, h2⟩ := h
  refine ⟨h0, A, c, h1, h2.imp id ?_⟩
  rintro ⟨b, o, ha, hB, hr⟩
  exact ⟨b, o, ha, hB, hr.below hb hB⟩
theorem ActsSl.mono {w : World} {B B' : Nat} {v : Value} {l : List ActD} (h : ActsSl w B v l) (hb : B ≤ B') : ActsSl w B' v l := by
  obtain ⟨h0, A, c, h1, h2⟩ := h
  refine ⟨h0, A, c, h1, h2.imp id ?_⟩
  rintro ⟨b, o, ha, hB, hr⟩
  exact ⟨b, o, ha, by omega, hr⟩

def lightF (l : List ActD) (most : Int) : Bool := decide ((l.length : Int) ≤ most) && l.all fun x => decide (x.s.size ≤ 200)
theorem lightF_len {l : List ActD} {most : Int} (h : lightF l most = true) : (l.length : Int) ≤ most ∧ ∀ x ∈ l, x.s.size ≤ 200 := by
  unfold lightF at h
  simp only [Bool.and_eq_true, decide_eq_true_eq, List.all_eq_true] at h
  exact h
set_option linter.unusedSimpArgs false in
set_option maxHeartbeats 2000000 in
theorem light_any (v : Value) (l : List ActD) (most : Int) (w : World) (h : ActsSl w w.heap.size v l) (hm : most ≤ 4096) :
    Calls Try.prog 30 #[v, .int .i64 most] w fun e w' => e = .returned (.bool (lightF l most)) ∧ w = w' := by
  obtain ⟨hok, A, c, rfl, hr⟩ := h
  by_cases h1 : most < (l.length : Int)
  · have HF : Hid (lightF l most = false) := by show _ = _; unfold lightF; rw [decide_eq_false (by omega)]; rfl
    clear hr hok
    go_enter Try.func30, Try.ntmps30
    go_wp2_with fail
    go_ret
    exact ⟨by rw [HF.out]; rfl, rfl⟩
  · have HF : Hid (lightF l most = l.all fun x => decide (x.s.size ≤ 200)) := by show _ = _; unfold lightF; rw [decide_eq_true (by omega)]; rfl
    have HR := Lib.hid hr
    have hlen : l.length ≤ 4096 := by omega
    clear hr hok
    go_enter Try.func30, Try.ntmps30
    go_wp2_with fail
    go_loop [5] (fun iv => ∃ k : Nat, k ≤ l.length ∧ iv = .int .i64 k ∧ Hid (∀ i x, i < k → l[i]? = some x → x.s.size ≤ 200)) (fun iv => l.length - (intOf iv).toNat)
    case atStart => exact ⟨0, Nat.zero_le _, rfl, fun i x h _ => absurd h (Nat.not_lt_zero i)⟩
    case round =>
      obtain ⟨k, hk, rfl, hP⟩ := hrel
      by_cases hlt : k < l.length
      · have x1 : (k : Int) < (l.length : Int) := by omega
        have x2 : (0 : Int) ≤ (k : Int) := by omega
        have hl : l[k]? = some l[k] := by simp
        obtain ⟨b, o, rfl, hb, hrow⟩ := HR.out.resolve_left (by intro e; rw [e] at hlt; simp at hlt)
        have hc := hrow k l[k] hl 3 (.string l[k].s) rfl
        by_cases h200 : 200 < l[k].s.size
        · have HF2 : Hid (lightF l most = false) := by
            show _ = _
            rw [HF.out, List.all_eq_false]
            exact ⟨l[k], by simp, by simp; omega⟩
          have x3 : (200 : Int) < (l[k].s.size : Int) := by omega
          clear hrow h200
          generalize l[k].s = s at *
          clear hl
          go_wp2_with fail
          go_ret
          exact ⟨by rw [HF2.out]; rfl, rfl⟩
        · have x3 : ¬ (200 : Int) < (l[k].s.size : Int) := by omega
          have hP2 : Hid (∀ i x, i < k + 1 → l[i]? = some x → x.s.size ≤ 200) := by
            intro i x hi hx
            by_cases e : i = k
            · subst e; rw [hl] at hx; obtain rfl := Option.some.inj hx; omega
            · exact hP.out i x (by omega) hx
          clear hrow h200 hP
          generalize l[k].s = s at *
          clear hl
          go_wp2_with fail
          go_round
          case rel => exact ⟨k + 1, by omega, by go_num, hP2⟩
          case measure => simp [intOf]; omega
      · obtain rfl : k = l.length := by omega
        have HF2 : Hid (lightF l most = true) := by
          show _ = _
          rw [HF.out, List.all_eq_true]
          intro x hx
          obtain ⟨i, hi, rfl⟩ := List.getElem_of_mem hx
          exact decide_eq_true (hP.out i _ hi (by simp))
        go_wp2_with fail
        go_ret
        exact ⟨by rw [HF2.out]; rfl, rfl⟩

end Go.Proofs.Ytmgngapkgcofnaa
