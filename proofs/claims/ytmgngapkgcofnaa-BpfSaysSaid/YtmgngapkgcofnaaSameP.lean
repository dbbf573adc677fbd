/- The reference's SameProgram: two programs are one. -/
import Derived.Test.YtmgngapkgcofnaaBpf
import Derived.Deep.QuietTactic
import Derived.BigQuiet
import Derived.Laws.StructEq
namespace Go.Proofs.Ytmgngapkgcofnaa
open Go.RowKit

theorem ins_cases (x y : Ins) : x = y ∨ (¬ x.op = y.op) ∨ (x.op = y.op ∧ ¬ x.jt = y.jt) ∨ (x.op = y.op ∧ x.jt = y.jt ∧ ¬ x.jf = y.jf) ∨ (x.op = y.op ∧ x.jt = y.jt ∧ x.jf = y.jf ∧ ¬ x.k = y.k) := by
  obtain ⟨a, b, c, d⟩ := x
  obtain ⟨a', b', c', d'⟩ := y
  simp only [Ins.mk.injEq]
  omega
theorem take_eq_snoc {α : Type} {l m : List α} {k : Nat} (h : l.take k = m.take k) (hl : k < l.length) (hm : k < m.length) (e : l[k] = m[k]) : l.take (k + 1) = m.take (k + 1) := by
  rw [List.take_succ_eq_append_getElem hl, List.take_succ_eq_append_getElem hm, h, e]
def sameB (l m : List Ins) : Bool := decide (l = m)
theorem sameB_no {l m : List Ins} {k : Nat} (hl : k < l.length) (hm : k < m.length) (e : ¬ l[k] = m[k]) : sameB l m = false := by
  unfold sameB; rw [decide_eq_false]; rintro rfl; exact e rfl

set_option maxRecDepth 100000 in
set_option maxHeartbeats 1000000 in
theorem sameP_any (v u : Value) (l m : List Ins) (w : World) (hl : InsSl w w.heap.size v l) (hm : InsSl w w.heap.size u m) (hlen : l.length ≤ 140737488355328) (hlen2 : m.length ≤ 140737488355328) :
    Calls Try.prog 15 #[v, u] w fun e w' => e = .returned (.bool (sameB l m)) ∧ Below w.heap.size w w' := by
  obtain ⟨_, A, c, rfl, hr⟩ := hl
  obtain ⟨_, A', c', rfl, hr'⟩ := hm
  by_cases hne : l.length = m.length
  · have HN : Hid (l.length = m.length) := hne
    have h0 : ((l.length : Int) == (m.length : Int)) = true := by simp [hne]
    have h1 : ((l.length : Int) != (m.length : Int)) = false := by simp [hne]
    have hle : l.length ≤ m.length := by omega
    clear hne
    have HL := Lib.hid hr
    have HM := Lib.hid hr'
    clear hr hr'
    go_enter Try.func15, Try.ntmps15
    go_wp2
    go_loopw [5] (fun i wr => ∃ k : Nat, k ≤ l.length ∧ i = .int .i64 k ∧ Below w.heap.size w wr ∧ Hid (l.take k = m.take k)) (fun i _ => l.length - (intOf i).toNat)
    case atStart => exact ⟨0, Nat.zero_le _, rfl, Below.refl _ _, by show _ = _; simp⟩
    case round =>
      obtain ⟨k, hk, rfl, hb, HS⟩ := hrel
      by_cases hlt : k < l.length
      · have hlm : k < m.length := by omega
        obtain ⟨b, o, rfl, hB, hrow⟩ := HL.out.resolve_left (by rintro rfl; simp at hlt)
        obtain ⟨b', o', rfl, hB', hrow'⟩ := HM.out.resolve_left (by rintro rfl; simp at hlm)
        have hx := (hrow.below hb hB) k l[k] (by simp)
        have hy := (hrow'.below hb hB') k m[k] (by simp)
        have HT : Hid (l[k] = m[k] → l.take (k + 1) = m.take (k + 1)) := fun e => take_eq_snoc HS.out hlt hlm e
        have HF : Hid (¬ l[k] = m[k] → sameB l m = false) := fun e => sameB_no hlt hlm e
        clear hrow hrow'
        have hcs := ins_cases l[k] m[k]
        generalize l[k] = x at *
        generalize m[k] = y at *
        have i1 : (k : Int) < (l.length : Int) := by omega
        have i2 : (k : Int) < (m.length : Int) := by omega
        have i3 : (0 : Int) ≤ (k : Int) := by omega
        rcases hcs with rfl | hcs
        · obtain ⟨op, jt, jf, kk⟩ := x
          obtain ⟨g0, g1, g2, g3⟩ := hx
          obtain ⟨f0, f1, f2, f3⟩ := hy
          simp only at g0 g1 g2 g3 f0 f1 f2 f3
          go_wp2_with fail
          go_quiet (fail)
          go_wp2
          go_roundw
          case rel => exact ⟨k + 1, by omega, by go_num, below_drewN hb _, HT.out trivial⟩
          case measure => simp [intOf]; omega
        · have HX : Hid (sameB l m = false) := HF.out (by rintro rfl; simp at hcs)
          obtain ⟨op, jt, jf, kk⟩ := x
          obtain ⟨op', jt', jf', kk'⟩ := y
          obtain ⟨g0, g1, g2, g3⟩ := hx
          obtain ⟨f0, f1, f2, f3⟩ := hy
          simp only at g0 g1 g2 g3 f0 f1 f2 f3 hcs
          clear HT HF
          rcases hcs with hcs | ⟨rfl, hcs⟩ | ⟨rfl, rfl, hcs⟩ | ⟨rfl, rfl, rfl, hcs⟩
          all_goals
            go_wp2_with fail
            go_quiet (fail)
            go_wp2
            go_ret
            exact ⟨by rw [HX.out]; rfl, below_drewN hb _⟩
      · obtain rfl : k = l.length := by omega
        have HX : Hid (sameB l m = true) := by
          show _ = _
          unfold sameB
          rw [decide_eq_true]
          have := HS.out
          rwa [List.take_length, HN.out, List.take_length] at this
        clear HS
        go_wp2
        go_ret
        exact ⟨by rw [HX.out]; rfl, by go_grown⟩
  · have HX : Hid (sameB l m = false) := by show _ = _; unfold sameB; rw [decide_eq_false]; rintro rfl; exact hne rfl
    have h0 : ((l.length : Int) == (m.length : Int)) = false := beq_eq_false_iff_ne.2 (by omega)
    have h1 : ((l.length : Int) != (m.length : Int)) = true := by rw [bne_iff_ne]; omega
    clear hr hr' hne
    go_enter Try.func15, Try.ntmps15
    go_wp2
    go_ret
    exact ⟨by rw [HX.out]; rfl, by go_grown⟩
end Go.Proofs.Ytmgngapkgcofnaa
