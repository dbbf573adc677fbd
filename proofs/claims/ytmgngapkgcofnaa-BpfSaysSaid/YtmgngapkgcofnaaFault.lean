/- The reference's ProgramFault tells what Check tells. -/
import Derived.Test.YtmgngapkgcofnaaBpf
import Derived.Test.YtmgngapkgcofnaaWord
namespace Go.Proofs.Ytmgngapkgcofnaa
open Go.RowKit

theorem refWord_zero (p : Int) (w : World) (h0 : 0 ≤ p) (h1 : p < 4294967296) :
    Calls Try.prog 22 #[.agg #[.int .u32 0, .int .u32 0, .int .u64 0, .int .u64 0, .int .u64 0, .int .u64 0], .int .u32 p] w
      fun e w' => ∃ z, e = .returned (.tuple #[.int .u32 z, .int .i64 (wordE p)]) ∧ Below w.heap.size w w' :=
  (refWord_any ⟨0, 0, 0, 0, 0, 0⟩ p w (by simp [CallD.ok, u32ok, u64ok]) h0 h1).mono fun _ _ ⟨he, hb⟩ => ⟨_, he, hb⟩

set_option maxHeartbeats 8000000 in
set_option maxRecDepth 100000 in
theorem fault_any (v : Value) (l : List Ins) (w : World) (hr : InsSl w w.heap.size v l) (hlen : l.length ≤ 140737488355328) :
    Calls Try.prog 23 #[v] w fun e w' => e = .returned (.int .i64 (checkF l)) ∧ Below w.heap.size w w' := by
  obtain ⟨hok, A, c, rfl, hr⟩ := hr
  by_cases h0 : l.length = 0
  · have HF : Hid (checkF l = 2) := by show checkF l = 2; unfold checkF; rw [if_pos (Or.inl h0)]
    have h0' : ((l.length : Int) == 0) = true := by simp [h0]
    clear h0 hr hok hlen
    go_enter Try.func23, Try.ntmps23
    go_wp2
    go_ret
    exact ⟨by rw [HF.out]; rfl, Below.refl _ _⟩
  by_cases h1 : 4096 < l.length
  · have HF : Hid (checkF l = 2) := by show checkF l = 2; unfold checkF; rw [if_pos (Or.inr h1)]
    have h0' : ((l.length : Int) == 0) = false := beq_eq_false_iff_ne.2 (by omega)
    have h1' : decide (4096 < (l.length : Int)) = true := by simp; omega
    clear h0 hr hok
    go_enter Try.func23, Try.ntmps23
    go_wp2
    go_ret
    exact ⟨by rw [HF.out]; rfl, Below.refl _ _⟩
  have hC : checkF l = if scanF l ≠ 0 then scanF l else if (l[l.length - 1]?).map (·.op) = some 8 then 0 else 3 := by
    unfold checkF; rw [if_neg (by omega)]
  have HC := Lib.hid hC
  clear hC
  obtain ⟨b, o, rfl, hB, hrow⟩ := hr.resolve_left (by intro e; rw [e] at h0; exact h0 rfl)
  clear hr
  have h0' : ((l.length : Int) == 0) = false := beq_eq_false_iff_ne.2 (by omega)
  have h1' : decide (4096 < (l.length : Int)) = false := by simp; omega
  have HR : Hid (InsRow w b o l) := hrow
  have HO : Hid (∀ x ∈ l, x.ok) := hok
  clear hrow hok
  go_enter Try.func23, Try.ntmps23
  go_wp2
  go_loopw [4] (fun i wr => ∃ k : Nat, k ≤ l.length ∧ i = .int .i64 k ∧ Below w.heap.size w wr ∧ Hid (scanF l = scanF (l.drop k))) (fun i _ => l.length - (intOf i).toNat)
  case atStart => exact ⟨0, Nat.zero_le _, rfl, Below.refl _ _, rfl⟩
  case round =>
    obtain ⟨k, hk, rfl, hb, HS⟩ := hrel
    by_cases hlt : k < l.length
    · have hx := (HR.out.below hb hB) k l[k] (by simp)
      have hok' := HO.out l[k] (by simp)
      have HD := Lib.hid (scanF_drop hlt)
      generalize l[k] = x at *
      obtain ⟨op, jt, jf, kk⟩ := x
      obtain ⟨g0, g1, g2, g3⟩ := hx
      obtain ⟨hk1, hk2⟩ := hok'
      simp only at g0 g1 g2 g3 hk1 hk2
      have hbound : ((l.length : Int) - 1 - k) = (((l.length - 1 - k : Nat)) : Int) := by omega
      clear hbound
      by_cases hw : kk % 4 = 0 ∧ kk < 40
      all_goals
        have HW : Hid (wordE kk = if kk % 4 = 0 ∧ kk < 40 then 0 else 1) := rfl
        first
          | (have HW : Hid (wordE kk = 0) := by show wordE kk = 0; unfold wordE; rw [if_pos hw])
          | (have HW : Hid (wordE kk = 1) := by show wordE kk = 1; unfold wordE; rw [if_neg hw])
        go_wp2_with (go_at_call 22; refine (refWord_zero _ _ (by assumption) (by assumption)).mono ?_; rintro e w' ⟨z, rfl, hb'⟩; have hz := hb'.size; simp only [World.size_alloc] at hz; have hc0 : w'.cell? ⟨wr.heap.size, 0, none⟩ = some (.int .i64 op) := (hb'.cell (p := ⟨_, _, none⟩) (by simp)).trans (by simp); have hc1 : w'.cell? ⟨wr.heap.size, 1, none⟩ = some (.int .i64 jt) := (hb'.cell (p := ⟨_, _, none⟩) (by simp)).trans (by simp); have hc2 : w'.cell? ⟨wr.heap.size, 2, none⟩ = some (.int .i64 jf) := (hb'.cell (p := ⟨_, _, none⟩) (by simp)).trans (by simp); have hc3 : w'.cell? ⟨wr.heap.size, 3, none⟩ = some (.int .u32 kk) := (hb'.cell (p := ⟨_, _, none⟩) (by simp)).trans (by simp); have hb2 := below_box hb (Nat.le_refl _) hb'; clear hb'; rw [HW.out])
      all_goals first
        | (exfalso; omega)
        | (go_roundw
           case rel =>
             refine ⟨k + 1, by omega, by go_num, by assumption, ?_⟩
             show scanF l = _
             rw [HS.out, HD.out, if_pos]
             unfold oneF
             repeat' split
             all_goals first | rfl | (exfalso; omega)
           case measure => simp [intOf]; omega)
        | (go_ret
           refine ⟨?_, by assumption⟩
           have hC : checkF l = oneF op jt jf kk ((l.length : Int) - 1 - k) ∨ oneF op jt jf kk ((l.length : Int) - 1 - k) = 0 := by
             by_cases he : oneF op jt jf kk ((l.length : Int) - 1 - k) = 0
             · exact Or.inr he
             · left; rw [HC.out, HS.out, HD.out, if_neg he, if_pos he]
           revert hC
           unfold oneF
           repeat' split
           all_goals first | (intro hC; rw [hC.resolve_right (by omega)]; rfl) | (exfalso; omega))
    · obtain rfl : k = l.length := by omega
      have hx := (HR.out.below hb hB) (l.length - 1) l[l.length - 1] (by simp)
      have hl : l[l.length - 1]? = some l[l.length - 1] := by simp
      generalize l[l.length - 1] = x at *
      obtain ⟨op, jt, jf, kk⟩ := x
      obtain ⟨g0, _, _, _⟩ := hx
      have HL := Lib.hid hl
      clear hl
      simp only at g0
      have hs0 : scanF l = 0 := by rw [HS.out, List.drop_length]; rfl
      by_cases h8 : op = 8
      · have HF : Hid (checkF l = 0) := by show checkF l = 0; rw [HC.out, hs0, HL.out]; simp [h8]
        clear hs0 HS
        subst h8
        go_wp2
        go_ret
        exact ⟨by rw [HF.out]; rfl, hb⟩
      · have HF : Hid (checkF l = 3) := by show checkF l = 3; rw [HC.out, hs0, HL.out]; simp [h8]
        clear hs0 HS
        go_wp2
        go_ret
        exact ⟨by rw [HF.out]; rfl, hb⟩

end Go.Proofs.Ytmgngapkgcofnaa
