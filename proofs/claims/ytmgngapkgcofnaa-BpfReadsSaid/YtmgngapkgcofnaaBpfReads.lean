/- For every text the law BpfReads returns true, and the text reads as it did: what bpf.Parse reads of any bytes is what the reference reads of them. No condition. -/
import Derived.Test.YtmgngapkgcofnaaBpfLaw
import Derived.Test.YtmgngapkgcofnaaParse
import Derived.Test.YtmgngapkgcofnaaSameP
import Derived.Test.YtmgngapkgcofnaaReturns
import Derived.Test.YtmgngapkgcofnaaPost
import Derived.ProofKit
namespace Go.Proofs.Ytmgngapkgcofnaa.bpfReads
open Go.ChangeShapes Go.WideShapes Go.ChangeAt Go.RowKit
open Go.ChangeMaps (open_string shut_string)

theorem own : ownKnob Try.prog.godebug = none := by kernel_rfl

theorem parse_any (s : ByteArray) (w : World) (hs : s.size ≤ 2000) :
    Calls Try.prog 12 #[.string s] w fun e w' => ParseR s e w' ∧ Below w.heap.size w w' := by
  by_cases h : s.size % 8 = 0
  · exact parse_loop s w h (by omega)
  · have HF : Hid (parseF s = none) := by show _ = _; unfold parseF; rw [if_pos (Or.inl h)]
    have t0 : decide (0 < ((s.size : Int) % 8)) = true := by simp; omega
    go_enter Try.func12, Try.ntmps12
    go_wp2
    go_ret2
    exact ⟨ParseR.no HF.out rfl, Below.refl _ _⟩
theorem prog_any (s : ByteArray) (w : World) (hs : s.size ≤ 2000) :
    Calls Try.prog 13 #[.string s] w fun e w' => ProgR s e w' ∧ Below w.heap.size w w' := by
  by_cases h : s.size % 8 = 0
  · exact progOf_loop s w h (by omega)
  · have HF : Hid (progF s = none) := by show _ = _; unfold progF; rw [if_pos (Or.inl h)]
    have t0 : decide (0 < ((s.size : Int) % 8)) = true := by simp; omega
    go_enter Try.func13, Try.ntmps13
    go_wp2
    go_ret2
    exact ⟨ProgR.no HF.out rfl, Below.refl _ _⟩

theorem same_yes (w : World) : Calls Try.prog 14 #[.nilIface, .int .i64 0] w fun e w' => e = .returned (.bool true) ∧ w = w' := same_any 0 0 w (by omega)
theorem same_four (w : World) : Calls Try.prog 14 #[.iface 114 (.int .i64 4), .int .i64 4] w fun e w' => e = .returned (.bool true) ∧ w = w' := same_any 4 4 w (by omega)

set_option maxHeartbeats 1000000 in
theorem walk (s : ByteArray) (w : World) (hm : s.size ≤ maxLen) :
    Calls Try.prog 3 #[.string s] w fun e w' => e = .returned (.bool true) ∧ Below w.heap.size w w' := by
  unfold maxLen at hm
  by_cases hs : s.size ≤ 2000
  · have t1 : decide (2000 < (s.size : Int)) = false := by simp; omega
    have HP : Hid (∀ w, Calls Try.prog 12 #[.string s] w fun e w' => ParseR s e w' ∧ Below w.heap.size w w') := fun w => parse_any s w hs
    have HQ : Hid (∀ w, Calls Try.prog 13 #[.string s] w fun e w' => ProgR s e w' ∧ Below w.heap.size w w') := fun w => prog_any s w hs
    have hlaw := parse_eq_prog s
    cases hp : progF s with
    | none =>
      have HP2 : Hid (∀ w, Calls Try.prog 12 #[.string s] w fun e w' => e = .returned (.tuple #[.slice none 0 0, .iface 114 (.int .i64 4)]) ∧ Below w.heap.size w w') := fun w =>
        (HP.out w).mono fun e w' ⟨h1, h2⟩ => ⟨by unfold ParseR at h1; rw [hlaw, hp] at h1; exact h1, h2⟩
      have HQ2 : Hid (∀ w, Calls Try.prog 13 #[.string s] w fun e w' => e = .returned (.tuple #[.slice none 0 0, .bool false]) ∧ Below w.heap.size w w') := fun w =>
        (HQ.out w).mono fun e w' ⟨h1, h2⟩ => ⟨by unfold ProgR at h1; rw [hp] at h1; exact h1, h2⟩
      clear HP HQ hlaw hp hs
      go_enter Try.func3, Try.ntmps3
      go_wp2_with (first
        | (go_at_call 11; refine (returns_any _).mono ?_; rintro e w1 ⟨rfl, hb1⟩)
        | (go_at_call 12; refine (HP2.out _).mono ?_; rintro e w2 ⟨rfl, hb2⟩)
        | (go_at_call 13; refine (HQ2.out _).mono ?_; rintro e w3 ⟨rfl, hb3⟩)
        | (go_at_call 14; refine (same_four _).mono ?_; rintro e w4 ⟨rfl, rfl⟩))
      go_ret
      exact ⟨rfl, below_then (below_then hb1 (Nat.le_refl _) hb2) (Nat.le_refl _) hb3⟩
    | some l =>
      have hll : l.length ≤ 140737488355328 := by
        unfold progF at hp
        split at hp
        · cases hp
        · split at hp
          · cases hp; rw [insList_length]; omega
          · cases hp
      have HP2 : Hid (∀ w, Calls Try.prog 12 #[.string s] w fun e w' => ∃ v, e = .returned (.tuple #[v, .nilIface]) ∧ InsSl w' w'.heap.size v l ∧ Below w.heap.size w w') := fun w =>
        (HP.out w).mono fun e w' ⟨h1, h2⟩ => by unfold ParseR at h1; rw [hlaw, hp] at h1; obtain ⟨v, h3, h4⟩ := h1; exact ⟨v, h3, h4, h2⟩
      have HQ2 : Hid (∀ w, Calls Try.prog 13 #[.string s] w fun e w' => ∃ v, e = .returned (.tuple #[v, .bool true]) ∧ InsSl w' w'.heap.size v l ∧ Below w.heap.size w w') := fun w =>
        (HQ.out w).mono fun e w' ⟨h1, h2⟩ => by unfold ProgR at h1; rw [hp] at h1; obtain ⟨v, h3, h4⟩ := h1; exact ⟨v, h3, h4, h2⟩
      have HS : Hid (∀ v u w, InsSl w w.heap.size v l → InsSl w w.heap.size u l → Calls Try.prog 15 #[v, u] w fun e w' => e = .returned (.bool true) ∧ Below w.heap.size w w') := fun v u w h1 h2 =>
        (sameP_any v u l l w h1 h2 hll hll).mono fun e w' ⟨h3, h4⟩ => ⟨by rw [h3]; unfold sameB; rw [decide_eq_true rfl], h4⟩
      clear HP HQ hlaw hp hs hll
      go_enter Try.func3, Try.ntmps3
      go_wp2_with (first
        | (go_at_call 11; refine (returns_any _).mono ?_; rintro e w1 ⟨rfl, hb1⟩)
        | (go_at_call 12; refine (HP2.out _).mono ?_; rintro e w2 ⟨v2, rfl, hi2, hb2⟩; have HI2 := Lib.hid hi2; clear hi2)
        | (go_at_call 13; refine (HQ2.out _).mono ?_; rintro e w3 ⟨v3, rfl, hi3, hb3⟩; have HI3 := Lib.hid hi3; clear hi3)
        | (go_at_call 14; refine (same_yes _).mono ?_; rintro e w4 ⟨rfl, rfl⟩)
        | (go_at_call 15; refine (HS.out _ _ _ ((HI2.out.below hb3).mono hb3.size) HI3.out).mono ?_; rintro e w5 ⟨rfl, hb5⟩))
      go_ret
      exact ⟨rfl, below_then (below_then (below_then hb1 (Nat.le_refl _) hb2) (Nat.le_refl _) hb3) (Nat.le_refl _) hb5⟩
  · have t1 : decide (2000 < (s.size : Int)) = true := by simp; omega
    clear hs
    go_enter Try.func3, Try.ntmps3
    go_wp2_with (go_at_call 11; refine (returns_any _).mono ?_; rintro e w1 ⟨rfl, hb1⟩)
    go_ret
    exact ⟨rfl, hb1⟩

set_option maxRecDepth 100000 in
theorem lifted (os : Os) (started : os.Started) (H : Type) (enc : TypeId × Value → H) :
    ReturnsInHanded {} Try.checked os 3 .any (Rows.bpfReadsSpec.pre6 enc Try.prog Try.f3 Rows.bpfReadsRow.domain false) (Rows.bpfReadsSpec.post enc Try.prog Try.f3 false true false false) := by
  refine returnsInHanded_of_change (C := Try.checked) own started (by kernel_rfl) Try.func3
    (ChangeSpec.witness6 (enc := enc) (C := Try.checked) false ⟨#[], #[.string .empty], []⟩ 8 (by kernel_rfl) (by kernel_rfl) (by kernel_rfl) (by kernel_rfl)) ?_
  intro W base args ds gs before hval0 hW hcnd _
  have hval : ∀ (j : Nat) t v, Try.f3.params[j]? = some t → args[j]? = some v → Value.okWide Try.prog W .any base t v := hval0
  have hW' := hW
  obtain ⟨p, q, hA0, hV, rfl, hfz, hnd⟩ := hW
  have hA : DataW.TrodAll enc Try.prog W 0 (fun _ => true) true Try.f3.params.toList args.toList ds p := hA0
  rw [Try.params3] at hA hval
  obtain ⟨v0, d0, rfl, rfl, h0⟩ := trodAll_one hA
  obtain ⟨rfl, rfl⟩ := trodVars_none hV
  obtain ⟨s, rfl, rfl, rfl, hmax⟩ := open_string Try.underlying9 (hval 0 9 v0 rfl rfl) h0
  clear hA0 hval0 hcnd
  simp only [List.append_nil] at hW'
  refine (walk s W hmax).mono fun e W' ⟨he, hb⟩ => ?_
  subst he
  exact ⟨_, rfl, post_of_below (pa := []) (pv := []) hW' (fun _ _ _ => trodAll_mk1 (shut_bool Try.underlying4 _)) (fun _ _ => trodAll_mk1 (shut_string Try.underlying9 hmax)) (fun _ _ => rfl) rfl hb
    (ok_one (by kernel_rfl) rfl (okWide_bool_mk Try.underlying4 _))⟩

theorem holds : Rows.BpfReadsSaid :=
  OpenClaim.holds_of_wide 3 Try.f3 rfl rfl rfl rfl rfl rfl rfl ⟨rfl, rfl, rfl, rfl, rfl⟩ rfl rfl rfl rfl rfl (by kernel_rfl) Try.func3 (by kernel_rfl)
    (of_decide_eq_true (by kernel_rfl)) (by unfold Func.isWrapper; first | (rw [if_pos (by decide +kernel)]; kernel_rfl) | (rw [if_neg (by decide +kernel)]; exact ⟨rfl, rfl⟩))
    (fun os started H enc _ => lifted os started H enc)

end Go.Proofs.Ytmgngapkgcofnaa.bpfReads
