/- For every pattern and every text the law GlobSays returns true, and both read as they did: glob.Check and glob.Match answer what the reference's GlobFault and Match do. No condition. -/
import Derived.Test.YtmgngapkgcofnaaGlobRefMatch
import Derived.Test.YtmgngapkgcofnaaLaw
import Derived.ProofKit
namespace Go.Proofs.Ytmgngapkgcofnaa.globSays
open Go.ChangeShapes Go.WideShapes Go.ChangeAt Go.RowKit
open Go.ChangeMaps (open_string shut_string)

theorem own : ownKnob Try.prog.godebug = none := by kernel_rfl
theorem laidOut : laidOutB Try.prog = true := by kernel_rfl

set_option maxHeartbeats 2000000 in
theorem walk (p s : ByteArray) (w : World) (hp : p.size ≤ maxLen) (hs : s.size ≤ maxLen) :
    Calls Try.prog 4 #[.string p, .string s] w fun e w' => e = .returned (.bool true) ∧ Below w.heap.size w w' := by
  unfold maxLen at hp hs
  by_cases h1 : p.size ≤ 60
  · have t1 : ¬ (60 : Int) < (p.size : Int) := by omega
    by_cases h2 : s.size ≤ 100
    · have t2 : ¬ (100 : Int) < (s.size : Int) := by omega
      have hG := globF_cases (bytesOf p)
      have hsame : Hid (∀ w0 : World, Calls Try.prog 14 #[errV (globF (bytesOf p)), .int .i64 (globF (bytesOf p))] w0 fun e w' => e = .returned (.bool true) ∧ w0 = w') := by
        intro w0
        have := same_any (globF (bytesOf p)) (globF (bytesOf p)) w0 (by omega)
        rw [decide_eq_true rfl] at this
        exact this
      have hp2 : p.size ≤ 4096 := by omega
      have hs2 : s.size ≤ 100000 := by omega
      obtain ⟨M, hM⟩ : ∃ M, Hid (matchB p s = M) := ⟨_, rfl⟩
      obtain ⟨G, hG1⟩ : ∃ G, Hid (globF (bytesOf p) = G) := ⟨_, rfl⟩
      obtain ⟨V, hV⟩ : ∃ V, Hid (errV G = V) := ⟨_, rfl⟩
      rw [hG1.out, hV.out] at hsame
      clear hG h1 h2
      have hMM : (M == M) = true := by simp
      go_enter Try.func4, Try.ntmps4
      go_wp2_with (first
        | (go_at_call 16; refine (likes_any _).mono ?_; rintro e w1 ⟨rfl, hb1⟩)
        | (go_at_call 17; refine (globCheck_any _ _ hp2).mono ?_; rintro e w2 ⟨rfl, hb2⟩; rw [hG1.out, hV.out])
        | (go_at_call 18; refine (globFault_any _ _ hp2).mono ?_; rintro e w3 ⟨rfl, hb3⟩; rw [hG1.out])
        | (go_at_call 14; refine (hsame.out _).mono ?_; rintro e w4 ⟨rfl, rfl⟩)
        | (go_at_call 19; refine (globMatch_any _ _ _ hp2 hs2).mono ?_; rintro e w5 ⟨rfl, hb5⟩; rw [hM.out])
        | (go_at_call 20; refine (refMatch_any _ _ _ hp2 hs2).mono ?_; rintro e w6 ⟨rfl, hb6⟩; rw [hM.out]))
      go_ret
      exact ⟨ret_bool (by simp), below_then (below_then (below_then (below_then hb1 (Nat.le_refl _) hb2) (Nat.le_refl _) hb3) (Nat.le_refl _) hb5) (Nat.le_refl _) hb6⟩
    · have t2 : (100 : Int) < (s.size : Int) := by omega
      clear hp hs h1 h2
      go_enter Try.func4, Try.ntmps4
      go_wp2_with (go_at_call 16; refine (likes_any _).mono ?_; rintro e w1 ⟨rfl, hb1⟩)
      go_ret
      exact ⟨rfl, hb1⟩
  · have t1 : (60 : Int) < (p.size : Int) := by omega
    clear hp hs h1
    go_enter Try.func4, Try.ntmps4
    go_wp2_with (go_at_call 16; refine (likes_any _).mono ?_; rintro e w1 ⟨rfl, hb1⟩)
    go_ret
    exact ⟨rfl, hb1⟩

set_option maxRecDepth 100000 in
theorem lifted (os : Os) (started : os.Started) (H : Type) (enc : TypeId × Value → H) :
    ReturnsInHanded {} Try.checked os 4 .any (Rows.globSaysSpec.pre6 enc Try.prog Try.f4 Rows.globSaysRow.domain false) (Rows.globSaysSpec.post enc Try.prog Try.f4 false true false false) := by
  refine returnsInHanded_of_change (C := Try.checked) own started (by kernel_rfl) Try.func4
    (ChangeSpec.witness6 (enc := enc) (C := Try.checked) false ⟨#[], #[.string .empty, .string .empty], []⟩ 8 (by kernel_rfl) (by kernel_rfl) (by kernel_rfl) (by kernel_rfl)) ?_
  intro W base args ds gs before hval0 hW _ _
  have hval : ∀ (j : Nat) t v, Try.f4.params[j]? = some t → args[j]? = some v → Value.okWide Try.prog W .any base t v := hval0
  have hW' : DataW.Whole enc Try.prog Try.f4.params.toList Rows.globSaysSpec.vars false W args.toList ds gs before := hW
  obtain ⟨p, q, hA0, hV, rfl, hfz, hnd⟩ := hW
  have hA : DataW.TrodAll enc Try.prog W 0 (fun _ => true) true Try.f4.params.toList args.toList ds p := hA0
  rw [Try.params4] at hA hval
  obtain ⟨v0, v1, d0, d1, p0, p1, rfl, rfl, rfl, h0, h1⟩ := trodAll_two hA
  obtain ⟨rfl, rfl⟩ := trodVars_none hV
  obtain ⟨s0, rfl, rfl, rfl, hm0⟩ := open_string Try.underlying9 (hval 0 9 v0 rfl rfl) h0
  obtain ⟨s1, rfl, rfl, rfl, hm1⟩ := open_string Try.underlying9 (hval 1 9 v1 rfl rfl) h1
  refine (walk s0 s1 W hm0 hm1).mono fun e W' ⟨he, hb⟩ => ?_
  subst he
  exact ⟨_, rfl, law_post laidOut (by kernel_rfl) Try.underlying4 (by kernel_rfl) rfl hW' rfl hb⟩

theorem holds : Rows.GlobSaysSaid :=
  OpenClaim.holds_of_wide 4 Try.f4 rfl rfl rfl rfl rfl rfl rfl ⟨rfl, rfl, rfl, rfl, rfl⟩ rfl rfl rfl rfl rfl (by kernel_rfl) Try.func4 (by kernel_rfl)
    (of_decide_eq_true (by kernel_rfl)) (by unfold Func.isWrapper; first | (rw [if_pos (by decide +kernel)]; kernel_rfl) | (rw [if_neg (by decide +kernel)]; exact ⟨rfl, rfl⟩))
    (fun os started H enc _ => lifted os started H enc)

end Go.Proofs.Ytmgngapkgcofnaa.globSays
