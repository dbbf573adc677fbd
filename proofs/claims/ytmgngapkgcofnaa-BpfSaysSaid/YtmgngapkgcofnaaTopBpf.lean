/- For every program and every call the law TopBpf returns true, and both read as they did: a program that Check lets through ends, in no more steps than it has instructions, with what one of its Rets has. No condition. -/
import Derived.Test.YtmgngapkgcofnaaRunW
import Derived.Test.YtmgngapkgcofnaaOpen
import Derived.Test.YtmgngapkgcofnaaLaw
namespace Go.Proofs.Ytmgngapkgcofnaa.topBpf
open Go.ChangeShapes Go.WideShapes Go.ChangeAt Go.RowKit

/-- THE PLAIN LAW. -/
theorem run_law {l : List Ins} (c : CallD) (hok : ∀ x ∈ l, x.ok) (hsc : scanF l = 0) (hlast : (l[l.length - 1]?).map (·.op) = some 8) :
    ∀ (n p : Nat) (a st : Int), p < l.length → l.length - p ≤ n →
      st + 1 ≤ (runF l c n p a st).2 ∧ (runF l c n p a st).2 ≤ st + (l.length - p : Nat) ∧ ∃ x ∈ l, x.op = 8 ∧ x.k = (runF l c n p a st).1 := by
  intro n
  induction n with
  | zero => intro p a st hp hn; omega
  | succ n ih =>
    intro p a st hp hn
    have hf := fine_at hok hsc p hp
    have hend : p + 1 = l.length → l[p].op = 8 := fun e => by
      rw [show l.length - 1 = p from by omega, List.getElem?_eq_getElem hp] at hlast
      simpa using hlast
    have hx : l[p] ∈ l := List.getElem_mem hp
    obtain ⟨k0, k1⟩ := hok _ hx
    obtain ⟨⟨o1, o2⟩, ⟨j1, j2⟩, ⟨j3, j4⟩, fw, fj, fb⟩ := hf
    by_cases c1 : l[p].op = 1
    · rw [runF_1 hp c1]
      have hp2 : p + 1 < l.length := by
        rcases Nat.lt_or_ge (p + 1) l.length with h | h
        · exact h
        · have := hend (by omega); omega
      obtain ⟨h1, h2, h3⟩ := ih (p + 1) (c.word l[p].k) (st + 1) hp2 (by omega)
      exact ⟨by omega, by omega, h3⟩
    by_cases c2 : l[p].op = 2
    · rw [runF_2 hp c2]
      have hp2 : p + 1 < l.length := by
        rcases Nat.lt_or_ge (p + 1) l.length with h | h
        · exact h
        · have := hend (by omega); omega
      obtain ⟨h1, h2, h3⟩ := ih (p + 1) (bits .and .u32 a l[p].k) (st + 1) hp2 (by omega)
      exact ⟨by omega, by omega, h3⟩
    by_cases c3 : l[p].op = 3
    · rw [runF_3 hp c3]
      have := fj c3
      obtain ⟨h1, h2, h3⟩ := ih (p + 1 + l[p].k.toNat) a (st + 1) (by omega) (by omega)
      exact ⟨by omega, by omega, h3⟩
    by_cases c8 : l[p].op = 8
    · rw [runF_8 hp c8]
      exact ⟨by simp, by simp; omega, l[p], hx, c8, rfl⟩
    · rw [runF_b hp (by omega)]
      obtain ⟨y1, y2⟩ := fb (by omega) (by omega)
      split
      · obtain ⟨h1, h2, h3⟩ := ih (p + 1 + l[p].jt.toNat) a (st + 1) (by omega) (by omega)
        exact ⟨by omega, by omega, h3⟩
      · obtain ⟨h1, h2, h3⟩ := ih (p + 1 + l[p].jf.toNat) a (st + 1) (by omega) (by omega)
        exact ⟨by omega, by omega, h3⟩

theorem own : ownKnob Try.prog.godebug = none := by kernel_rfl
theorem laidOut : laidOutB Try.prog = true := by kernel_rfl

/-- Run at whatever program, nil too. -/
theorem run_bad (v : Value) (l : List Ins) (c : CallD) (w : World) (hs : InsSl w w.heap.size v l) (hlen : l.length ≤ 140737488355328) (hf : ¬ checkF l = 0) :
    Calls Try.prog 25 #[v, c.v] w fun e w' => e = .returned (.tuple #[.int .u32 0, .int .i64 0, .iface 114 (.int .i64 (checkF l))]) ∧ Below w.heap.size w w' := by
  have HCk : Hid (∀ o' : Obj, Calls Try.prog 26 #[v] (w.alloc o') fun e w' => e = .returned (.iface 114 (.int .i64 (checkF l))) ∧ Below w.heap.size w w') := fun o' =>
    (check_any _ l _ ((hs.below ((Below.refl _ _).alloc (Nat.le_refl _) o')).mono (by simp)) hlen).mono fun _ _ ⟨h1, h2⟩ => ⟨by rw [h1, errV_pos hf], below_box (Below.refl _ _) (Nat.le_refl _) h2⟩
  obtain ⟨_, A, cp, rfl, _⟩ := hs
  clear hf hlen
  generalize checkF l = z at *
  obtain ⟨arch, nr, a0, a1, a2, a3⟩ := c
  unfold CallD.v
  simp only
  go_enter Try.func25, Try.ntmps25
  go_wp2_with (go_at_call 26; refine (HCk.out _).mono ?_; rintro e w1 ⟨rfl, hb1⟩)
  go_ret3
  exact ⟨rfl, hb1⟩

def foundF (l : List Ins) (K : Int) : Bool := l.any fun x => x.op == 8 && x.k == K
theorem found_take {l : List Ins} {k : Nat} {K : Int} (h : k < l.length) : foundF (l.take (k + 1)) K = (foundF (l.take k) K || (l[k].op == 8 && l[k].k == K)) := by
  unfold foundF
  rw [List.take_succ_eq_append_getElem h, List.any_append]
  simp
theorem found_all {l : List Ins} {K : Int} (h : ∃ x ∈ l, x.op = 8 ∧ x.k = K) : foundF l K = true := by
  obtain ⟨x, hx, h1, h2⟩ := h
  unfold foundF
  rw [List.any_eq_true]
  exact ⟨x, hx, by simp [h1, h2]⟩

set_option maxRecDepth 100000 in
set_option maxHeartbeats 2000000 in
theorem walk (v : Value) (l : List Ins) (c : CallD) (w : World) (hs : InsSl w w.heap.size v l) (hc : c.ok) (hm : l.length ≤ maxLen) :
    Calls Try.prog 7 #[v, c.v] w fun e w' => e = .returned (.bool true) ∧ Below w.heap.size w w' := by
  unfold maxLen at hm
  by_cases h3 : l.length ≤ 300
  · have t1 : decide (300 < (l.length : Int)) = false := by simp; omega
    have hsA : ∀ o' : Obj, InsSl (w.alloc o') (w.alloc o').heap.size v l := fun o' => (hs.below ((Below.refl _ _).alloc (Nat.le_refl _) o')).mono (by simp)
    by_cases hf : checkF l = 0
    · obtain ⟨hl0, hl1, hsc, hlast⟩ := check_ok hf
      obtain ⟨r1, r2, r3⟩ := run_law c hs.1 hsc hlast l.length 0 0 0 hl0 (by omega)
      obtain ⟨hok, A, cp, rfl, hr⟩ := hs
      obtain ⟨b, o, rfl, hB, hrow⟩ := hr.resolve_left (by rintro rfl; simp at hl0)
      have HRn : Hid (∀ o' : Obj, Calls Try.prog 25 #[.slice (some ⟨b, o, none⟩) l.length cp, c.v] (w.alloc o') fun e w' => e = .returned (.tuple #[.int .u32 (runF l c l.length 0 0 0).1, .int .i64 (runF l c l.length 0 0 0).2, .nilIface]) ∧ Below (w.alloc o').heap.size (w.alloc o') w') := fun o' =>
        run_ok b o cp l c _ (hrow.below ((Below.refl _ _).alloc (Nat.le_refl _) o') hB) (by simp; omega) hok hc hf
      have HCk : Hid (∀ w1, Below w.heap.size w w1 → Calls Try.prog 26 #[.slice (some ⟨b, o, none⟩) l.length cp] w1 fun e w' => e = .returned .nilIface ∧ Below w1.heap.size w1 w') := fun w1 hb =>
        (check_any _ l w1 ⟨hok, _, _, rfl, Or.inr ⟨b, o, rfl, Nat.lt_of_lt_of_le hB hb.size, hrow.below hb hB⟩⟩ (by omega)).mono fun _ _ ⟨h1, h2⟩ => ⟨by rw [h1, hf]; rfl, h2⟩
      have HFd := Lib.hid (found_all r3)
      have HR : Hid (InsRow w b o l) := hrow
      clear r3 hsA hok hr hrow hlast hsc hf
      generalize (runF l c l.length 0 0 0).1 = K at *
      generalize (runF l c l.length 0 0 0).2 = S at *
      have s1 : (1 : Int) ≤ S := by omega
      have s2 : S ≤ (l.length : Int) := by omega
      obtain ⟨arch, nr, a0, a1, a2, a3⟩ := c
      clear hc
      unfold CallD.v at *
      simp only at HRn ⊢
      go_enter Try.func7, Try.ntmps7
      go_wp2_with (first
        | (go_at_call 25; refine (HRn.out _).mono ?_; rintro e w1 ⟨rfl, hb1⟩; have hb2 := below_box (Below.refl _ _) (Nat.le_refl _) hb1; clear hb1)
        | (go_at_call 26; refine (HCk.out _ hb2).mono ?_; rintro e w2 ⟨rfl, hb3⟩; have hb4 := below_then hb2 (Nat.le_refl _) hb3; clear hb2 hb3))
      go_loop [8, 9] (fun f i => ∃ k : Nat, k ≤ l.length ∧ i = .int .i64 k ∧ f = .bool (foundF (l.take k) K)) (fun _ i => l.length - (intOf i).toNat)
      case atStart => exact ⟨0, Nat.zero_le _, rfl, rfl⟩
      case round =>
        obtain ⟨k, hk, rfl, rfl⟩ := hrel
        by_cases hlt : k < l.length
        · have hx := (HR.out.below hb4 hB) k l[k] (by simp)
          have HT := Lib.hid (found_take (K := K) hlt)
          have hbd : (k : Int) < (l.length : Int) := by omega
          generalize l[k] = x at *
          obtain ⟨op, jt, jf, kk⟩ := x
          obtain ⟨g0, _, _, g3⟩ := hx
          simp only at g0 g3
          cases hfd : foundF (l.take k) K with
          | true =>
            have HX : Hid (foundF (l.take (k + 1)) K = true) := by show _ = _; rw [HT.out, hfd]; rfl
            clear hfd HT
            go_wp2
            go_round
            case rel => exact ⟨k + 1, by omega, by go_num, by rw [HX.out]⟩
            case measure => simp [intOf]; omega
          | false =>
            by_cases c1 : op = 8
            · subst c1
              by_cases c2 : kk = K
              · subst c2
                have HX : Hid (foundF (l.take (k + 1)) kk = true) := by show _ = _; rw [HT.out, hfd]; simp
                clear hfd HT
                go_wp2
                go_round
                case rel => exact ⟨k + 1, by omega, by go_num, by rw [HX.out]⟩
                case measure => simp [intOf]; omega
              · have HX : Hid (foundF (l.take (k + 1)) K = false) := by show _ = _; rw [HT.out, hfd]; simp [c2]
                have e2 : (kk == K) = false := beq_eq_false_iff_ne.2 c2
                clear hfd HT c2
                go_wp2
                go_round
                case rel => exact ⟨k + 1, by omega, by go_num, by rw [HX.out]⟩
                case measure => simp [intOf]; omega
            · have HX : Hid (foundF (l.take (k + 1)) K = false) := by show _ = _; rw [HT.out, hfd]; simp [c1]
              have e1 : (op == 8) = false := beq_eq_false_iff_ne.2 c1
              clear hfd HT c1
              go_wp2
              go_round
              case rel => exact ⟨k + 1, by omega, by go_num, by rw [HX.out]⟩
              case measure => simp [intOf]; omega
        · obtain rfl : k = l.length := by omega
          rw [List.take_length, HFd.out]
          go_wp2
          go_ret
          exact ⟨rfl, hb4⟩
    · have HRn : Hid (∀ o' : Obj, Calls Try.prog 25 #[v, c.v] (w.alloc o') fun e w' => e = .returned (.tuple #[.int .u32 0, .int .i64 0, .iface 114 (.int .i64 (checkF l))]) ∧ Below (w.alloc o').heap.size (w.alloc o') w') := fun o' =>
        run_bad v l c _ (hsA o') (by omega) hf
      have HCk : Hid (∀ w1, Below w.heap.size w w1 → Calls Try.prog 26 #[v] w1 fun e w' => e = .returned (.iface 114 (.int .i64 (checkF l))) ∧ Below w1.heap.size w1 w') := fun w1 hb =>
        (check_any _ l w1 ((hs.below hb).mono hb.size) (by omega)).mono fun _ _ ⟨h1, h2⟩ => ⟨by rw [h1, errV_pos hf], h2⟩
      clear hsA hf
      generalize checkF l = z at *
      obtain ⟨_, A, cp, rfl, _⟩ := hs
      obtain ⟨arch, nr, a0, a1, a2, a3⟩ := c
      clear hc
      unfold CallD.v at *
      simp only at HRn ⊢
      go_enter Try.func7, Try.ntmps7
      go_wp2_with (first
        | (go_at_call 25; refine (HRn.out _).mono ?_; rintro e w1 ⟨rfl, hb1⟩; have hb2 := below_box (Below.refl _ _) (Nat.le_refl _) hb1; clear hb1)
        | (go_at_call 26; refine (HCk.out _ hb2).mono ?_; rintro e w2 ⟨rfl, hb3⟩; have hb4 := below_then hb2 (Nat.le_refl _) hb3; clear hb2 hb3))
      go_ret
      exact ⟨rfl, hb4⟩
  · have t1 : decide (300 < (l.length : Int)) = true := by simp; omega
    obtain ⟨_, A, cp, rfl, _⟩ := hs
    clear h3
    obtain ⟨arch, nr, a0, a1, a2, a3⟩ := c
    unfold CallD.v
    simp only
    go_enter Try.func7, Try.ntmps7
    go_wp2
    go_ret
    exact ⟨rfl, by go_grown⟩

set_option maxRecDepth 100000 in
theorem lifted (os : Os) (started : os.Started) (H : Type) (enc : TypeId × Value → H) :
    ReturnsInHanded {} Try.checked os 7 .any (Rows.topBpfSpec.pre6 enc Try.prog Try.f7 Rows.topBpfRow.domain false) (Rows.topBpfSpec.post enc Try.prog Try.f7 false true false false) := by
  refine returnsInHanded_of_change (C := Try.checked) own started (by kernel_rfl) Try.func7
    (ChangeSpec.witness6 (enc := enc) (C := Try.checked) false ⟨#[], #[.slice none 0 0, .agg #[.int .u32 0, .int .u32 0, .int .u64 0, .int .u64 0, .int .u64 0, .int .u64 0]], []⟩ 8 (by kernel_rfl) (by kernel_rfl) (by kernel_rfl) (by kernel_rfl)) ?_
  intro W base args ds gs before hval0 hW _ _
  have hval : ∀ (j : Nat) t v, Try.f7.params[j]? = some t → args[j]? = some v → Value.okWide Try.prog W .any base t v := hval0
  have hW' : DataW.Whole enc Try.prog Try.f7.params.toList Rows.topBpfSpec.vars false W args.toList ds gs before := hW
  obtain ⟨p, q, hA0, hV, rfl, hfz, hnd⟩ := hW
  have hA : DataW.TrodAll enc Try.prog W 0 (fun _ => true) true Try.f7.params.toList args.toList ds p := hA0
  rw [Try.params7] at hA hval
  obtain ⟨v0, v1, d0, d1, p0, p1, rfl, rfl, rfl, h0, h1⟩ := trodAll_two hA
  obtain ⟨rfl, rfl⟩ := trodVars_none hV
  obtain ⟨l, hl, hlm, _⟩ := open_ins (hval 0 23 v0 rfl rfl) h0
  obtain ⟨c, rfl, hc⟩ := open_call (hval 1 40 v1 rfl rfl) h1
  refine (walk v0 l c W hl hc hlm).mono fun e W' ⟨he, hb⟩ => ?_
  subst he
  exact ⟨_, rfl, law_post laidOut (by kernel_rfl) Try.underlying4 (by kernel_rfl) rfl hW' rfl hb⟩

theorem holds : Rows.TopBpfSaid :=
  OpenClaim.holds_of_wide 7 Try.f7 rfl rfl rfl rfl rfl rfl rfl ⟨rfl, rfl, rfl, rfl, rfl⟩ rfl rfl rfl rfl rfl (by kernel_rfl) Try.func7 (by kernel_rfl)
    (of_decide_eq_true (by kernel_rfl)) (by unfold Func.isWrapper; first | (rw [if_pos (by decide +kernel)]; kernel_rfl) | (rw [if_neg (by decide +kernel)]; exact ⟨rfl, rfl⟩))
    (fun os started H enc _ => lifted os started H enc)

end Go.Proofs.Ytmgngapkgcofnaa.topBpf
