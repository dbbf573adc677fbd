/- For every program, every call and every place the law BpfSays returns true, and each reads as it did: Word, Check, Bytes, Run and Parse answer as the reference. No condition. -/
import Derived.Test.YtmgngapkgcofnaaBpfLaw2
import Derived.Test.YtmgngapkgcofnaaRefRun
import Derived.Test.YtmgngapkgcofnaaBytes
import Derived.Test.YtmgngapkgcofnaaTopBpf
import Derived.Test.YtmgngapkgcofnaaParse
import Derived.Test.YtmgngapkgcofnaaSameP
import Derived.Test.YtmgngapkgcofnaaReturns
import Derived.Test.YtmgngapkgcofnaaWords
namespace Go.Proofs.Ytmgngapkgcofnaa.bpfSays
open Go.ChangeShapes Go.WideShapes Go.ChangeAt Go.RowKit Go.PlainAid

theorem flat_length (l : List Ins) : (flat l).length = l.length * 4 := by
  induction l with
  | nil => rfl
  | cons x r ih => rw [show flat (x :: r) = [.int .i64 x.op, .int .i64 x.jt, .int .i64 x.jf, .int .u32 x.k] ++ flat r from by simp [flat], List.length_append, ih]; simp; omega
theorem reads_of {w : World} {B : Nat} {A : Option Addr} {c : Nat} {l : List Ins} (h : InsSl w B (.slice A l.length c) l) : Reads w B 4 A l.length (flat l) := by
  obtain ⟨_, A', c', hv, hr⟩ := h
  obtain ⟨rfl, rfl⟩ : A = A' ∧ c = c' := by injection hv with h1 _ h2; exact ⟨h1, h2⟩
  have hlen : (flat l).length = l.length * 4 := by
    exact flat_length l
  refine ⟨hlen, fun hn => ?_⟩
  obtain ⟨b, o, rfl, hB, hrow⟩ := hr.resolve_left (by rintro rfl; simp at hn)
  refine ⟨⟨b, o, none⟩, rfl, hB, fun j u hj => ?_⟩
  have hjl : j < l.length * 4 := by
    rcases Nat.lt_or_ge j (l.length * 4) with h2 | h2
    · exact h2
    · rw [List.getElem?_eq_none (by omega)] at hj; cases hj
  have hi : l[j / 4]? = some l[j / 4] := List.getElem?_eq_getElem (by omega)
  obtain ⟨a0, a1, a2, a3⟩ := hrow (j / 4) _ hi
  obtain ⟨f0, f1, f2, f3⟩ := flat_get l (j / 4) _ hi
  rw [Go.WideShapes.add_plain]
  have hm : j % 4 = 0 ∨ j % 4 = 1 ∨ j % 4 = 2 ∨ j % 4 = 3 := by omega
  rcases hm with hm | hm | hm | hm
  · rw [show j / 4 * 4 = j from by omega] at f0 a0; rw [f0] at hj; cases hj; exact a0
  · rw [show j / 4 * 4 + 1 = j from by omega] at f1; rw [Nat.add_assoc, show j / 4 * 4 + 1 = j from by omega] at a1; rw [f1] at hj; cases hj; exact a1
  · rw [show j / 4 * 4 + 2 = j from by omega] at f2; rw [Nat.add_assoc, show j / 4 * 4 + 2 = j from by omega] at a2; rw [f2] at hj; cases hj; exact a2
  · rw [show j / 4 * 4 + 3 = j from by omega] at f3; rw [Nat.add_assoc, show j / 4 * 4 + 3 = j from by omega] at a3; rw [f3] at hj; cases hj; exact a3
theorem flat_one (l : List Ins) : ∀ u ∈ flat l, u.oneCell' = true := by
  intro u hu
  simp only [flat, List.mem_flatMap] at hu
  obtain ⟨x, _, hx⟩ := hu
  simp at hx
  rcases hx with rfl | rfl | rfl | rfl <;> rfl
/-- The own copy, cut back to the length that came in. -/
theorem own_cut {w : World} {base g cap : Nat} {l : List Ins} {x : Ins} (hown : w.ownsRow base 42 4 (.slice (some ⟨g, 0, none⟩) (l.length + 1) cap) (l.length + 1) (flat l ++ flat [x])) (hok : ∀ x ∈ l, x.ok) :
    InsSl w w.heap.size (.slice (some ⟨g, 0, none⟩) l.length cap) l := by
  refine ⟨hok, _, cap, rfl, Or.inr ⟨g, 0, rfl, ?_, ?_⟩⟩
  · obtain ⟨g', cap', hv, _, hlt⟩ := hown.form (by omega)
    injection hv with h1 _ _
    injection h1 with h1
    injection h1 with h1
    rw [h1]; exact hlt
  · intro i y hy
    have hc : ∀ j u, (flat l)[j]? = some u → w.cell? ⟨g, 0 + j, none⟩ = some u := by
      intro j u hu
      have hj : j < (flat l).length := by
        rcases Nat.lt_or_ge j (flat l).length with h | h
        · exact h
        · rw [List.getElem?_eq_none h] at hu; cases hu
      have := World.ownsRow.cells hown (g := g) rfl j u (by rw [List.getElem?_append_left hj]; exact hu)
      rwa [Go.WideShapes.add_plain] at this
    obtain ⟨a, b, c, d⟩ := flat_get l i y hy
    have h0 := hc _ _ a
    have h1 := hc _ _ b
    have h2 := hc _ _ c
    have h3 := hc _ _ d
    simp only [Nat.zero_add] at h0 h1 h2 h3 ⊢
    exact ⟨h0, h1, h2, h3⟩

/-- What stands at every point of the walk: the call's box, both programs. -/
structure St (w0 wk : World) (c : CallD) (v u : Value) (l : List Ins) : Prop where
  below : Below w0.heap.size w0 wk
  k0 : wk.cell? ⟨w0.heap.size, 0, none⟩ = some (.int .u32 c.arch)
  k1 : wk.cell? ⟨w0.heap.size, 1, none⟩ = some (.int .u32 c.nr)
  k2 : wk.cell? ⟨w0.heap.size, 2, none⟩ = some (.int .u64 c.a0)
  k3 : wk.cell? ⟨w0.heap.size, 3, none⟩ = some (.int .u64 c.a1)
  k4 : wk.cell? ⟨w0.heap.size, 4, none⟩ = some (.int .u64 c.a2)
  k5 : wk.cell? ⟨w0.heap.size, 5, none⟩ = some (.int .u64 c.a3)
  box : w0.heap.size < wk.heap.size
  came : InsSl wk wk.heap.size v l
  own : InsSl wk wk.heap.size u l
theorem St.step {w0 wk w' : World} {c : CallD} {v u : Value} {l : List Ins} (h : St w0 wk c v u l) (hb : Below wk.heap.size wk w') : St w0 w' c v u l := by
  have hc : ∀ {o : Nat} {x : Value}, wk.cell? ⟨w0.heap.size, o, none⟩ = some x → w'.cell? ⟨w0.heap.size, o, none⟩ = some x := fun {o x} hx => (hb.cell (p := ⟨_, _, none⟩) h.box).trans hx
  exact ⟨below_then h.below (Nat.le_refl _) hb, hc h.k0, hc h.k1, hc h.k2, hc h.k3, hc h.k4, hc h.k5, Nat.lt_of_lt_of_le h.box hb.size, (h.came.below hb).mono hb.size, (h.own.below hb).mono hb.size⟩

theorem St.start {w w1 w3 : World} {c : CallD} {v u : Value} {l : List Ins} (hs : InsSl w w.heap.size v l)
    (hb1 : Below (w.alloc (.cells #[.int .u32 c.arch, .int .u32 c.nr, .int .u64 c.a0, .int .u64 c.a1, .int .u64 c.a2, .int .u64 c.a3] 40)).heap.size (w.alloc (.cells #[.int .u32 c.arch, .int .u32 c.nr, .int .u64 c.a0, .int .u64 c.a1, .int .u64 c.a2, .int .u64 c.a3] 40)) w1)
    (hb3 : Below w1.heap.size w1 w3) (hu : InsSl w3 w3.heap.size u l) : St w w3 c v u l := by
  have hb := hb1.trans (hb3.mono hb1.size)
  have h0 : Below w.heap.size w w3 := below_box (Below.refl _ _) (Nat.le_refl _) hb
  have hz := hb.size
  simp only [World.size_alloc] at hz
  have hk : ∀ (o : Nat) (x : Value), #[Value.int .u32 c.arch, .int .u32 c.nr, .int .u64 c.a0, .int .u64 c.a1, .int .u64 c.a2, .int .u64 c.a3][o]? = some x → w3.cell? ⟨w.heap.size, o, none⟩ = some x := fun o x hx =>
    (hb.cell (p := ⟨_, _, none⟩) (by simp)).trans (by rw [World.cell?_alloc_new]; exact hx)
  exact ⟨h0, hk 0 _ rfl, hk 1 _ rfl, hk 2 _ rfl, hk 3 _ rfl, hk 4 _ rfl, hk 5 _ rfl, by omega, (hs.below h0).mono h0.size, hu⟩

theorem own_cap {w : World} {base : Nat} {e : TypeId} {size : Nat} {a : Option Addr} {n cap : Nat} {xs : List Value} (h : w.ownsRow base e size (.slice a n cap) n xs) (hn : 0 < n) : n ≤ cap := by
  rcases h.2 with ⟨_, h0⟩ | ⟨g, cap', cur, hv, _, _, h1, _⟩
  · omega
  · injection hv with _ _ h3; omega
theorem same_zero (w : World) : Calls Try.prog 14 #[.nilIface, .int .i64 0] w fun e w' => e = .returned (.bool true) ∧ w = w' := same_any 0 0 w (by omega)
theorem same_refl (n : Int) (hn : 0 ≤ n) (w : World) : Calls Try.prog 14 #[errV n, .int .i64 n] w fun e w' => e = .returned (.bool true) ∧ w = w' :=
  (same_any n n w hn).mono fun e w' ⟨h1, h2⟩ => ⟨by rw [h1, decide_eq_true rfl], h2⟩
theorem returns_box (w : World) (o : Obj) : Calls Try.prog 11 #[] (w.alloc o) fun e w' => e = .returned (.bool true) ∧ Below (w.alloc o).heap.size (w.alloc o) w' := returns_any _

set_option maxRecDepth 100000 in
set_option maxHeartbeats 8000000 in
theorem walk_bad (A : Option Addr) (cp : Nat) (l : List Ins) (c : CallD) (p : Int) (w : World) (hs : InsSl w w.heap.size (.slice A l.length cp) l) (hc : c.ok) (hp : u32ok p) (hcap : l.length ≤ 5000) (hf : ¬ checkF l = 0)
    (t3 : decide (5000 < (l.length : Int)) = false) (t : decide (300 < (l.length : Int)) = false ∨ (decide (300 < (l.length : Int)) = true ∧ decide ((l.length : Int) ≤ 4096) = false)) :
    Calls Try.prog 5 #[.slice A l.length cp, c.v, .int .u32 p] w fun e w' => e = .returned (.bool true) ∧ Below w.heap.size w w' := by
  obtain ⟨i0, hi, hz0, hz1, hz2⟩ := info_parts insInfo
  obtain ⟨p0, p1⟩ := hp
  have HS0 := Lib.hid hs
  have HOk : Hid (∀ x ∈ l, x.ok) := hs.1
  have HSt := Lib.hid (fun w1 w3 u hb1 hb3 hu => St.start (w := w) (w1 := w1) (w3 := w3) (c := c) (v := .slice A l.length cp) (u := u) hs hb1 hb3 hu)
  have hwe : 0 ≤ wordE p := by unfold wordE; split <;> omega
  have HWd := Lib.hid (fun w => word_any c p w hc p0 p1)
  have HWr := Lib.hid (fun w => refWord_any c p w hc p0 p1)
  have hcz : 0 < checkF l := by have := checkF_range l; omega
  have hcz0 : 0 ≤ checkF l := by omega
  have HFt := Lib.hid (fun v w (h : InsSl w w.heap.size v l) => fault_any v l w h (by omega))
  have HCk := Lib.hid (fun v w (h : InsSl w w.heap.size v l) => check_any v l w h (by omega))
  have HBy : Hid (∀ v w, InsSl w w.heap.size v l → Calls Try.prog 24 #[v] w fun e w' => e = .returned (.tuple #[.string ⟨#[]⟩, errV (checkF l)]) ∧ Below w.heap.size w w') := fun v w h => by
    rw [errV_pos hf]; exact bytes_bad v l w h hf (by omega)
  have HRn : Hid (∀ v w, InsSl w w.heap.size v l → Calls Try.prog 25 #[v, c.v] w fun e w' => e = .returned (.tuple #[.int .u32 0, .int .i64 0, errV (checkF l)]) ∧ Below w.heap.size w w') := fun v w h => by
    rw [errV_pos hf]; exact topBpf.run_bad v l c w h (by omega) hf
  have HSp := Lib.hid (fun v u w (h1 : InsSl w w.heap.size v l) (h2 : InsSl w w.heap.size u l) => sameP_any v u l l w h1 h2 (by omega) (by omega))
  have HSb : Hid (sameB l l = true) := by show _ = _; unfold sameB; exact decide_eq_true rfl
  have HRd := Lib.hid (reads_of hs)
  have HF1 := Lib.hid (flat_one l)
  have HOc := Lib.hid (fun (w3 : World) base g cap (h : w3.ownsRow base 42 4 (.slice (some ⟨g, 0, none⟩) (l.length + 1) cap) (l.length + 1) (flat l ++ flat [⟨77, 0, 0, 0⟩])) => own_cut h hs.1)
  clear hs hf
  obtain ⟨arch, nr, a0, a1, a2, a3⟩ := c
  clear hc
  unfold CallD.v at *
  simp only at HWd HWr HRn HSt ⊢
  generalize (⟨arch, nr, a0, a1, a2, a3⟩ : CallD).word p = x at *
  generalize wordE p = xe at *
  generalize checkF l = z at *
  rcases t with t1 | ⟨t1, t2⟩
  all_goals
    go_enter Try.func5, Try.ntmps5
    go_wp2_with (first
      | (go_at_call 11; refine (returns_box _ _).mono ?_; rintro e w1 ⟨rfl, hb1⟩; have HB1 := Lib.hid hb1; have HRd1 := Lib.hid ((HRd.out.below (below_box (Below.refl _ _) (Nat.le_refl _) hb1)).more (B' := w1.heap.size) (below_box (Below.refl _ _) (Nat.le_refl _) hb1).size); clear hb1)
      | (at_builtin; refine wpList_append_any _ rfl (.const (.slice none 0 0)) (.tmp 42) _ rfl w1.heap.size 42 i0 _ 4 32 Try.underlying23 hi hz0 hz1 hz2 rfl (by omega) (.slice none 0 0) 0 [] rfl ⟨by simp, .inl ⟨rfl, rfl⟩⟩ w1.heap.size A l.length cp (flat l) rfl HRd1.out HF1.out (by unfold maxLen; omega) (by omega) (Nat.le_refl _) ?_; intro v1 w2 hown1 hg1 _; simp only [Nat.zero_add, List.nil_append] at hown1; have hbw2 : Below w1.heap.size w1 w2 := (Below.refl _ _).grown hg1 (Nat.le_refl _) (by simp [Value.ownBlock]); clear hg1; have hsz2 := hbw2.size)
      | (at_builtin; refine wpList_append_own _ rfl (.tmp 43) (.tmp 45) _ rfl w1.heap.size 42 i0 _ 4 32 Try.underlying23 hi hz0 hz1 hz2 rfl (by omega) v1 l.length (flat l) rfl (hown1.alloc _) ⟨w2.heap.size, 0, none⟩ 1 1 _ rfl rfl (cells4 _ _ _ _ _ _ _ _ (heap_alloc_new _ _) rfl) (by simp [Value.oneCell']) (by unfold maxLen; omega) (by omega) (by simp; omega) ?_; intro v2 w3 hown2 hg2 _; have hbw3 : Below w1.heap.size w1 w3 := (hbw2.alloc hsz2 _).grown hg2 (by simp; omega) (own_ge hown1); clear hg2 hown1 hbw2; obtain ⟨g, cap2, hv2, _, _⟩ := hown2.form (by omega); rw [hv2] at hown2; rw [hv2]; have hcap3 : l.length ≤ cap2 := Nat.le_of_succ_le (own_cap hown2 (Nat.succ_pos _)); have HT := Lib.hid (HSt.out _ _ _ HB1.out hbw3 (HOc.out _ _ _ _ hown2)); clear hown2 hbw3 hv2; have k0 := HT.out.k0; have k1 := HT.out.k1; have k2 := HT.out.k2; have k3 := HT.out.k3; have k4 := HT.out.k4; have k5 := HT.out.k5; have kb := HT.out.box)
      | (go_at_call 21; refine (HWd.out _).mono ?_; rintro e w4 ⟨rfl, hb4⟩; have HT := Lib.hid (HT.out.step hb4); clear hb4 k0 k1 k2 k3 k4 k5 kb; have k0 := HT.out.k0; have k1 := HT.out.k1; have k2 := HT.out.k2; have k3 := HT.out.k3; have k4 := HT.out.k4; have k5 := HT.out.k5; have kb := HT.out.box)
      | (go_at_call 22; refine (HWr.out _).mono ?_; rintro e w5 ⟨rfl, hb5⟩; have HT := Lib.hid (HT.out.step hb5); clear hb5 k0 k1 k2 k3 k4 k5 kb; have k0 := HT.out.k0; have k1 := HT.out.k1; have k2 := HT.out.k2; have k3 := HT.out.k3; have k4 := HT.out.k4; have k5 := HT.out.k5; have kb := HT.out.box)
      | (go_at_call 23; refine (HFt.out _ _ HT.out.came).mono ?_; rintro e w6 ⟨rfl, hb6⟩; have HT := Lib.hid (HT.out.step hb6); clear hb6 k0 k1 k2 k3 k4 k5 kb; have k0 := HT.out.k0; have k1 := HT.out.k1; have k2 := HT.out.k2; have k3 := HT.out.k3; have k4 := HT.out.k4; have k5 := HT.out.k5; have kb := HT.out.box)
      | (go_at_call 24; refine (HBy.out _ _ HT.out.own).mono ?_; rintro e w7 ⟨rfl, hb7⟩; have HT := Lib.hid (HT.out.step hb7); clear hb7 k0 k1 k2 k3 k4 k5 kb; have k0 := HT.out.k0; have k1 := HT.out.k1; have k2 := HT.out.k2; have k3 := HT.out.k3; have k4 := HT.out.k4; have k5 := HT.out.k5; have kb := HT.out.box)
      | (go_at_call 25; refine (HRn.out _ _ HT.out.own).mono ?_; rintro e w8 ⟨rfl, hb8⟩; have HT := Lib.hid (HT.out.step hb8); clear hb8 k0 k1 k2 k3 k4 k5 kb; have k0 := HT.out.k0; have k1 := HT.out.k1; have k2 := HT.out.k2; have k3 := HT.out.k3; have k4 := HT.out.k4; have k5 := HT.out.k5; have kb := HT.out.box)
      | (go_at_call 14; refine (same_refl _ (by assumption) _).mono ?_; rintro e w9 ⟨rfl, rfl⟩)
      | (go_at_call 26; refine (HCk.out _ _ HT.out.own).mono ?_; rintro e wa ⟨rfl, hba⟩; have HT := Lib.hid (HT.out.step hba); clear hba k0 k1 k2 k3 k4 k5 kb; have k0 := HT.out.k0; have k1 := HT.out.k1; have k2 := HT.out.k2; have k3 := HT.out.k3; have k4 := HT.out.k4; have k5 := HT.out.k5; have kb := HT.out.box)
      | (go_at_call 15; refine (HSp.out _ _ _ HT.out.own HT.out.came).mono ?_; rintro e wb ⟨rfl, hbb⟩; have HT := Lib.hid (HT.out.step hbb); clear hbb k0 k1 k2 k3 k4 k5 kb; have k0 := HT.out.k0; have k1 := HT.out.k1; have k2 := HT.out.k2; have k3 := HT.out.k3; have k4 := HT.out.k4; have k5 := HT.out.k5; have kb := HT.out.box; rw [HSb.out]))
    go_ret
    exact ⟨rfl, HT.out.below⟩

set_option maxRecDepth 100000 in
set_option maxHeartbeats 8000000 in
theorem walk_good (A : Option Addr) (cp : Nat) (l : List Ins) (c : CallD) (p : Int) (w : World) (hs : InsSl w w.heap.size (.slice A l.length cp) l) (hc : c.ok) (hp : u32ok p) (hcap : l.length ≤ 300) (hf : checkF l = 0)
    (t3 : decide (5000 < (l.length : Int)) = false) (t1 : decide (300 < (l.length : Int)) = false) :
    Calls Try.prog 5 #[.slice A l.length cp, c.v, .int .u32 p] w fun e w' => e = .returned (.bool true) ∧ Below w.heap.size w w' := by
  obtain ⟨i0, hi, hz0, hz1, hz2⟩ := info_parts insInfo
  obtain ⟨p0, p1⟩ := hp
  have HS0 := Lib.hid hs
  have HOk : Hid (∀ x ∈ l, x.ok) := hs.1
  have HSt := Lib.hid (fun w1 w3 u hb1 hb3 hu => St.start (w := w) (w1 := w1) (w3 := w3) (c := c) (v := .slice A l.length cp) (u := u) hs hb1 hb3 hu)
  have hwe : 0 ≤ wordE p := by unfold wordE; split <;> omega
  have HWd := Lib.hid (fun w => word_any c p w hc p0 p1)
  have HWr := Lib.hid (fun w => refWord_any c p w hc p0 p1)
  obtain ⟨hl0, _, _, _⟩ := check_ok hf
  have HFt : Hid (∀ v w, InsSl w w.heap.size v l → Calls Try.prog 23 #[v] w fun e w' => e = .returned (.int .i64 0) ∧ Below w.heap.size w w') := fun v w h =>
    (fault_any v l w h (by omega)).mono fun _ _ ⟨h1, h2⟩ => ⟨by rw [h1, hf], h2⟩
  have HCk : Hid (∀ v w, InsSl w w.heap.size v l → Calls Try.prog 26 #[v] w fun e w' => e = .returned .nilIface ∧ Below w.heap.size w w') := fun v w h =>
    (check_any v l w h (by omega)).mono fun _ _ ⟨h1, h2⟩ => ⟨by rw [h1, hf]; rfl, h2⟩
  have HBy := Lib.hid (fun v w (h : InsSl w w.heap.size v l) => bytes_ok v l w h hf (by omega))
  have HPb := Lib.hid (fun v w (h : InsSl w w.heap.size v l) => pbytes_any v l w h (by omega))
  have HRn : Hid (∀ v w, InsSl w w.heap.size v l → Calls Try.prog 25 #[v, c.v] w fun e w' => e = .returned (.tuple #[.int .u32 (runF l c l.length 0 0 0).1, .int .i64 (runF l c l.length 0 0 0).2, .nilIface]) ∧ Below w.heap.size w w') := fun v w h => by
    obtain ⟨h1, A', c', rfl, hr⟩ := h
    obtain ⟨b, o, rfl, hB, hrow⟩ := hr.resolve_left (by rintro rfl; simp at hl0)
    exact run_ok b o c' l c w hrow hB h1 hc hf
  have HRr : Hid (∀ v w, InsSl w w.heap.size v l → Calls Try.prog 27 #[v, c.v] w fun e w' => e = .returned (.tuple #[.int .u32 (runF l c l.length 0 0 0).1, .int .i64 (runF l c l.length 0 0 0).2]) ∧ Below w.heap.size w w') := fun v w h => by
    obtain ⟨h1, A', c', rfl, hr⟩ := h
    obtain ⟨b, o, rfl, hB, hrow⟩ := hr.resolve_left (by rintro rfl; simp at hl0)
    exact refRun_ok b o c' l c w hrow hB h1 hc hf
  have HPa : Hid (∀ w, Calls Try.prog 12 #[.string (strOfNums (encL l))] w fun e w' => ∃ v, e = .returned (.tuple #[v, .nilIface]) ∧ InsSl w' w'.heap.size v l ∧ Below w.heap.size w w') := fun w =>
    (parse_loop (strOfNums (encL l)) w (by rw [back_size]; omega) (by rw [back_size]; omega)).mono fun e w' ⟨h1, h2⟩ => by
      unfold ParseR at h1
      rw [parse_back hs.1 hf] at h1
      obtain ⟨v, h3, h4⟩ := h1
      exact ⟨v, h3, h4, h2⟩
  have HSp := Lib.hid (fun v u w (h1 : InsSl w w.heap.size v l) (h2 : InsSl w w.heap.size u l) => sameP_any v u l l w h1 h2 (by omega) (by omega))
  have HSb : Hid (sameB l l = true) := by show _ = _; unfold sameB; exact decide_eq_true rfl
  have HRd := Lib.hid (reads_of hs)
  have HF1 := Lib.hid (flat_one l)
  have HOc := Lib.hid (fun (w3 : World) base g cap (h : w3.ownsRow base 42 4 (.slice (some ⟨g, 0, none⟩) (l.length + 1) cap) (l.length + 1) (flat l ++ flat [⟨77, 0, 0, 0⟩])) => own_cut h hs.1)
  clear hs hf
  obtain ⟨arch, nr, a0, a1, a2, a3⟩ := c
  clear hc
  unfold CallD.v at *
  simp only at HWd HWr HRn HRr HSt ⊢
  generalize (⟨arch, nr, a0, a1, a2, a3⟩ : CallD).word p = x at *
  generalize wordE p = xe at *
  generalize strOfNums (encL l) = S at *
  generalize (runF l ⟨arch, nr, a0, a1, a2, a3⟩ l.length 0 0 0).1 = K at *
  generalize (runF l ⟨arch, nr, a0, a1, a2, a3⟩ l.length 0 0 0).2 = N at *
  all_goals
    go_enter Try.func5, Try.ntmps5
    go_wp2_with (first
      | (go_at_call 11; refine (returns_box _ _).mono ?_; rintro e w1 ⟨rfl, hb1⟩; have HB1 := Lib.hid hb1; have HRd1 := Lib.hid ((HRd.out.below (below_box (Below.refl _ _) (Nat.le_refl _) hb1)).more (B' := w1.heap.size) (below_box (Below.refl _ _) (Nat.le_refl _) hb1).size); clear hb1)
      | (at_builtin; refine wpList_append_any _ rfl (.const (.slice none 0 0)) (.tmp 42) _ rfl w1.heap.size 42 i0 _ 4 32 Try.underlying23 hi hz0 hz1 hz2 rfl (by omega) (.slice none 0 0) 0 [] rfl ⟨by simp, .inl ⟨rfl, rfl⟩⟩ w1.heap.size A l.length cp (flat l) rfl HRd1.out HF1.out (by unfold maxLen; omega) (by omega) (Nat.le_refl _) ?_; intro v1 w2 hown1 hg1 _; simp only [Nat.zero_add, List.nil_append] at hown1; have hbw2 : Below w1.heap.size w1 w2 := (Below.refl _ _).grown hg1 (Nat.le_refl _) (by simp [Value.ownBlock]); clear hg1; have hsz2 := hbw2.size)
      | (at_builtin; refine wpList_append_own _ rfl (.tmp 43) (.tmp 45) _ rfl w1.heap.size 42 i0 _ 4 32 Try.underlying23 hi hz0 hz1 hz2 rfl (by omega) v1 l.length (flat l) rfl (hown1.alloc _) ⟨w2.heap.size, 0, none⟩ 1 1 _ rfl rfl (cells4 _ _ _ _ _ _ _ _ (heap_alloc_new _ _) rfl) (by simp [Value.oneCell']) (by unfold maxLen; omega) (by omega) (by simp; omega) ?_; intro v2 w3 hown2 hg2 _; have hbw3 : Below w1.heap.size w1 w3 := (hbw2.alloc hsz2 _).grown hg2 (by simp; omega) (own_ge hown1); clear hg2 hown1 hbw2; obtain ⟨g, cap2, hv2, _, _⟩ := hown2.form (by omega); rw [hv2] at hown2; rw [hv2]; have hcap3 : l.length ≤ cap2 := Nat.le_of_succ_le (own_cap hown2 (Nat.succ_pos _)); have HT := Lib.hid (HSt.out _ _ _ HB1.out hbw3 (HOc.out _ _ _ _ hown2)); clear hown2 hbw3 hv2; have k0 := HT.out.k0; have k1 := HT.out.k1; have k2 := HT.out.k2; have k3 := HT.out.k3; have k4 := HT.out.k4; have k5 := HT.out.k5; have kb := HT.out.box)
      | (go_at_call 21; refine (HWd.out _).mono ?_; rintro e w4 ⟨rfl, hb4⟩; have HT := Lib.hid (HT.out.step hb4); clear hb4 k0 k1 k2 k3 k4 k5 kb; have k0 := HT.out.k0; have k1 := HT.out.k1; have k2 := HT.out.k2; have k3 := HT.out.k3; have k4 := HT.out.k4; have k5 := HT.out.k5; have kb := HT.out.box)
      | (go_at_call 22; refine (HWr.out _).mono ?_; rintro e w5 ⟨rfl, hb5⟩; have HT := Lib.hid (HT.out.step hb5); clear hb5 k0 k1 k2 k3 k4 k5 kb; have k0 := HT.out.k0; have k1 := HT.out.k1; have k2 := HT.out.k2; have k3 := HT.out.k3; have k4 := HT.out.k4; have k5 := HT.out.k5; have kb := HT.out.box)
      | (go_at_call 23; refine (HFt.out _ _ HT.out.came).mono ?_; rintro e w6 ⟨rfl, hb6⟩; have HT := Lib.hid (HT.out.step hb6); clear hb6 k0 k1 k2 k3 k4 k5 kb; have k0 := HT.out.k0; have k1 := HT.out.k1; have k2 := HT.out.k2; have k3 := HT.out.k3; have k4 := HT.out.k4; have k5 := HT.out.k5; have kb := HT.out.box)
      | (go_at_call 24; refine (HBy.out _ _ HT.out.own).mono ?_; rintro e w7 ⟨rfl, hb7⟩; have HT := Lib.hid (HT.out.step hb7); clear hb7 k0 k1 k2 k3 k4 k5 kb; have k0 := HT.out.k0; have k1 := HT.out.k1; have k2 := HT.out.k2; have k3 := HT.out.k3; have k4 := HT.out.k4; have k5 := HT.out.k5; have kb := HT.out.box)
      | (go_at_call 25; refine (HRn.out _ _ HT.out.own).mono ?_; rintro e w8 ⟨rfl, hb8⟩; have HT := Lib.hid (HT.out.step hb8); clear hb8 k0 k1 k2 k3 k4 k5 kb; have k0 := HT.out.k0; have k1 := HT.out.k1; have k2 := HT.out.k2; have k3 := HT.out.k3; have k4 := HT.out.k4; have k5 := HT.out.k5; have kb := HT.out.box)
      | (go_at_call_of 14 (Value.nilIface); refine (same_zero _).mono ?_; rintro e w9 ⟨rfl, rfl⟩)
      | (go_at_call 14; refine (same_refl _ (by assumption) _).mono ?_; rintro e w9 ⟨rfl, rfl⟩)
      | (go_at_call 27; refine (HRr.out _ _ HT.out.came).mono ?_; rintro e we ⟨rfl, hbe⟩; have HT := Lib.hid (HT.out.step hbe); clear hbe k0 k1 k2 k3 k4 k5 kb; have k0 := HT.out.k0; have k1 := HT.out.k1; have k2 := HT.out.k2; have k3 := HT.out.k3; have k4 := HT.out.k4; have k5 := HT.out.k5; have kb := HT.out.box)
      | (go_at_call 12; refine (HPa.out _).mono ?_; rintro e wc ⟨vz, rfl, hiz, hbc⟩; have HZ := Lib.hid hiz; have HT := Lib.hid (HT.out.step hbc); clear hbc hiz k0 k1 k2 k3 k4 k5 kb; have k0 := HT.out.k0; have k1 := HT.out.k1; have k2 := HT.out.k2; have k3 := HT.out.k3; have k4 := HT.out.k4; have k5 := HT.out.k5; have kb := HT.out.box)
      | (go_at_call 28; refine (HPb.out _ _ HT.out.came).mono ?_; rintro e wd ⟨rfl, hbd⟩; have HZ := Lib.hid ((HZ.out.below hbd).mono hbd.size); have HT := Lib.hid (HT.out.step hbd); clear hbd k0 k1 k2 k3 k4 k5 kb; have k0 := HT.out.k0; have k1 := HT.out.k1; have k2 := HT.out.k2; have k3 := HT.out.k3; have k4 := HT.out.k4; have k5 := HT.out.k5; have kb := HT.out.box)
      | (go_at_call_of 15 vz; refine (HSp.out _ _ _ HZ.out HT.out.came).mono ?_; rintro e wf ⟨rfl, hbf⟩; have HT := Lib.hid (HT.out.step hbf); clear hbf k0 k1 k2 k3 k4 k5 kb; have k0 := HT.out.k0; have k1 := HT.out.k1; have k2 := HT.out.k2; have k3 := HT.out.k3; have k4 := HT.out.k4; have k5 := HT.out.k5; have kb := HT.out.box; rw [HSb.out])
      | (go_at_call 26; refine (HCk.out _ _ HT.out.own).mono ?_; rintro e wa ⟨rfl, hba⟩; have HT := Lib.hid (HT.out.step hba); clear hba k0 k1 k2 k3 k4 k5 kb; have k0 := HT.out.k0; have k1 := HT.out.k1; have k2 := HT.out.k2; have k3 := HT.out.k3; have k4 := HT.out.k4; have k5 := HT.out.k5; have kb := HT.out.box)
      | (go_at_call 15; refine (HSp.out _ _ _ HT.out.own HT.out.came).mono ?_; rintro e wb ⟨rfl, hbb⟩; have HT := Lib.hid (HT.out.step hbb); clear hbb k0 k1 k2 k3 k4 k5 kb; have k0 := HT.out.k0; have k1 := HT.out.k1; have k2 := HT.out.k2; have k3 := HT.out.k3; have k4 := HT.out.k4; have k5 := HT.out.k5; have kb := HT.out.box; rw [HSb.out]))
    go_ret
    exact ⟨rfl, HT.out.below⟩

theorem own : ownKnob Try.prog.godebug = none := by kernel_rfl
theorem laidOut : laidOutB Try.prog = true := by kernel_rfl

set_option maxRecDepth 100000 in
theorem walk (v : Value) (l : List Ins) (c : CallD) (p : Int) (w : World) (hs : InsSl w w.heap.size v l) (hc : c.ok) (hp : u32ok p) (hm : l.length ≤ maxLen) :
    Calls Try.prog 5 #[v, c.v, .int .u32 p] w fun e w' => e = .returned (.bool true) ∧ Below w.heap.size w w' := by
  unfold maxLen at hm
  obtain ⟨_, A, cp, rfl, _⟩ := id hs
  by_cases h3 : (300 < l.length ∧ l.length ≤ 4096) ∨ 5000 < l.length
  · have t1 : decide (300 < (l.length : Int)) = true := by simp; omega
    obtain ⟨arch, nr, a0, a1, a2, a3⟩ := c
    unfold CallD.v
    simp only
    by_cases h4 : l.length ≤ 4096
    · have t2 : decide ((l.length : Int) ≤ 4096) = true := by simp; omega
      clear h3 h4 hs hc
      go_enter Try.func5, Try.ntmps5
      go_wp2_with (go_at_call 11; refine (returns_any _).mono ?_; rintro e w1 ⟨rfl, hb1⟩; have hb2 := below_box (Below.refl _ _) (Nat.le_refl _) hb1; clear hb1)
      go_ret
      exact ⟨rfl, hb2⟩
    · have t2 : decide ((l.length : Int) ≤ 4096) = false := by simp; omega
      have t3 : decide (5000 < (l.length : Int)) = true := by simp; omega
      clear h3 h4 hs hc
      go_enter Try.func5, Try.ntmps5
      go_wp2_with (go_at_call 11; refine (returns_any _).mono ?_; rintro e w1 ⟨rfl, hb1⟩; have hb2 := below_box (Below.refl _ _) (Nat.le_refl _) hb1; clear hb1)
      go_ret
      exact ⟨rfl, hb2⟩
  · have t3 : decide (5000 < (l.length : Int)) = false := by simp; omega
    by_cases hf : checkF l = 0
    · obtain ⟨_, h1, _, _⟩ := check_ok hf
      exact walk_good A cp l c p w hs hc hp (by omega) hf t3 (by simp; omega)
    · refine walk_bad A cp l c p w hs hc hp (by omega) hf t3 ?_
      by_cases h4 : l.length ≤ 300
      · left; simp; omega
      · right; constructor <;> (simp; omega)

set_option maxRecDepth 100000 in
theorem lifted (os : Os) (started : os.Started) (H : Type) (enc : TypeId × Value → H) :
    ReturnsInHanded {} Try.checked os 5 .any (Rows.bpfSaysSpec.pre6 enc Try.prog Try.f5 Rows.bpfSaysRow.domain false) (Rows.bpfSaysSpec.post enc Try.prog Try.f5 false true false false) := by
  refine returnsInHanded_of_change (C := Try.checked) own started (by kernel_rfl) Try.func5
    (ChangeSpec.witness6 (enc := enc) (C := Try.checked) false ⟨#[], #[.slice none 0 0, .agg #[.int .u32 0, .int .u32 0, .int .u64 0, .int .u64 0, .int .u64 0, .int .u64 0], .int .u32 0], []⟩ 8 (by kernel_rfl) (by kernel_rfl) (by kernel_rfl) (by kernel_rfl)) ?_
  intro W base args ds gs before hval0 hW _ _
  have hval : ∀ (j : Nat) t v, Try.f5.params[j]? = some t → args[j]? = some v → Value.okWide Try.prog W .any base t v := hval0
  have hW' : DataW.Whole enc Try.prog Try.f5.params.toList Rows.bpfSaysSpec.vars false W args.toList ds gs before := hW
  obtain ⟨p, q, hA0, hV, rfl, hfz, hnd⟩ := hW
  have hA : DataW.TrodAll enc Try.prog W 0 (fun _ => true) true Try.f5.params.toList args.toList ds p := hA0
  rw [Try.params5] at hA hval
  obtain ⟨v0, v1, v2, d0, d1, d2, p0, p1, p2, rfl, rfl, rfl, h0, h1, h2⟩ := trodAll_three hA
  obtain ⟨rfl, rfl⟩ := trodVars_none hV
  obtain ⟨l, hl, hlm, _⟩ := open_ins (hval 0 23 v0 rfl rfl) h0
  obtain ⟨c, rfl, hc⟩ := open_call (hval 1 40 v1 rfl rfl) h1
  obtain ⟨x, rfl, rfl, rfl, hx⟩ := open_int Try.underlying36 (hval 2 36 v2 rfl rfl) h2
  have hxx := bounds_u32 hx
  refine (walk v0 l c x W hl hc ⟨by omega, by omega⟩ hlm).mono fun e W' ⟨he, hb⟩ => ?_
  subst he
  exact ⟨_, rfl, law_post laidOut (by kernel_rfl) Try.underlying4 (by kernel_rfl) rfl hW' rfl hb⟩

theorem holds : Rows.BpfSaysSaid :=
  OpenClaim.holds_of_wide 5 Try.f5 rfl rfl rfl rfl rfl rfl rfl ⟨rfl, rfl, rfl, rfl, rfl⟩ rfl rfl rfl rfl rfl (by kernel_rfl) Try.func5 (by kernel_rfl)
    (of_decide_eq_true (by kernel_rfl)) (by unfold Func.isWrapper; first | (rw [if_pos (by decide +kernel)]; kernel_rfl) | (rw [if_neg (by decide +kernel)]; exact ⟨rfl, rfl⟩))
    (fun os started H enc _ => lifted os started H enc)

end Go.Proofs.Ytmgngapkgcofnaa.bpfSays
