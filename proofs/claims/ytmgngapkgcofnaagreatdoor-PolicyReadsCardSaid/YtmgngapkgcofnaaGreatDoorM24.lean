/- The reference's action of a line's words: the walk. -/
import Derived.Test.YtmgngapkgcofnaaGreatDoorM20
import Derived.Test.YtmgngapkgcofnaaGreatDoorM23
namespace Go.Proofs.YtmgngapkgcofnaaGreatDoor
open Go.RowKit

/-- A slice of strings. -/
def StrsSl (w : World) (B : Nat) (v : Value) (ws : List ByteArray) : Prop := ∃ A c, v = .slice A ws.length c ∧ ws.length ≤ c ∧ (ws = [] ∨ ∃ g o, A = some ⟨g, o, none⟩ ∧ g < B ∧ StrsRow w g o ws)
theorem StrsSl.below {w w' : World} {B H : Nat} {v : Value} {ws : List ByteArray} (h : StrsSl w B v ws) (hb : Below H w w') (hH : B ≤ H) : StrsSl w' B v ws := by
  obtain ⟨A, c, h1, h2, h3⟩ := h
  refine ⟨A, c, h1, h2, h3.imp id ?_⟩
  rintro ⟨g, o, ha, hg, hr⟩
  exact ⟨g, o, ha, hg, fun i x hx => (hb.cell (p := ⟨g, o + i, none⟩) (Nat.lt_of_lt_of_le hg hH)).trans (hr i x hx)⟩
theorem StrsSl.mono {w : World} {B B' : Nat} {v : Value} {ws : List ByteArray} (h : StrsSl w B v ws) (hB : B ≤ B') : StrsSl w B' v ws := by
  obtain ⟨A, c, h1, h2, h3⟩ := h
  refine ⟨A, c, h1, h2, h3.imp id ?_⟩
  rintro ⟨g, o, ha, hg, hr⟩
  exact ⟨g, o, ha, by omega, hr⟩
theorem strsSl_own {w : World} {base : Nat} {v : Value} {ws : List ByteArray} (h : w.ownsRow base 9 1 v ws.length (ws.map Value.string)) : StrsSl w w.heap.size v ws := by
  rcases h.2 with ⟨h0, h1⟩ | ⟨g, cap, cur, hv, _, hg, hc, _, hsz, ht⟩
  · have h2 : ws = [] := List.eq_nil_of_length_eq_zero h1
    subst h2
    exact ⟨none, 0, h0, Nat.le_refl _, .inl rfl⟩
  · refine ⟨_, cap, hv, hc, .inr ⟨g, 0, rfl, lt_of_block hg, fun i x hx => ?_⟩⟩
    rw [cell_of_row _ _ _ _ _ _ hg, Nat.zero_add]
    have h1 : (ws.map Value.string)[i]? = some (.string x) := by rw [List.getElem?_map, hx]; rfl
    rw [← ht, List.getElem?_take] at h1
    split at h1
    · simpa using h1
    · cases h1
def ActOf (ws : List (List UInt8)) (k e : Int) (n : Nat) : Prop := (n = 0 ∧ k = 0 ∧ e = 0 ∧ ∀ k0 e0 r, ActRd k0 e0 → ws ≠ actW k0 e0 ++ r) ∨ (ActRd k e ∧ n = (actW k e).length ∧ ∃ r, ws = actW k e ++ r)
def ActOfE (ws : List (List UInt8)) (e : Ending) : Prop := ∃ (k x : Int) (n : Nat), e = .returned (.tuple #[.agg #[.int .i64 k, .int .i64 x], .int .i64 n]) ∧ ActOf ws k x n
theorem actOf_nil : ActOf [] 0 0 0 := .inl ⟨rfl, rfl, rfl, fun k0 e0 r h => by rcases h with ⟨rfl, rfl⟩ | ⟨rfl, rfl⟩ | ⟨rfl, _, _⟩ <;> simp [actW]⟩
theorem actOf_allow (t : List (List UInt8)) : ActOf ([97, 108, 108, 111, 119] :: t) 1 0 1 := .inr ⟨.inl ⟨rfl, rfl⟩, rfl, t, rfl⟩
theorem actOf_kill (t : List (List UInt8)) : ActOf ([107, 105, 108, 108] :: t) 3 0 1 := .inr ⟨.inr (.inl ⟨rfl, rfl⟩), rfl, t, rfl⟩
theorem actOf_other {x : List UInt8} {t : List (List UInt8)} (h1 : x ≠ [97, 108, 108, 111, 119]) (h2 : x ≠ [107, 105, 108, 108]) (h3 : x ≠ [100, 101, 110, 121]) : ActOf (x :: t) 0 0 0 := .inl ⟨rfl, rfl, rfl, fun k0 e0 r h e => by
  rcases h with ⟨rfl, rfl⟩ | ⟨rfl, rfl⟩ | ⟨rfl, _, _⟩ <;> simp [actW, wAllow, wKill, wDeny] at e
  · exact h1 e.1
  · exact h2 e.1
  · exact h3 e.1⟩
theorem actOf_deny1 : ActOf [[100, 101, 110, 121]] 0 0 0 := .inl ⟨rfl, rfl, rfl, fun k0 e0 r h e => by
  rcases h with ⟨rfl, rfl⟩ | ⟨rfl, rfl⟩ | ⟨rfl, _, _⟩ <;> simp [actW, wAllow, wKill, wDeny] at e⟩
theorem actOf_deny {y : List UInt8} {t : List (List UInt8)} {n : Nat} (h : y = Lib.decDigits n) (hn : n < 1000) : ActOf ([100, 101, 110, 121] :: y :: t) 2 n 2 := .inr ⟨.inr (.inr ⟨rfl, by omega, by omega⟩), rfl, t, by rw [h]; rfl⟩
theorem actOf_denyno {y : List UInt8} {t : List (List UInt8)} (h : ∀ n, n < 1000 → y ≠ Lib.decDigits n) : ActOf ([100, 101, 110, 121] :: y :: t) 0 0 0 := .inl ⟨rfl, rfl, rfl, fun k0 e0 r hr e => by
  rcases hr with ⟨rfl, rfl⟩ | ⟨rfl, rfl⟩ | ⟨rfl, _, _⟩ <;> simp [actW, wAllow, wKill, wDeny] at e
  exact h e0.toNat (by omega) e.1⟩

set_option linter.unusedSimpArgs false in
set_option maxRecDepth 100000 in
set_option maxHeartbeats 4000000 in
theorem actionOf_any (v : Value) (ws : List ByteArray) (w : World) (h : StrsSl w w.heap.size v ws) (hl : ws.length ≤ 1000000) :
    Calls Tryz.prog 26 #[v] w fun e w' => ActOfE (ws.map bL) e ∧ Below w.heap.size w w' := by
  obtain ⟨A, c, rfl, hc, hr⟩ := h
  have HB1 : Hid (∀ o, Below w.heap.size w (w.alloc o)) := fun o => (Below.refl _ _).alloc (Nat.le_refl _) o
  rcases ws with _ | ⟨x, t⟩
  · have HF : Hid (ActOfE [] (.returned (.tuple #[.agg #[.int .i64 0, .int .i64 0], .int .i64 0]))) := ⟨0, 0, 0, rfl, actOf_nil⟩
    have z1 : ¬ (0 : Int) < (0 : Int) := by omega
    have z2 : ¬ (1 : Int) < (0 : Int) := by omega
    go_enter Tryz.func26, Tryz.ntmps26
    go_wp2_with fail
    try simp only [Exit.inBlock, Exit.then]
    refine bodyPost_ret (by simp [results, Tryz.results26, go_sem]; try rfl) rfl ?_
    exact ⟨HF.out, HB1.out _⟩
  · obtain ⟨g, o, rfl, hg, hrow⟩ := hr.resolve_left (by simp)
    have c0 : w.cell? ⟨g, o, none⟩ = some (.string x) := hrow 0 x rfl
    have z1 : (0 : Int) < ((t.length : Int) + 1) := by omega
    have z0 : (0 : Int) < (((x :: t).length : Nat) : Int) := by simp only [List.length_cons]; omega
    by_cases ha : x = ⟨#[97, 108, 108, 111, 119]⟩
    · subst ha
      have HF : Hid (ActOfE ((⟨#[97, 108, 108, 111, 119]⟩ :: t).map bL) (.returned (.tuple #[.agg #[.int .i64 1, .int .i64 0], .int .i64 1]))) := ⟨1, 0, 1, rfl, actOf_allow _⟩
      go_enter Tryz.func26, Tryz.ntmps26
      go_wp2_with fail
      try simp only [Exit.inBlock, Exit.then]
      refine bodyPost_ret (by simp [results, Tryz.results26, go_sem]; try rfl) rfl ?_
      exact ⟨HF.out, HB1.out _⟩
    · have t1 : (x.toList == [97, 108, 108, 111, 119]) = false := tl_ne ha
      by_cases hk : x = ⟨#[107, 105, 108, 108]⟩
      · subst hk
        have HF : Hid (ActOfE ((⟨#[107, 105, 108, 108]⟩ :: t).map bL) (.returned (.tuple #[.agg #[.int .i64 3, .int .i64 0], .int .i64 1]))) := ⟨3, 0, 1, rfl, actOf_kill _⟩
        clear ha
        go_enter Tryz.func26, Tryz.ntmps26
        go_wp2_with fail
        try simp only [Exit.inBlock, Exit.then]
        refine bodyPost_ret (by simp [results, Tryz.results26, go_sem]; try rfl) rfl ?_
        exact ⟨HF.out, HB1.out _⟩
      · have t2 : (x.toList == [107, 105, 108, 108]) = false := tl_ne hk
        by_cases hd : x = ⟨#[100, 101, 110, 121]⟩
        · subst hd
          clear ha hk
          rcases t with _ | ⟨y, t⟩
          · have HF : Hid (ActOfE ([(⟨#[100, 101, 110, 121]⟩ : ByteArray)].map bL) (.returned (.tuple #[.agg #[.int .i64 0, .int .i64 0], .int .i64 0]))) := ⟨0, 0, 0, rfl, actOf_deny1⟩
            go_enter Tryz.func26, Tryz.ntmps26
            go_wp2_with fail
            try simp only [Exit.inBlock, Exit.then]
            refine bodyPost_ret (by simp [results, Tryz.results26, go_sem]; try rfl) rfl ?_
            exact ⟨HF.out, HB1.out _⟩
          · have c1 : w.cell? ⟨g, o + 1, none⟩ = some (.string y) := hrow 1 y rfl
            have z2 : (1 : Int) < (((⟨#[100, 101, 110, 121]⟩ :: y :: t : List ByteArray).length : Nat) : Int) := by simp only [List.length_cons]; omega
            have HFG := Lib.hid (fun W => figures_any y W)
            have HFD : Hid (∀ n : Nat, bL y = Lib.decDigits n → n < 1000 → ActOfE ((⟨#[100, 101, 110, 121]⟩ :: y :: t).map bL) (.returned (.tuple #[.agg #[.int .i64 2, .int .i64 (n : Int)], .int .i64 2]))) := fun n h1 h2 => ⟨2, n, 2, rfl, actOf_deny h1 h2⟩
            have HFN : Hid ((∀ n, n < 1000 → bL y ≠ Lib.decDigits n) → ActOfE ((⟨#[100, 101, 110, 121]⟩ :: y :: t).map bL) (.returned (.tuple #[.agg #[.int .i64 0, .int .i64 0], .int .i64 0]))) := fun h1 => ⟨0, 0, 0, rfl, actOf_denyno h1⟩
            go_enter Tryz.func26, Tryz.ntmps26
            go_upto_region 7 with (go_at_call 48; refine cargs (by simp) ((HFG.out _).mono ?_); rintro e w1 ⟨⟨n, ok, rfl, hn, hfr⟩, hb1⟩; have HB2 := Lib.hid hb1; have HFR := Lib.hid hfr; clear hb1 hfr)
            have hres : w1.heap[w.heap.size]? = some (.cells #[.int .i64 0, .int .i64 0] 25 (0, 0)) := (HB2.out.block _ (by simp)).trans (heap_alloc_new _ _)
            have hbel : Below w.heap.size w w1 := (HB1.out _).trans (HB2.out.mono (by simp))
            clear HB2
            cases ok with
            | true =>
              by_cases hn1 : n < 1000
              · have z5 : (n : Int) < 1000 := by omega
                have z6 : (0 : Int) ≤ (n : Int) := by omega
                have HFF := Lib.hid (HFD.out n (HFR.out.1 rfl) hn1)
                clear HFD HFN HFR
                obtain ⟨y0, y1⟩ := store2 hres (.int .i64 2) (.int .i64 (n : Int))
                obtain ⟨r0, r1, rz0, rz1⟩ := row2 hres
                have HBS := Lib.hid (hbel.setCell (p := ⟨w.heap.size, 0, none⟩) (Nat.le_refl _) (.int .i64 2) |>.setCell (p := ⟨w.heap.size, 1, none⟩) (Nat.le_refl _) (.int .i64 (n : Int)))
                clear hres hbel
                go_wp2_with fail
                try simp only [Exit.inBlock, Exit.then]
                refine bodyPost_ret (by simp [results, Tryz.results26, go_sem, y0, y1]; try rfl) rfl ?_
                exact ⟨HFF.out, HBS.out⟩
              · have z5 : ¬ (n : Int) < 1000 := by omega
                have HFF := Lib.hid (HFN.out (fun m hm e => by have := (HFR.out.2 m (by omega) e).1; omega))
                clear HFD HFN HFR
                obtain ⟨y0, y1⟩ := store2 hres (.int .i64 0) (.int .i64 0)
                obtain ⟨r0, r1, rz0, rz1⟩ := row2 hres
                have HBS := Lib.hid (hbel.setCell (p := ⟨w.heap.size, 0, none⟩) (Nat.le_refl _) (.int .i64 0) |>.setCell (p := ⟨w.heap.size, 1, none⟩) (Nat.le_refl _) (.int .i64 0))
                clear hres hbel
                go_wp2_with fail
                try simp only [Exit.inBlock, Exit.then]
                refine bodyPost_ret (by simp [results, Tryz.results26, go_sem, y0, y1]; try rfl) rfl ?_
                exact ⟨HFF.out, HBS.out⟩
            | false =>
              have HFF := Lib.hid (HFN.out (fun m hm e => by have := (HFR.out.2 m (by omega) e).2; cases this))
              clear HFD HFN HFR
              obtain ⟨y0, y1⟩ := store2 hres (.int .i64 0) (.int .i64 0)
              obtain ⟨r0, r1, rz0, rz1⟩ := row2 hres
              have HBS := Lib.hid (hbel.setCell (p := ⟨w.heap.size, 0, none⟩) (Nat.le_refl _) (.int .i64 0) |>.setCell (p := ⟨w.heap.size, 1, none⟩) (Nat.le_refl _) (.int .i64 0))
              clear hres hbel
              go_wp2_with fail
              try simp only [Exit.inBlock, Exit.then]
              refine bodyPost_ret (by simp [results, Tryz.results26, go_sem, y0, y1]; try rfl) rfl ?_
              exact ⟨HFF.out, HBS.out⟩
        · have t3 : (x.toList == [100, 101, 110, 121]) = false := tl_ne hd
          have HF : Hid (ActOfE ((x :: t).map bL) (.returned (.tuple #[.agg #[.int .i64 0, .int .i64 0], .int .i64 0]))) := ⟨0, 0, 0, rfl, actOf_other (fun e => ha (bL_inj e)) (fun e => hk (bL_inj e)) (fun e => hd (bL_inj e))⟩
          clear ha hk hd
          cases hct : decide ((1 : Int) < (((x :: t).length : Nat) : Int)) with
          | true =>
            have z2 : (1 : Int) < (((x :: t).length : Nat) : Int) := of_decide_eq_true hct
            clear hct
            go_enter Tryz.func26, Tryz.ntmps26
            go_wp2_with fail
            try simp only [Exit.inBlock, Exit.then]
            refine bodyPost_ret (by simp [results, Tryz.results26, go_sem]; try rfl) rfl ?_
            exact ⟨HF.out, HB1.out _⟩
          | false =>
            have z2 : ¬ (1 : Int) < (((x :: t).length : Nat) : Int) := of_decide_eq_false hct
            clear hct
            go_enter Tryz.func26, Tryz.ntmps26
            go_wp2_with fail
            try simp only [Exit.inBlock, Exit.then]
            refine bodyPost_ret (by simp [results, Tryz.results26, go_sem]; try rfl) rfl ?_
            exact ⟨HF.out, HB1.out _⟩
end Go.Proofs.YtmgngapkgcofnaaGreatDoor
