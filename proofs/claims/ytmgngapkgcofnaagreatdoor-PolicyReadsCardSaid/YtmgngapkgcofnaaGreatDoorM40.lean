/- The reference's NetOf: the walk. -/
import Derived.Test.YtmgngapkgcofnaaGreatDoorM28
import Derived.Test.YtmgngapkgcofnaaGreatDoorM22
namespace Go.Proofs.YtmgngapkgcofnaaGreatDoor
open Go.RowKit Go.PlainAid

theorem readN_loop {l : List UInt8} (h : loopN l [] [] = none) : ReadN l none := fun x hx hf e => by
  subst e; rw [loopN_text hx hf] at h; cases h
theorem readN_lparts {l : List UInt8} {ns : List Nat} (h : loopN l [] [] = some ns) {x : NetD} (hx : x.ok) (hf : netF x = 0) (e : l = textN x) : ns = partsN x := by
  subst e; rw [loopN_text hx hf] at h; exact (Option.some.inj h).symm
theorem push_fig {cur : List UInt8} {x : Nat} {ok : Bool} {ns : List Nat} (h : FigR cur x ok) : (ok = false ∨ 70000 < x ∨ 6 < ns.length → pushN cur ns = none) ∧ (ok = true → x ≤ 70000 → ns.length ≤ 6 → pushN cur ns = some (ns ++ [x])) := by
  constructor
  · intro hc
    unfold pushN
    rw [if_neg]
    rintro ⟨h1, h2, h3⟩
    obtain ⟨h4, h5⟩ := h.2 (valD cur) (by omega) h1
    rcases hc with hc | hc | hc
    · rw [hc] at h5; cases h5
    · omega
    · omega
  · intro h1 h2 h3
    rw [h.1 h1]
    exact pushN_dec x ns h2 h3
theorem list7' {α : Type} {l : List α} (h : l.length = 7) : ∃ a b c d e f g, l = [a, b, c, d, e, f, g] := by
  match l, h with
  | [a, b, c, d, e, f, g], _ => exact ⟨a, b, c, d, e, f, g, rfl⟩
/-- Where the loop stands. -/
def AtN (l : List UInt8) (i from_ : Nat) (ns : List Nat) : Prop := (i ≤ l.length ∧ loopN l [] [] = loopN (l.drop i) ((l.drop from_).take (i - from_)) ns) ∨ (i = l.length + 1 ∧ loopN l [] [] = some ns)

set_option linter.unusedSimpArgs false in
set_option maxRecDepth 100000 in
set_option maxHeartbeats 8000000 in
theorem netOf_any (s : ByteArray) (w : World) (hs : s.size ≤ 1000000) :
    Calls Tryz.prog 75 #[.string s] w fun e w' => ∃ r : Option NetD, ReadN s.data.toList r ∧ e = .returned (.tuple #[(netV r).1, .bool r.isSome]) ∧ Below w.heap.size w w' := by
  have hsz : s.data.toList.length = s.size := by simp
  have hb := get_bt s
  have HI0 := Lib.hid (parse_start w)
  go_enter Tryz.func75, Tryz.ntmps75
  go_wp2_with fail
  generalize (w.alloc (.cells #[.int .u32 0, .int .i64 0, .int .i64 0, .int .i64 0] 82)).alloc (.cells #[.int .i64 0, .int .i64 0, .int .i64 0, .int .i64 0, .int .i64 0, .int .i64 0, .int .i64 0] 161) = W0 at *
  go_loopw [5, 6, 7] (fun kv fv iv wr => ∃ (i from_ : Nat) (ns : List Nat), i ≤ s.size + 1 ∧ from_ ≤ i ∧ iv = .int .i64 i ∧ fv = .int .i64 from_ ∧ kv = .int .i64 (ns.length : Nat) ∧ ns.length ≤ 7 ∧ Hid (ParseIn w wr ns) ∧ Hid (∀ y ∈ ns, y ≤ 70000) ∧ Hid (AtN s.data.toList i from_ ns)) (fun _ _ iv _ => s.size + 2 - (intOf iv).toNat)
  case atStart => exact ⟨0, 0, [], by omega, by omega, rfl, rfl, rfl, by simp, HI0, fun y hy => by simp at hy, Or.inl ⟨by omega, by simp⟩⟩
  case round =>
    obtain ⟨i, from_, ns, hi, hfi, rfl, rfl, rfl, hn7, HI, HSM, HAT⟩ := hrel
    have j0 : (0 : Int) ≤ (i : Int) := by omega
    have j1 : (0 : Int) ≤ (from_ : Int) := by omega
    have j2 : (from_ : Int) ≤ (i : Int) := by omega
    by_cases hle : i ≤ s.size
    · have hle' : (i : Int) ≤ (s.size : Int) := by omega
      have HL0 : Hid (loopN s.data.toList [] [] = loopN (s.data.toList.drop i) ((s.data.toList.drop from_).take (i - from_)) ns) := by
        rcases HAT.out with h | h
        · exact h.2
        · omega
      clear HAT
      have hwi : wrap64 ((i : Int) + 1) = ((i + 1 : Nat) : Int) := IntWalk.wrap64_in _ (by omega)
      by_cases hlt : i < s.size
      · have hlt' : (i : Int) < (s.size : Int) := by omega
        have hil : i < s.data.toList.length := by omega
        have hdrop : s.data.toList.drop i = s.data.toList[i] :: s.data.toList.drop (i + 1) := (List.drop_eq_getElem_cons hil)
        have hdig := isDig_bt s i hil
        by_cases hd : 48 ≤ bt s i ∧ bt s i ≤ 57
        · have HL1 : Hid (AtN s.data.toList (i + 1) from_ ns) := Or.inl ⟨by omega, by
            rw [HL0.out, hdrop, loopN, if_pos (hdig.2 hd)]
            congr 1
            rw [show i + 1 - from_ = (i - from_) + 1 from by omega, List.take_add_one, List.getElem?_drop, show from_ + (i - from_) = i from by omega, List.getElem?_eq_getElem hil]
            rfl⟩
          have d1 := hd.1
          have d2 := hd.2
          clear hdrop hdig hil hd HL0 hs
          go_wp2_with fail
          refine ⟨⟨i + 1, from_, ns, by omega, by omega, by rw [hwi], rfl, rfl, hn7, HI, HSM, HL1⟩, ?_⟩
          rw [hwi]
          show s.size + 2 - (i + 1) < s.size + 2 - i
          omega
        · have HL2 : Hid (loopN s.data.toList [] [] = (pushN ((s.data.toList.drop from_).take (i - from_)) ns).bind fun m => loopN (s.data.toList.drop (i + 1)) [] m) := by
            show _ = _
            rw [HL0.out, hdrop, loopN, if_neg (fun h => hd (hdig.1 h))]
          have hd2 : bt s i < 48 ∨ (48 ≤ bt s i ∧ 57 < bt s i) := by omega
          clear hdrop hdig hil hd HL0 hs
          rcases hd2 with hd | ⟨hd0, hd⟩
          · have hd' : ¬ 48 ≤ bt s i := by omega
            have hcur : ((s.extract from_ i).data.toList) = (s.data.toList.drop from_).take (i - from_) := by simp
            have HFI : Hid (∀ W, Calls Tryz.prog 48 #[.string (s.extract from_ i)] W fun e w' => FigE ((s.data.toList.drop from_).take (i - from_)) e ∧ Below W.heap.size W w') := fun W => by have := figures_any (s.extract from_ i) W; rw [hcur] at this; exact this
            generalize (s.data.toList.drop from_).take (i - from_) = cur at *
            clear hcur
            go_upto_region 9 with (go_at_call 48; refine cargs (by simp [Act.eval]) ((HFI.out _).mono ?_); rintro e w1 ⟨hE, hb1⟩; obtain ⟨x, ok, rfl, hx64, hFR⟩ := hE; have HX64 := Lib.hid hx64; have HFR := Lib.hid hFR; clear hx64 hFR)
            have HI1 := Lib.hid (HI.out.kept hb1)
            have HPN := Lib.hid (push_fig (ns := ns) HFR.out)
            clear hb1
            have hkn : (ns.length : Int) ≤ 7 := by omega
            cases ok with
            | false =>
              have HF : Hid (ReadN s.data.toList none) := readN_loop (by rw [HL2.out, (HPN.out).1 (Or.inl rfl)]; rfl)
              obtain ⟨v0, v1, v2, v3, fz⟩ := HI1.out.resf
              obtain ⟨y0, y1, y2, y3⟩ := store4 HI1.out.res (.int .u32 0) (.int .i64 0) (.int .i64 0) (.int .i64 0)
              have HB := Lib.hid (below_store4 HI1.out.bel (Nat.le_refl _) (.int .u32 0) (.int .i64 0) (.int .i64 0) (.int .i64 0))
              have fz0 := fz 0
              have fz1 := fz 1
              have fz2 := fz 2
              have fz3 := fz 3
              clear fz
              go_wp2_with fail
              try simp only [Exit.inBlock, Exit.then]
              refine bodyPost_ret (by simp [results, Tryz.results75, go_sem, y0, y1, y2, y3]; try rfl) rfl ?_
              exact ⟨none, HF.out, rfl, HB.out⟩
            | true =>
              by_cases hx7 : 70000 < x
              · have hx7' : (70000 : Int) < (x : Int) := by omega
                have HF : Hid (ReadN s.data.toList none) := readN_loop (by rw [HL2.out, (HPN.out).1 (Or.inr (Or.inl hx7))]; rfl)
                obtain ⟨v0, v1, v2, v3, fz⟩ := HI1.out.resf
                obtain ⟨y0, y1, y2, y3⟩ := store4 HI1.out.res (.int .u32 0) (.int .i64 0) (.int .i64 0) (.int .i64 0)
                have HB := Lib.hid (below_store4 HI1.out.bel (Nat.le_refl _) (.int .u32 0) (.int .i64 0) (.int .i64 0) (.int .i64 0))
                have fz0 := fz 0
                have fz1 := fz 1
                have fz2 := fz 2
                have fz3 := fz 3
                clear fz hx7
                go_wp2_with fail
                try simp only [Exit.inBlock, Exit.then]
                refine bodyPost_ret (by simp [results, Tryz.results75, go_sem, y0, y1, y2, y3]; try rfl) rfl ?_
                exact ⟨none, HF.out, rfl, HB.out⟩
              · have hx7' : ¬ (70000 : Int) < (x : Int) := by omega
                by_cases hk6 : 6 < ns.length
                · have hk6' : (6 : Int) < (ns.length : Int) := by omega
                  have HF : Hid (ReadN s.data.toList none) := readN_loop (by rw [HL2.out, (HPN.out).1 (Or.inr (Or.inr hk6))]; rfl)
                  obtain ⟨v0, v1, v2, v3, fz⟩ := HI1.out.resf
                  obtain ⟨y0, y1, y2, y3⟩ := store4 HI1.out.res (.int .u32 0) (.int .i64 0) (.int .i64 0) (.int .i64 0)
                  have HB := Lib.hid (below_store4 HI1.out.bel (Nat.le_refl _) (.int .u32 0) (.int .i64 0) (.int .i64 0) (.int .i64 0))
                  have fz0 := fz 0
                  have fz1 := fz 1
                  have fz2 := fz 2
                  have fz3 := fz 3
                  clear fz hk6
                  go_wp2_with fail
                  try simp only [Exit.inBlock, Exit.then]
                  refine bodyPost_ret (by simp [results, Tryz.results75, go_sem, y0, y1, y2, y3]; try rfl) rfl ?_
                  exact ⟨none, HF.out, rfl, HB.out⟩
                · have hk6' : ¬ (6 : Int) < (ns.length : Int) := by omega
                  have hk7' : (ns.length : Int) < 7 := by omega
                  have hk0' : (0 : Int) ≤ (ns.length : Int) := by omega
                  have hkt : ((ns.length : Int)).toNat = ns.length := by omega
                  obtain ⟨⟨cv, hcv⟩, hfr⟩ := HI1.out.store ns.length (by omega)
                  have HI2 := Lib.hid (HI1.out.set (by omega) x)
                  have HL3 := Lib.hid (HL2.out.trans (congrArg (fun o => o.bind fun m => loopN (s.data.toList.drop (i + 1)) [] m) ((HPN.out).2 rfl (by omega) (by omega))))
                  have HSM2 : Hid (∀ y ∈ ns ++ [x], y ≤ 70000) := by
                    intro y hy
                    rw [List.mem_append] at hy
                    rcases hy with h | h
                    · exact HSM.out y h
                    · simp only [List.mem_singleton] at h; omega
                  have hxw : wrap64 (x : Int) = (x : Int) := IntWalk.wrap64_in _ (by omega)
                  clear hx7 hk6
                  go_wp2_with fail
                  refine ⟨⟨i + 1, i + 1, ns ++ [x], by omega, by omega, by rw [hwi], by rw [hwi], by simp, by simp; omega, HI2, HSM2, Or.inl ⟨by omega, by rw [HL3.out]; simp⟩⟩, ?_⟩
                  rw [hwi]
                  show s.size + 2 - (i + 1) < s.size + 2 - i
                  omega
          · have hd' : ¬ bt s i ≤ 57 := by omega
            have hcur : ((s.extract from_ i).data.toList) = (s.data.toList.drop from_).take (i - from_) := by simp
            have HFI : Hid (∀ W, Calls Tryz.prog 48 #[.string (s.extract from_ i)] W fun e w' => FigE ((s.data.toList.drop from_).take (i - from_)) e ∧ Below W.heap.size W w') := fun W => by have := figures_any (s.extract from_ i) W; rw [hcur] at this; exact this
            generalize (s.data.toList.drop from_).take (i - from_) = cur at *
            clear hcur
            go_upto_region 9 with (go_at_call 48; refine cargs (by simp [Act.eval]) ((HFI.out _).mono ?_); rintro e w1 ⟨hE, hb1⟩; obtain ⟨x, ok, rfl, hx64, hFR⟩ := hE; have HX64 := Lib.hid hx64; have HFR := Lib.hid hFR; clear hx64 hFR)
            have HI1 := Lib.hid (HI.out.kept hb1)
            have HPN := Lib.hid (push_fig (ns := ns) HFR.out)
            clear hb1
            have hkn : (ns.length : Int) ≤ 7 := by omega
            cases ok with
            | false =>
              have HF : Hid (ReadN s.data.toList none) := readN_loop (by rw [HL2.out, (HPN.out).1 (Or.inl rfl)]; rfl)
              obtain ⟨v0, v1, v2, v3, fz⟩ := HI1.out.resf
              obtain ⟨y0, y1, y2, y3⟩ := store4 HI1.out.res (.int .u32 0) (.int .i64 0) (.int .i64 0) (.int .i64 0)
              have HB := Lib.hid (below_store4 HI1.out.bel (Nat.le_refl _) (.int .u32 0) (.int .i64 0) (.int .i64 0) (.int .i64 0))
              have fz0 := fz 0
              have fz1 := fz 1
              have fz2 := fz 2
              have fz3 := fz 3
              clear fz
              go_wp2_with fail
              try simp only [Exit.inBlock, Exit.then]
              refine bodyPost_ret (by simp [results, Tryz.results75, go_sem, y0, y1, y2, y3]; try rfl) rfl ?_
              exact ⟨none, HF.out, rfl, HB.out⟩
            | true =>
              by_cases hx7 : 70000 < x
              · have hx7' : (70000 : Int) < (x : Int) := by omega
                have HF : Hid (ReadN s.data.toList none) := readN_loop (by rw [HL2.out, (HPN.out).1 (Or.inr (Or.inl hx7))]; rfl)
                obtain ⟨v0, v1, v2, v3, fz⟩ := HI1.out.resf
                obtain ⟨y0, y1, y2, y3⟩ := store4 HI1.out.res (.int .u32 0) (.int .i64 0) (.int .i64 0) (.int .i64 0)
                have HB := Lib.hid (below_store4 HI1.out.bel (Nat.le_refl _) (.int .u32 0) (.int .i64 0) (.int .i64 0) (.int .i64 0))
                have fz0 := fz 0
                have fz1 := fz 1
                have fz2 := fz 2
                have fz3 := fz 3
                clear fz hx7
                go_wp2_with fail
                try simp only [Exit.inBlock, Exit.then]
                refine bodyPost_ret (by simp [results, Tryz.results75, go_sem, y0, y1, y2, y3]; try rfl) rfl ?_
                exact ⟨none, HF.out, rfl, HB.out⟩
              · have hx7' : ¬ (70000 : Int) < (x : Int) := by omega
                by_cases hk6 : 6 < ns.length
                · have hk6' : (6 : Int) < (ns.length : Int) := by omega
                  have HF : Hid (ReadN s.data.toList none) := readN_loop (by rw [HL2.out, (HPN.out).1 (Or.inr (Or.inr hk6))]; rfl)
                  obtain ⟨v0, v1, v2, v3, fz⟩ := HI1.out.resf
                  obtain ⟨y0, y1, y2, y3⟩ := store4 HI1.out.res (.int .u32 0) (.int .i64 0) (.int .i64 0) (.int .i64 0)
                  have HB := Lib.hid (below_store4 HI1.out.bel (Nat.le_refl _) (.int .u32 0) (.int .i64 0) (.int .i64 0) (.int .i64 0))
                  have fz0 := fz 0
                  have fz1 := fz 1
                  have fz2 := fz 2
                  have fz3 := fz 3
                  clear fz hk6
                  go_wp2_with fail
                  try simp only [Exit.inBlock, Exit.then]
                  refine bodyPost_ret (by simp [results, Tryz.results75, go_sem, y0, y1, y2, y3]; try rfl) rfl ?_
                  exact ⟨none, HF.out, rfl, HB.out⟩
                · have hk6' : ¬ (6 : Int) < (ns.length : Int) := by omega
                  have hk7' : (ns.length : Int) < 7 := by omega
                  have hk0' : (0 : Int) ≤ (ns.length : Int) := by omega
                  have hkt : ((ns.length : Int)).toNat = ns.length := by omega
                  obtain ⟨⟨cv, hcv⟩, hfr⟩ := HI1.out.store ns.length (by omega)
                  have HI2 := Lib.hid (HI1.out.set (by omega) x)
                  have HL3 := Lib.hid (HL2.out.trans (congrArg (fun o => o.bind fun m => loopN (s.data.toList.drop (i + 1)) [] m) ((HPN.out).2 rfl (by omega) (by omega))))
                  have HSM2 : Hid (∀ y ∈ ns ++ [x], y ≤ 70000) := by
                    intro y hy
                    rw [List.mem_append] at hy
                    rcases hy with h | h
                    · exact HSM.out y h
                    · simp only [List.mem_singleton] at h; omega
                  have hxw : wrap64 (x : Int) = (x : Int) := IntWalk.wrap64_in _ (by omega)
                  clear hx7 hk6
                  go_wp2_with fail
                  refine ⟨⟨i + 1, i + 1, ns ++ [x], by omega, by omega, by rw [hwi], by rw [hwi], by simp, by simp; omega, HI2, HSM2, Or.inl ⟨by omega, by rw [HL3.out]; simp⟩⟩, ?_⟩
                  rw [hwi]
                  show s.size + 2 - (i + 1) < s.size + 2 - i
                  omega
      · obtain rfl : i = s.size := by omega
        have HL2 : Hid (loopN s.data.toList [] [] = (pushN ((s.data.toList.drop from_).take (s.size - from_)) ns).bind fun m => some m) := by
          show _ = _
          rw [HL0.out, show s.data.toList.drop s.size = [] from by simp, loopN]
          cases pushN ((s.data.toList.drop from_).take (s.size - from_)) ns <;> rfl
        clear HL0 hs hlt hle
        have hcur : ((s.extract from_ s.size).data.toList) = (s.data.toList.drop from_).take (s.size - from_) := by simp
        have HFI : Hid (∀ W, Calls Tryz.prog 48 #[.string (s.extract from_ s.size)] W fun e w' => FigE ((s.data.toList.drop from_).take (s.size - from_)) e ∧ Below W.heap.size W w') := fun W => by have := figures_any (s.extract from_ s.size) W; rw [hcur] at this; exact this
        generalize (s.data.toList.drop from_).take (s.size - from_) = cur at *
        clear hcur
        go_upto_region 9 with (go_at_call 48; refine cargs (by simp [Act.eval]) ((HFI.out _).mono ?_); rintro e w1 ⟨hE, hb1⟩; obtain ⟨x, ok, rfl, hx64, hFR⟩ := hE; have HX64 := Lib.hid hx64; have HFR := Lib.hid hFR; clear hx64 hFR)
        have HI1 := Lib.hid (HI.out.kept hb1)
        have HPN := Lib.hid (push_fig (ns := ns) HFR.out)
        clear hb1
        have hkn : (ns.length : Int) ≤ 7 := by omega
        cases ok with
        | false =>
          have HF : Hid (ReadN s.data.toList none) := readN_loop (by rw [HL2.out, (HPN.out).1 (Or.inl rfl)]; rfl)
          obtain ⟨v0, v1, v2, v3, fz⟩ := HI1.out.resf
          obtain ⟨y0, y1, y2, y3⟩ := store4 HI1.out.res (.int .u32 0) (.int .i64 0) (.int .i64 0) (.int .i64 0)
          have HB := Lib.hid (below_store4 HI1.out.bel (Nat.le_refl _) (.int .u32 0) (.int .i64 0) (.int .i64 0) (.int .i64 0))
          have fz0 := fz 0
          have fz1 := fz 1
          have fz2 := fz 2
          have fz3 := fz 3
          clear fz
          go_wp2_with fail
          try simp only [Exit.inBlock, Exit.then]
          refine bodyPost_ret (by simp [results, Tryz.results75, go_sem, y0, y1, y2, y3]; try rfl) rfl ?_
          exact ⟨none, HF.out, rfl, HB.out⟩
        | true =>
          by_cases hx7 : 70000 < x
          · have hx7' : (70000 : Int) < (x : Int) := by omega
            have HF : Hid (ReadN s.data.toList none) := readN_loop (by rw [HL2.out, (HPN.out).1 (Or.inr (Or.inl hx7))]; rfl)
            obtain ⟨v0, v1, v2, v3, fz⟩ := HI1.out.resf
            obtain ⟨y0, y1, y2, y3⟩ := store4 HI1.out.res (.int .u32 0) (.int .i64 0) (.int .i64 0) (.int .i64 0)
            have HB := Lib.hid (below_store4 HI1.out.bel (Nat.le_refl _) (.int .u32 0) (.int .i64 0) (.int .i64 0) (.int .i64 0))
            have fz0 := fz 0
            have fz1 := fz 1
            have fz2 := fz 2
            have fz3 := fz 3
            clear fz hx7
            go_wp2_with fail
            try simp only [Exit.inBlock, Exit.then]
            refine bodyPost_ret (by simp [results, Tryz.results75, go_sem, y0, y1, y2, y3]; try rfl) rfl ?_
            exact ⟨none, HF.out, rfl, HB.out⟩
          · have hx7' : ¬ (70000 : Int) < (x : Int) := by omega
            by_cases hk6 : 6 < ns.length
            · have hk6' : (6 : Int) < (ns.length : Int) := by omega
              have HF : Hid (ReadN s.data.toList none) := readN_loop (by rw [HL2.out, (HPN.out).1 (Or.inr (Or.inr hk6))]; rfl)
              obtain ⟨v0, v1, v2, v3, fz⟩ := HI1.out.resf
              obtain ⟨y0, y1, y2, y3⟩ := store4 HI1.out.res (.int .u32 0) (.int .i64 0) (.int .i64 0) (.int .i64 0)
              have HB := Lib.hid (below_store4 HI1.out.bel (Nat.le_refl _) (.int .u32 0) (.int .i64 0) (.int .i64 0) (.int .i64 0))
              have fz0 := fz 0
              have fz1 := fz 1
              have fz2 := fz 2
              have fz3 := fz 3
              clear fz hk6
              go_wp2_with fail
              try simp only [Exit.inBlock, Exit.then]
              refine bodyPost_ret (by simp [results, Tryz.results75, go_sem, y0, y1, y2, y3]; try rfl) rfl ?_
              exact ⟨none, HF.out, rfl, HB.out⟩
            · have hk6' : ¬ (6 : Int) < (ns.length : Int) := by omega
              have hk7' : (ns.length : Int) < 7 := by omega
              have hk0' : (0 : Int) ≤ (ns.length : Int) := by omega
              have hkt : ((ns.length : Int)).toNat = ns.length := by omega
              obtain ⟨⟨cv, hcv⟩, hfr⟩ := HI1.out.store ns.length (by omega)
              have HI2 := Lib.hid (HI1.out.set (by omega) x)
              have HL3 := Lib.hid (HL2.out.trans (congrArg (fun o => o.bind fun m => some m) ((HPN.out).2 rfl (by omega) (by omega))))
              have HSM2 : Hid (∀ y ∈ ns ++ [x], y ≤ 70000) := by
                intro y hy
                rw [List.mem_append] at hy
                rcases hy with h | h
                · exact HSM.out y h
                · simp only [List.mem_singleton] at h; omega
              have hxw : wrap64 (x : Int) = (x : Int) := IntWalk.wrap64_in _ (by omega)
              clear hx7 hk6
              go_wp2_with fail
              refine ⟨⟨s.size + 1, s.size + 1, ns ++ [x], by omega, by omega, by rw [hwi], by rw [hwi], by simp, by simp; omega, HI2, HSM2, Or.inr ⟨by omega, by rw [HL3.out]; rfl⟩⟩, ?_⟩
              rw [hwi]
              show s.size + 2 - (s.size + 1) < s.size + 2 - s.size
              omega
    · obtain rfl : i = s.size + 1 := by omega
      have hle' : ¬ ((s.size + 1 : Nat) : Int) ≤ (s.size : Int) := by omega
      have HL : Hid (loopN s.data.toList [] [] = some ns) := by
        rcases HAT.out with h | h
        · omega
        · exact h.2
      obtain ⟨v0, v1, v2, v3, fz⟩ := HI.out.resf
      obtain ⟨y0, y1, y2, y3⟩ := store4 HI.out.res (.int .u32 0) (.int .i64 0) (.int .i64 0) (.int .i64 0)
      have HB := Lib.hid (below_store4 HI.out.bel (Nat.le_refl _) (.int .u32 0) (.int .i64 0) (.int .i64 0) (.int .i64 0))
      have fz0 := fz 0
      have fz1 := fz 1
      have fz2 := fz 2
      have fz3 := fz 3
      clear fz HAT hle hfi
      by_cases hk7 : ns.length < 7
      · have hk7' : (ns.length : Int) < 7 := by omega
        have HF : Hid (ReadN s.data.toList none) := fun x hx hf e => by
          have h1 := readN_lparts HL.out hx hf e
          rw [h1] at hk7
          simp [partsN] at hk7
        clear hk7
        go_wp2_with fail
        try simp only [Exit.inBlock, Exit.then]
        refine bodyPost_ret (by simp [results, Tryz.results75, go_sem, y0, y1, y2, y3]; try rfl) rfl ?_
        exact ⟨none, HF.out, rfl, HB.out⟩
      · have hk7' : ¬ (ns.length : Int) < 7 := by omega
        have hn : ns.length = 7 := by omega
        obtain ⟨a, b, c, d, e, f, g, rfl⟩ := list7' hn
        have m0 : wr.cell? ⟨w.heap.size + 1, 0, none⟩ = some (.int .i64 a) := (cell_of_row _ _ _ _ _ _ HI.out.row).trans rfl
        have m1 : wr.cell? ⟨w.heap.size + 1, 1, none⟩ = some (.int .i64 b) := (cell_of_row _ _ _ _ _ _ HI.out.row).trans rfl
        have m2 : wr.cell? ⟨w.heap.size + 1, 2, none⟩ = some (.int .i64 c) := (cell_of_row _ _ _ _ _ _ HI.out.row).trans rfl
        have m3 : wr.cell? ⟨w.heap.size + 1, 3, none⟩ = some (.int .i64 d) := (cell_of_row _ _ _ _ _ _ HI.out.row).trans rfl
        have m4 : wr.cell? ⟨w.heap.size + 1, 4, none⟩ = some (.int .i64 e) := (cell_of_row _ _ _ _ _ _ HI.out.row).trans rfl
        have m5 : wr.cell? ⟨w.heap.size + 1, 5, none⟩ = some (.int .i64 f) := (cell_of_row _ _ _ _ _ _ HI.out.row).trans rfl
        have m6 : wr.cell? ⟨w.heap.size + 1, 6, none⟩ = some (.int .i64 g) := (cell_of_row _ _ _ _ _ _ HI.out.row).trans rfl
        have HBIG : Hid (255 < a ∨ 255 < b ∨ 255 < c ∨ 255 < d → ReadN s.data.toList none) := fun hbig x hx hf e => by
          have h1 := readN_lparts HL.out hx hf e
          obtain ⟨a', b', c', d', e', f', k', h2, q1, q2, q3, q4, rfl⟩ := parts_of hx hf
          rw [h2] at h1
          simp at h1
          omega
        clear hk7 hk7' hn hn7
        by_cases t0 : 255 < a
        · have t0' : (255 : Int) < (a : Int) := by omega
          have HF : Hid (ReadN s.data.toList none) := HBIG.out (by omega)
          clear t0
          go_wp2_with fail
          try simp only [Exit.inBlock, Exit.then]
          refine bodyPost_ret (by simp [results, Tryz.results75, go_sem, y0, y1, y2, y3]; try rfl) rfl ?_
          exact ⟨none, HF.out, rfl, HB.out⟩
        · have t0' : ¬ (255 : Int) < (a : Int) := by omega
          by_cases t1 : 255 < b
          · have t1' : (255 : Int) < (b : Int) := by omega
            have HF : Hid (ReadN s.data.toList none) := HBIG.out (by omega)
            clear t1
            go_wp2_with fail
            try simp only [Exit.inBlock, Exit.then]
            refine bodyPost_ret (by simp [results, Tryz.results75, go_sem, y0, y1, y2, y3]; try rfl) rfl ?_
            exact ⟨none, HF.out, rfl, HB.out⟩
          · have t1' : ¬ (255 : Int) < (b : Int) := by omega
            by_cases t2 : 255 < c
            · have t2' : (255 : Int) < (c : Int) := by omega
              have HF : Hid (ReadN s.data.toList none) := HBIG.out (by omega)
              clear t2
              go_wp2_with fail
              try simp only [Exit.inBlock, Exit.then]
              refine bodyPost_ret (by simp [results, Tryz.results75, go_sem, y0, y1, y2, y3]; try rfl) rfl ?_
              exact ⟨none, HF.out, rfl, HB.out⟩
            · have t2' : ¬ (255 : Int) < (c : Int) := by omega
              by_cases t3 : 255 < d
              · have t3' : (255 : Int) < (d : Int) := by omega
                have HF : Hid (ReadN s.data.toList none) := HBIG.out (by omega)
                clear t3
                go_wp2_with fail
                try simp only [Exit.inBlock, Exit.then]
                refine bodyPost_ret (by simp [results, Tryz.results75, go_sem, y0, y1, y2, y3]; try rfl) rfl ?_
                exact ⟨none, HF.out, rfl, HB.out⟩
              · have t3' : ¬ (255 : Int) < (d : Int) := by omega
                have hsm := HSM.out
                simp only [List.mem_cons, List.not_mem_nil, or_false] at hsm
                have hke := hsm e (by simp)
                have hkf := hsm f (by simp)
                have hkg := hsm g (by simp)
                have hok : (ofParts a b c d e f g).ok := by
                  refine ⟨?_, ?_, ?_, ?_⟩
                  · simp only [ofParts]; omega
                  · simp [ofParts, Lit.wf, IntKind.min, IntKind.max, IntKind.signed, IntKind.bits]; omega
                  · simp [ofParts, Lit.wf, IntKind.min, IntKind.max, IntKind.signed, IntKind.bits]; omega
                  · simp [ofParts, Lit.wf, IntKind.min, IntKind.max, IntKind.signed, IntKind.bits]; omega
                have HEQ : Hid (∀ x : NetD, x.ok → netF x = 0 → s.data.toList = textN x → x = ofParts a b c d e f g) := fun x hx hf e => by
                  have h1 := readN_lparts HL.out hx hf e
                  obtain ⟨a', b', c', d', e', f', k', h2, q1, q2, q3, q4, rfl⟩ := parts_of hx hf
                  rw [h2] at h1
                  simp at h1
                  obtain ⟨rfl, rfl, rfl, rfl, rfl, rfl, rfl⟩ := h1
                  rfl
                obtain ⟨P, HPD⟩ : ∃ P : Nat, Hid (P = ((a * 256 + b) * 256 + c) * 256 + d) := ⟨((a * 256 + b) * 256 + c) * 256 + d, rfl⟩
                have hP : (a : Int) * 16777216 + (b : Int) * 65536 + (c : Int) * 256 + (d : Int) = (P : Int) := by have := HPD.out; omega
                have HV : Hid ((ofParts a b c d e f g).v = .agg #[.int .u32 (P : Int), .int .i64 e, .int .i64 f, .int .i64 g]) := by show _ = _; rw [HPD.out]; rfl
                have p0 : (a : Int) < 256 := by omega
                have p1 : (b : Int) < 256 := by omega
                have p2 : (c : Int) < 256 := by omega
                have p3 : (d : Int) < 256 := by omega
                have HX0 : Hid ((wr.alloc (.cells #[.int .u32 (P : Int), .int .i64 e, .int .i64 f, .int .i64 g] 82)).heap[wr.heap.size]? = some (.cells #[.int .u32 (P : Int), .int .i64 e, .int .i64 f, .int .i64 g] 82 (0, 0))) := heap_alloc_new _ _
                have HB0 : Hid (Below wr.heap.size wr (wr.alloc (.cells #[.int .u32 (P : Int), .int .i64 e, .int .i64 f, .int .i64 g] 82))) := (Below.refl _ _).alloc (Nat.le_refl _) _
                have hszx : wr.heap.size < (wr.alloc (.cells #[.int .u32 (P : Int), .int .i64 e, .int .i64 f, .int .i64 g] 82)).heap.size := by simp
                clear t0 t1 t2 t3 hsm hke hkf hkg y0 y1 y2 y3 HB v0 v1 v2 v3 fz0 fz1 fz2 fz3
                go_upto_region 18 with fail
                generalize wr.alloc (.cells #[.int .u32 (P : Int), .int .i64 e, .int .i64 f, .int .i64 g] 82) = W2 at *
                have HI2 := Lib.hid (HI.out.kept HB0.out)
                have HXQ : Hid (∀ W, Below W2.heap.size W2 W → W.cell? ⟨wr.heap.size, 0, none⟩ = some (.int .u32 (P : Int)) ∧ W.cell? ⟨wr.heap.size, 1, none⟩ = some (.int .i64 e) ∧ W.cell? ⟨wr.heap.size, 2, none⟩ = some (.int .i64 f) ∧ W.cell? ⟨wr.heap.size, 3, none⟩ = some (.int .i64 g)) := fun W hb => by
                  have h := (hb.block _ hszx).trans HX0.out
                  refine ⟨?_, ?_, ?_, ?_⟩ <;> (rw [cell_of_row _ _ _ _ _ _ h]; rfl)
                obtain ⟨x0, x1, x2, x3⟩ := HXQ.out W2 (Below.refl _ _)
                have HNF : Hid (∀ w, Calls Tryz.prog 52 #[.agg #[.int .u32 (P : Int), .int .i64 e, .int .i64 f, .int .i64 g]] w fun e' w' => e' = .returned (.int .i64 (netF (ofParts a b c d e f g))) ∧ Below w.heap.size w w') := fun w => by
                  have := refNet_any (ofParts a b c d e f g) w hok
                  rw [HV.out] at this; exact this
                have HNG := netF_ge (ofParts a b c d e f g)
                clear hP p0 p1 p2 p3 m0 m1 m2 m3 m4 m5 m6 HX0
                by_cases hz : netF (ofParts a b c d e f g) = 0
                · have HNT : Hid (∀ w, Calls Tryz.prog 65 #[.agg #[.int .u32 (P : Int), .int .i64 e, .int .i64 f, .int .i64 g]] w fun e' w' => e' = .returned (.string ⟨(textN (ofParts a b c d e f g)).toArray⟩) ∧ Below w.heap.size w w') := fun w => by
                    have := refNetText_any (ofParts a b c d e f g) w hok hz
                    rw [HV.out] at this; exact this
                  have HR : Hid (s.data.toList = textN (ofParts a b c d e f g) → ReadN s.data.toList (some (ofParts a b c d e f g))) := fun h => ⟨hok, hz, h⟩
                  rw [hz] at HNF
                  have htl : s.toList = s.data.toList := ByteArray.toList_eq s
                  clear HNG hz hok
                  by_cases he : textN (ofParts a b c d e f g) = s.data.toList
                  · have HF := Lib.hid (HR.out he.symm)
                    have he2 : (textN (ofParts a b c d e f g) == s.data.toList) = true := by simpa using he
                    have he3 : (textN (ofParts a b c d e f g) == s.toList) = true := by rw [htl]; exact he2
                    generalize textN (ofParts a b c d e f g) = T at *
                    clear he htl
                    go_upto_region 20 with (first
                      | (go_at_call 52; refine cargs (by simp [Act.eval]) ((HNF.out _).mono ?_); rintro e3 w3 ⟨rfl, hb3⟩; have HB3 := Lib.hid hb3; obtain ⟨z0, z1, z2, z3⟩ := HXQ.out w3 hb3; clear hb3)
                      | (go_at_call 65; refine cargs (by simp [Act.eval]) ((HNT.out _).mono ?_); rintro e4 w4 ⟨rfl, hb4⟩; have HB4 : Hid (Below W2.heap.size W2 w4) := HB3.out.trans (hb4.mono HB3.out.size)))
                    obtain ⟨k0, k1, k2, k3⟩ := HXQ.out w4 HB4.out
                    have HI4 := Lib.hid (HI2.out.kept HB4.out)
                    obtain ⟨u0, u1, u2, u3, gz⟩ := HI4.out.resf
                    obtain ⟨y0, y1, y2, y3⟩ := store4 HI4.out.res (.int .u32 P) (.int .i64 e) (.int .i64 f) (.int .i64 g)
                    have HB := Lib.hid (below_store4 HI4.out.bel (Nat.le_refl _) (.int .u32 P) (.int .i64 e) (.int .i64 f) (.int .i64 g))
                    have gz0 := gz 0
                    have gz1 := gz 1
                    have gz2 := gz 2
                    have gz3 := gz 3
                    clear gz hb4
                    go_wp2_with fail
                    try simp only [Exit.inBlock, Exit.then]
                    refine bodyPost_ret (by simp [results, Tryz.results75, go_sem, y0, y1, y2, y3]; try rfl) rfl ?_
                    exact ⟨some (ofParts a b c d e f g), HF.out, by simp only [netV]; rw [HV.out]; rfl, HB.out⟩
                  · have HF : Hid (ReadN s.data.toList none) := fun x hx hf e => he (by rw [e, HEQ.out x hx hf e])
                    have he2 : (textN (ofParts a b c d e f g) == s.data.toList) = false := by simpa using he
                    have he3 : (textN (ofParts a b c d e f g) == s.toList) = false := by rw [htl]; exact he2
                    generalize textN (ofParts a b c d e f g) = T at *
                    clear he htl HR
                    go_upto_region 19 with (first
                      | (go_at_call 52; refine cargs (by simp [Act.eval]) ((HNF.out _).mono ?_); rintro e3 w3 ⟨rfl, hb3⟩; have HB3 := Lib.hid hb3; obtain ⟨z0, z1, z2, z3⟩ := HXQ.out w3 hb3; clear hb3)
                      | (go_at_call 65; refine cargs (by simp [Act.eval]) ((HNT.out _).mono ?_); rintro e4 w4 ⟨rfl, hb4⟩; have HB4 : Hid (Below W2.heap.size W2 w4) := HB3.out.trans (hb4.mono HB3.out.size)))
                    have HI4 := Lib.hid (HI2.out.kept HB4.out)
                    obtain ⟨u0, u1, u2, u3, gz⟩ := HI4.out.resf
                    obtain ⟨y0, y1, y2, y3⟩ := store4 HI4.out.res (.int .u32 0) (.int .i64 0) (.int .i64 0) (.int .i64 0)
                    have HB := Lib.hid (below_store4 HI4.out.bel (Nat.le_refl _) (.int .u32 0) (.int .i64 0) (.int .i64 0) (.int .i64 0))
                    have gz0 := gz 0
                    have gz1 := gz 1
                    have gz2 := gz 2
                    have gz3 := gz 3
                    clear gz hb4
                    go_wp2_with fail
                    try simp only [Exit.inBlock, Exit.then]
                    refine bodyPost_ret (by simp [results, Tryz.results75, go_sem, y0, y1, y2, y3]; try rfl) rfl ?_
                    exact ⟨none, HF.out, rfl, HB.out⟩
                · have HF : Hid (ReadN s.data.toList none) := fun x hx hf e => hz (HEQ.out x hx hf e ▸ hf)
                  have hnp : 0 < netF (ofParts a b c d e f g) := by omega
                  generalize netF (ofParts a b c d e f g) = nf at *
                  clear hz hok HNG
                  go_upto_region 19 with (go_at_call 52; refine cargs (by simp [Act.eval]) ((HNF.out _).mono ?_); rintro e3 w3 ⟨rfl, hb3⟩)
                  have HI4 := Lib.hid (HI2.out.kept hb3)
                  obtain ⟨u0, u1, u2, u3, gz⟩ := HI4.out.resf
                  obtain ⟨y0, y1, y2, y3⟩ := store4 HI4.out.res (.int .u32 0) (.int .i64 0) (.int .i64 0) (.int .i64 0)
                  have HB := Lib.hid (below_store4 HI4.out.bel (Nat.le_refl _) (.int .u32 0) (.int .i64 0) (.int .i64 0) (.int .i64 0))
                  have gz0 := gz 0
                  have gz1 := gz 1
                  have gz2 := gz 2
                  have gz3 := gz 3
                  clear gz hb3
                  go_wp2_with fail
                  try simp only [Exit.inBlock, Exit.then]
                  refine bodyPost_ret (by simp [results, Tryz.results75, go_sem, y0, y1, y2, y3]; try rfl) rfl ?_
                  exact ⟨none, HF.out, rfl, HB.out⟩
end Go.Proofs.YtmgngapkgcofnaaGreatDoor
