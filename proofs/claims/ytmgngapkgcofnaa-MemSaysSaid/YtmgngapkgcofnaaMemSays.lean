/- For every list of acts the law MemSays returns true, and the list reads as it did: memory answers what the reference's does, act for act, and has what it has. No condition. -/
import Derived.Test.YtmgngapkgcofnaaMemSaysW
import Derived.Deep.RegionHeld3
namespace Go.Proofs.Ytmgngapkgcofnaa
open Go.RowKit Go.PlainAid

set_option linter.unusedSimpArgs false in
set_option maxRecDepth 100000 in
set_option maxHeartbeats 4000000 in
theorem memSays_walk (v : Value) (l : List ActD) (w : World) (h : ActsSl w w.heap.size v l) :
    Calls Try.prog 6 #[v] w fun e w' => e = .returned (.bool true) ∧ Below w.heap.size w w' := by
  cases hL : lightF l 60 with
  | false =>
    have HL : Hid (∀ w' : World, Below w.heap.size w w' → Calls Try.prog 30 #[v, .int .i64 60] w' fun e w'' => e = .returned (.bool false) ∧ w' = w'') := fun w' hb => by
      have := light_any v l 60 w' ((h.below hb).mono hb.size) (by omega)
      rw [hL] at this; exact this
    clear h hL
    go_enter Try.func6, Try.ntmps6
    go_wp2_with (first
      | (go_at_call 29; refine (stays_any _).mono ?_; rintro e w1 ⟨rfl, hb1⟩)
      | (go_at_call 30; refine (HL.out _ hb1).mono ?_; rintro e w2 ⟨rfl, rfl⟩))
    go_ret
    exact ⟨rfl, hb1⟩
  | true =>
    have HL : Hid (∀ w' : World, Below w.heap.size w w' → Calls Try.prog 30 #[v, .int .i64 60] w' fun e w'' => e = .returned (.bool true) ∧ w' = w'') := fun w' hb => by
      have := light_any v l 60 w' ((h.below hb).mono hb.size) (by omega)
      rw [hL] at this; exact this
    obtain ⟨hlen, hshort⟩ := lightF_len hL
    have HSH := Lib.hid hshort
    obtain ⟨hok, A, c, rfl, hr⟩ := h
    have HOK := Lib.hid hok
    have HR := Lib.hid hr
    have HRN := Lib.hid ref_new
    clear hL hok hr hshort
    go_enter Try.func6, Try.ntmps6
    go_wp2_with (first
      | (go_at_call 29; refine (stays_any _).mono ?_; rintro e w1 ⟨rfl, hb1⟩)
      | (go_at_call 30; refine (HL.out _ hb1).mono ?_; rintro e w2 ⟨rfl, rfl⟩)
      | (go_at_call 31; refine (memNew_any _).mono ?_; rintro e w3 ⟨rfl, hsz, hM, hb3⟩; have HM := Lib.hid hM; clear hM))
    have hs1 := hb1.size
    have HST : Hid (St w (w3.alloc (.cells Try.zeroCells65 65)) w3.heap.size w1.heap.size MemS.new MemS.new) :=
      ⟨(HM.out (fun g => g ≠ w3.heap.size) (by omega)).below ((Below.refl _ _).alloc (Nat.le_refl _) _) (Nat.le_refl _), HRN.out w3,
        (hb1.trans (hb3.mono hs1)).alloc (by omega) _, by omega, hs1⟩
    generalize w3.alloc (.cells Try.zeroCells65 65) = W0 at *
    rw [hsz] at HST
    generalize w1.heap.size = m0 at *
    clear hb3 hb1 HM HRN HL hsz hs1
    generalize m0 + 1 = r at *
    go_loopw [4, 6] (fun mv iv wr => ∃ (k m : Nat) (S : MemS), k ≤ l.length ∧ iv = .int .i64 k ∧ mv = .pointer (some ⟨m, 0, none⟩) ∧ Hid (St w wr r m S S)) (fun _ iv _ => l.length - (intOf iv).toNat)
    case atStart => exact ⟨0, m0, _, Nat.zero_le _, rfl, rfl, HST⟩
    case round =>
      obtain ⟨k, m, S, hk, rfl, rfl, hST⟩ := hrel
      by_cases hlt : k < l.length
      · have x1 : (k : Int) < (l.length : Int) := by omega
        have x2 : (0 : Int) ≤ (k : Int) := by omega
        have hl : l[k]? = some l[k] := by simp
        obtain ⟨b, o, rfl, hb, hrow⟩ := HR.out.resolve_left (by intro e; rw [e] at hlt; simp at hlt)
        have hrow1 := hrow.below hST.out.below hb k _ hl
        obtain ⟨W2, hW2, hth, hblk, hbel, hsz2⟩ := row_world wr 67 11 l[k].C actZero rfl
        have hS2 := hST.out.low hbel
        have f0 := hblk.cell (i := 0) (by omega)
        have f1 := hblk.cell (i := 1) (by omega)
        have f2 := hblk.cell (i := 2) (by omega)
        have f3 := hblk.cell (i := 3) (by omega)
        have f4 := hblk.cell (i := 4) (by omega)
        have hsh := HSH.out l[k] (by simp)
        obtain ⟨_, ha0, _, _, _⟩ := HOK.out l[k] (by simp)
        have hrl := l[k].rowOf_C
        have H1 : Hid ((rowOf 11 l[k].C).all (·.oneCell') = true) := rowOf_one fun i hi => by
          have : i = 0 ∨ i = 1 ∨ i = 2 ∨ i = 3 ∨ i = 4 ∨ i = 5 ∨ i = 6 ∨ i = 7 ∨ i = 8 ∨ i = 9 ∨ i = 10 := by omega
          rcases this with rfl | rfl | rfl | rfl | rfl | rfl | rfl | rfl | rfl | rfl | rfl <;> rfl
        have H2 : Hid ((rowOf 11 l[k].C).size = 11) := rowOf_size _ _
        have H3 : Hid ((rowOf 11 l[k].C).toList.length = 11) := by show _ = _; rw [Array.length_toList, rowOf_size]
        rw [← hrl] at hrow1
        have H4 := Lib.hid hrow1
        have HTH := Lib.hid hth
        have HW2 := Lib.hid hW2
        have HS2 := Lib.hid hS2
        have HBLK := Lib.hid hblk
        have HF : Hid (∀ w' : World, w'.heap[wr.heap.size]? = some (.cells (rowOf 11 l[k].C) 67 (0, 0)) → w'.cell? ⟨wr.heap.size, 1, none⟩ = some (.int .i64 l[k].n) ∧ w'.cell? ⟨wr.heap.size, 2, none⟩ = some (.int .u64 l[k].a) ∧ w'.cell? ⟨wr.heap.size, 3, none⟩ = some (.string l[k].s) ∧ w'.cell? ⟨wr.heap.size, 4, none⟩ = some (.bool l[k].wr)) := fun w' h =>
          ⟨BlkAt.cell (C := l[k].C) h (i := 1) (by omega), BlkAt.cell (C := l[k].C) h (i := 2) (by omega), BlkAt.cell (C := l[k].C) h (i := 3) (by omega), BlkAt.cell (C := l[k].C) h (i := 4) (by omega)⟩
        have hmlt := hST.out.mem.rep
        have hSG : SG w W2 r m wr.heap.size (.cells (rowOf 11 l[k].C) 67 (0, 0)) S S := ⟨hS2, hblk, by obtain ⟨_, _, hbb, _⟩ := hST.out.mem.rep; have := hbb.lt; omega, by have := hST.out.ref.lt; omega⟩
        have HSG := Lib.hid hSG
        clear hmlt hSG
        generalize rowOf 11 l[k].C = R at *
        replace f0 : W2.cell? ⟨wr.heap.size, 0, none⟩ = some (.string l[k].kind) := f0
        replace f1 : W2.cell? ⟨wr.heap.size, 1, none⟩ = some (.int .i64 l[k].n) := f1
        replace f2 : W2.cell? ⟨wr.heap.size, 2, none⟩ = some (.int .u64 l[k].a) := f2
        replace f3 : W2.cell? ⟨wr.heap.size, 3, none⟩ = some (.string l[k].s) := f3
        replace f4 : W2.cell? ⟨wr.heap.size, 4, none⟩ = some (.bool l[k].wr) := f4
        obtain ⟨a, ha⟩ : ∃ a : Nat, l[k].a = a := ⟨l[k].a.toNat, by omega⟩
        rw [ha] at f2 HF
        have ha2 : a < 18446744073709551616 := by omega
        clear hrow1 hth hW2 hS2 hblk hrl ha ha0 hrow hST hsz2
        generalize l[k].kind = kind at *
        generalize l[k].n = n at *
        generalize l[k].s = s at *
        generalize l[k].wr = wb at *
        clear hl
        go_upto_region 10 with (first
          | (refine wpList_load_mid rfl 67 (.tmp 46) rfl b (o + k * 11) (by simp [Act.eval, Act.put]) R.toList _ H4.out Try.underlying67 rfl (by rw [H3.out]; exact act_info) ?_)
          | (refine wpList_allocTo rfl 67 rfl (some 7) rfl wr.heap.size rfl (.agg actZero) act_zero actZero rfl ?_)
          | (refine wpList_store_mid rfl 67 (.tmp 7) (.tmp 47) rfl wr.heap.size 0 R (by simp [Act.eval, Act.put]) (by simp [Act.eval, Act.put]) HTH.out (by rw [H2.out]; exact act_info) H1.out ?_; rw [HW2.out]))
        have hD := HSG.out.drew
        cases q0 : (kind.toList == ([109, 97, 112] : List UInt8)) with
        | true =>
          as_aux_lemma =>
            obtain ⟨V, hV⟩ : ∃ V, errV (mapE n) = V := ⟨_, rfl⟩
            obtain ⟨E, hE⟩ : ∃ E, mapE n = E := ⟨_, rfl⟩
            obtain ⟨S', hS'⟩ : ∃ S', mapS S n wb = S' := ⟨_, rfl⟩
            have HA : Hid (∀ w1 S2, SG w w1 r m wr.heap.size (.cells R 67 (0, 0)) S S2 → Calls Try.prog 32 #[.pointer (some ⟨m, 0, none⟩), .int .i64 n, .bool wb] w1 fun e w' => e = .returned V ∧ SG w w' r m wr.heap.size (.cells R 67 (0, 0)) S' S2) := fun w1 S2 h => by
              have := st_map n wb w1 h
              rw [hV, hS'] at this; exact this
            have HB : Hid (∀ w1 S1, SG w w1 r m wr.heap.size (.cells R 67 (0, 0)) S1 S → Calls Try.prog 33 #[.pointer (some ⟨r, 0, none⟩), .int .i64 n, .bool wb] w1 fun e w' => e = .returned (.int .i64 E) ∧ SG w w' r m wr.heap.size (.cells R 67 (0, 0)) S1 S') := fun w1 S1 h => by
              have := st_rmap n wb w1 h
              rw [hE, hS'] at this; exact this
            have HC : Hid (∀ w1 : World, Calls Try.prog 14 #[V, .int .i64 E] w1 fun e w' => e = .returned (.bool true) ∧ w1 = w') := fun w1 => by
              have := same_eq _ w1 (mapE_ge n)
              rw [hV, hE] at this; exact this
            clear hV hE hS'
            go_upto_region 20 with fail
            go_region_held3 (fun w' : World => w'.cell? ⟨wr.heap.size, 1, none⟩ = some (.int .i64 n) ∧ w'.cell? ⟨wr.heap.size, 2, none⟩ = some (.int .u64 a) ∧ w'.cell? ⟨wr.heap.size, 3, none⟩ = some (.string s) ∧ w'.cell? ⟨wr.heap.size, 4, none⟩ = some (.bool wb)) (first | exact HF.out _ hD.blk | exact HF.out _ hst5.blk | exact HF.out _ hst4.blk) (first
              | (go_at_call 32; refine calls_args (by simp [Act.eval]) ((HA.out _ _ (by assumption)).mono ?_); rintro e w4 ⟨rfl, hst4⟩)
              | (go_at_call 33; refine calls_args (by simp [Act.eval]) ((HB.out _ _ (by assumption)).mono ?_); rintro e w5 ⟨rfl, hst5⟩)
              | (go_at_call 14; refine calls_args (by simp [Act.eval]) ((HC.out _).mono ?_); rintro e w6 ⟨rfl, rfl⟩))
            all_goals
              have HSTX := Lib.hid (by first | exact hst5.st | exact hst4.st : St w _ r m S' S')
              clear HS2
              go_upto_region 43 with fail
              by_cases e5 : (k : Int) % 5 = 0
              · have HAS := Lib.hid (asMem_any _ _ _ _ _ HSTX.out)
                go_wp2_with (go_at_call 49; refine calls_args (by simp [Act.eval]) (HAS.out.mono ?_); rintro e w9 ⟨rfl, rfl⟩)
                go_roundw
                case rel => exact ⟨k + 1, m, S', by omega, by go_num, rfl, HSTX⟩
                case measure => simp [intOf]; omega
              · go_wp2_with fail
                go_roundw
                case rel => exact ⟨k + 1, m, S', by omega, by go_num, rfl, HSTX⟩
                case measure => simp [intOf]; omega
        | false =>
          cases q1 : (kind.toList == ([117, 110, 109, 97, 112] : List UInt8)) with
          | true =>
            as_aux_lemma =>
              obtain ⟨V, hV⟩ : ∃ V, errV (unmapE S n) = V := ⟨_, rfl⟩
              obtain ⟨E, hE⟩ : ∃ E, unmapE S n = E := ⟨_, rfl⟩
              obtain ⟨S', hS'⟩ : ∃ S', unmapS S n = S' := ⟨_, rfl⟩
              have HA : Hid (∀ w1 S2, SG w w1 r m wr.heap.size (.cells R 67 (0, 0)) S S2 → Calls Try.prog 34 #[.pointer (some ⟨m, 0, none⟩), .int .i64 n] w1 fun e w' => e = .returned V ∧ SG w w' r m wr.heap.size (.cells R 67 (0, 0)) S' S2) := fun w1 S2 h => by
                have := st_unmap n w1 h
                rw [hV, hS'] at this; exact this
              have HB : Hid (∀ w1 S1, SG w w1 r m wr.heap.size (.cells R 67 (0, 0)) S1 S → Calls Try.prog 35 #[.pointer (some ⟨r, 0, none⟩), .int .i64 n] w1 fun e w' => e = .returned (.int .i64 E) ∧ SG w w' r m wr.heap.size (.cells R 67 (0, 0)) S1 S') := fun w1 S1 h => by
                have := st_runmap n w1 h
                rw [hE, hS'] at this; exact this
              have HC : Hid (∀ w1 : World, Calls Try.prog 14 #[V, .int .i64 E] w1 fun e w' => e = .returned (.bool true) ∧ w1 = w') := fun w1 => by
                have := same_eq _ w1 (unmapE_ge S n)
                rw [hV, hE] at this; exact this
              clear hV hE hS'
              go_upto_region 22 with fail
              go_region_held3 (fun w' : World => w'.cell? ⟨wr.heap.size, 1, none⟩ = some (.int .i64 n) ∧ w'.cell? ⟨wr.heap.size, 2, none⟩ = some (.int .u64 a) ∧ w'.cell? ⟨wr.heap.size, 3, none⟩ = some (.string s) ∧ w'.cell? ⟨wr.heap.size, 4, none⟩ = some (.bool wb)) (first | exact HF.out _ hD.blk | exact HF.out _ hst5.blk | exact HF.out _ hst4.blk) (first
                | (go_at_call 34; refine calls_args (by simp [Act.eval]) ((HA.out _ _ (by assumption)).mono ?_); rintro e w4 ⟨rfl, hst4⟩)
                | (go_at_call 35; refine calls_args (by simp [Act.eval]) ((HB.out _ _ (by assumption)).mono ?_); rintro e w5 ⟨rfl, hst5⟩)
                | (go_at_call 14; refine calls_args (by simp [Act.eval]) ((HC.out _).mono ?_); rintro e w6 ⟨rfl, rfl⟩))
              all_goals
                have HSTX := Lib.hid (by first | exact hst5.st | exact hst4.st : St w _ r m S' S')
                clear HS2
                go_upto_region 43 with fail
                by_cases e5 : (k : Int) % 5 = 0
                · have HAS := Lib.hid (asMem_any _ _ _ _ _ HSTX.out)
                  go_wp2_with (go_at_call 49; refine calls_args (by simp [Act.eval]) (HAS.out.mono ?_); rintro e w9 ⟨rfl, rfl⟩)
                  go_roundw
                  case rel => exact ⟨k + 1, m, S', by omega, by go_num, rfl, HSTX⟩
                  case measure => simp [intOf]; omega
                · go_wp2_with fail
                  go_roundw
                  case rel => exact ⟨k + 1, m, S', by omega, by go_num, rfl, HSTX⟩
                  case measure => simp [intOf]; omega
          | false =>
            cases q2 : (kind.toList == ([112, 117, 116] : List UInt8)) with
            | true =>
              as_aux_lemma =>
                have hs4 : s.size ≤ 4096 := by omega
                obtain ⟨V, hV⟩ : ∃ V, errV (putE S a s.size) = V := ⟨_, rfl⟩
                obtain ⟨E, hE⟩ : ∃ E, putE S a s.size = E := ⟨_, rfl⟩
                obtain ⟨S', hS'⟩ : ∃ S', putS S a s = S' := ⟨_, rfl⟩
                have HA : Hid (∀ w1 S2, SG w w1 r m wr.heap.size (.cells R 67 (0, 0)) S S2 → Calls Try.prog 36 #[.pointer (some ⟨m, 0, none⟩), .int .u64 a, .string s] w1 fun e w' => e = .returned V ∧ SG w w' r m wr.heap.size (.cells R 67 (0, 0)) S' S2) := fun w1 S2 h => by
                  have := st_put a s hs4 w1 h
                  rw [hV, hS'] at this; exact this
                have HB : Hid (∀ w1 S1, SG w w1 r m wr.heap.size (.cells R 67 (0, 0)) S1 S → Calls Try.prog 37 #[.pointer (some ⟨r, 0, none⟩), .int .u64 a, .string s] w1 fun e w' => e = .returned (.int .i64 E) ∧ SG w w' r m wr.heap.size (.cells R 67 (0, 0)) S1 S') := fun w1 S1 h => by
                  have := st_rput a s hs4 w1 h
                  rw [hE, hS'] at this; exact this
                have HC : Hid (∀ w1 : World, Calls Try.prog 14 #[V, .int .i64 E] w1 fun e w' => e = .returned (.bool true) ∧ w1 = w') := fun w1 => by
                  have := same_eq _ w1 (putE_ge S a s.size)
                  rw [hV, hE] at this; exact this
                clear hV hE hS'
                go_upto_region 24 with fail
                go_region_held3 (fun w' : World => w'.cell? ⟨wr.heap.size, 1, none⟩ = some (.int .i64 n) ∧ w'.cell? ⟨wr.heap.size, 2, none⟩ = some (.int .u64 a) ∧ w'.cell? ⟨wr.heap.size, 3, none⟩ = some (.string s) ∧ w'.cell? ⟨wr.heap.size, 4, none⟩ = some (.bool wb)) (first | exact HF.out _ hD.blk | exact HF.out _ hst5.blk | exact HF.out _ hst4.blk) (first
                  | (go_at_call 36; refine calls_args (by simp [Act.eval]) ((HA.out _ _ (by assumption)).mono ?_); rintro e w4 ⟨rfl, hst4⟩)
                  | (go_at_call 37; refine calls_args (by simp [Act.eval]) ((HB.out _ _ (by assumption)).mono ?_); rintro e w5 ⟨rfl, hst5⟩)
                  | (go_at_call 14; refine calls_args (by simp [Act.eval]) ((HC.out _).mono ?_); rintro e w6 ⟨rfl, rfl⟩))
                all_goals
                  have HSTX := Lib.hid (by first | exact hst5.st | exact hst4.st : St w _ r m S' S')
                  clear HS2
                  go_upto_region 43 with fail
                  by_cases e5 : (k : Int) % 5 = 0
                  · have HAS := Lib.hid (asMem_any _ _ _ _ _ HSTX.out)
                    go_wp2_with (go_at_call 49; refine calls_args (by simp [Act.eval]) (HAS.out.mono ?_); rintro e w9 ⟨rfl, rfl⟩)
                    go_roundw
                    case rel => exact ⟨k + 1, m, S', by omega, by go_num, rfl, HSTX⟩
                    case measure => simp [intOf]; omega
                  · go_wp2_with fail
                    go_roundw
                    case rel => exact ⟨k + 1, m, S', by omega, by go_num, rfl, HSTX⟩
                    case measure => simp [intOf]; omega
            | false =>
              cases q3 : (kind.toList == ([103, 101, 116] : List UInt8)) with
              | true =>
                as_aux_lemma =>
                  have hge := getP_ge (byteS S) a n
                  obtain ⟨X, hX⟩ : ∃ X, (getP (byteS S) a n).1 = X := ⟨_, rfl⟩
                  obtain ⟨E, hE⟩ : ∃ E, (getP (byteS S) a n).2 = E := ⟨_, rfl⟩
                  obtain ⟨V, hV⟩ : ∃ V, errV E = V := ⟨_, rfl⟩
                  have HA : Hid (∀ w1 S2, SG w w1 r m wr.heap.size (.cells R 67 (0, 0)) S S2 → Calls Try.prog 38 #[.pointer (some ⟨m, 0, none⟩), .int .u64 a, .int .i64 n] w1 fun e w' => e = .returned (.tuple #[.string X, V]) ∧ SG w w' r m wr.heap.size (.cells R 67 (0, 0)) S S2) := fun w1 S2 h => by
                    have := st_get a n w1 h
                    rw [hX, hE, hV] at this; exact this
                  have HB : Hid (∀ w1 S1, SG w w1 r m wr.heap.size (.cells R 67 (0, 0)) S1 S → Calls Try.prog 39 #[.pointer (some ⟨r, 0, none⟩), .int .u64 a, .int .i64 n] w1 fun e w' => e = .returned (.tuple #[.string X, .int .i64 E]) ∧ SG w w' r m wr.heap.size (.cells R 67 (0, 0)) S1 S) := fun w1 S1 h => by
                    have := st_rget a n w1 h
                    rw [hX, hE] at this; exact this
                  have HC : Hid (∀ w1 : World, Calls Try.prog 14 #[V, .int .i64 E] w1 fun e w' => e = .returned (.bool true) ∧ w1 = w') := fun w1 => by
                    have := same_eq E w1 (by rw [← hE]; exact hge)
                    rw [hV] at this; exact this
                  clear hge hX hV hE
                  have hxx : (X.toList == X.toList) = true := by simp
                  go_upto_region 43 with (first
                    | (go_at_call 38; refine calls_args (by simp [Act.eval]) ((HA.out _ _ HSG.out).mono ?_); rintro e w4 ⟨rfl, hst4⟩; obtain ⟨z1, z2, z3, z4⟩ := HF.out _ hst4.blk)
                    | (go_at_call 39; refine calls_args (by simp [Act.eval]) ((HB.out _ _ hst4).mono ?_); rintro e w5 ⟨rfl, hst5⟩; obtain ⟨y1, y2, y3, y4⟩ := HF.out _ hst5.blk)
                    | (go_at_call 14; refine calls_args (by simp [Act.eval]) ((HC.out _).mono ?_); rintro e w6 ⟨rfl, rfl⟩))
                  have HSTX := Lib.hid hst5.st
                  clear HS2
                  go_upto_region 43 with fail
                  by_cases e5 : (k : Int) % 5 = 0
                  · have HAS := Lib.hid (asMem_any _ _ _ _ _ HSTX.out)
                    go_wp2_with (go_at_call 49; refine calls_args (by simp [Act.eval]) (HAS.out.mono ?_); rintro e w9 ⟨rfl, rfl⟩)
                    go_roundw
                    case rel => exact ⟨k + 1, m, S, by omega, by go_num, rfl, HSTX⟩
                    case measure => simp [intOf]; omega
                  · go_wp2_with fail
                    go_roundw
                    case rel => exact ⟨k + 1, m, S, by omega, by go_num, rfl, HSTX⟩
                    case measure => simp [intOf]; omega
              | false =>
                cases q4 : (kind.toList == ([116, 101, 120, 116] : List UInt8)) with
                | true =>
                  as_aux_lemma =>
                    have hge := textP_ge (byteS S) a
                    obtain ⟨X, hX⟩ : ∃ X, (textP (byteS S) a).1 = X := ⟨_, rfl⟩
                    obtain ⟨E, hE⟩ : ∃ E, (textP (byteS S) a).2 = E := ⟨_, rfl⟩
                    obtain ⟨V, hV⟩ : ∃ V, errV E = V := ⟨_, rfl⟩
                    have HA : Hid (∀ w1 S2, SG w w1 r m wr.heap.size (.cells R 67 (0, 0)) S S2 → Calls Try.prog 40 #[.pointer (some ⟨m, 0, none⟩), .int .u64 a] w1 fun e w' => e = .returned (.tuple #[.string X, V]) ∧ SG w w' r m wr.heap.size (.cells R 67 (0, 0)) S S2) := fun w1 S2 h => by
                      have := st_text a w1 h
                      rw [hX, hE, hV] at this; exact this
                    have HB : Hid (∀ w1 S1, SG w w1 r m wr.heap.size (.cells R 67 (0, 0)) S1 S → Calls Try.prog 41 #[.pointer (some ⟨r, 0, none⟩), .int .u64 a] w1 fun e w' => e = .returned (.tuple #[.string X, .int .i64 E]) ∧ SG w w' r m wr.heap.size (.cells R 67 (0, 0)) S1 S) := fun w1 S1 h => by
                      have := st_rtext a w1 h
                      rw [hX, hE] at this; exact this
                    have HC : Hid (∀ w1 : World, Calls Try.prog 14 #[V, .int .i64 E] w1 fun e w' => e = .returned (.bool true) ∧ w1 = w') := fun w1 => by
                      have := same_eq E w1 (by rw [← hE]; exact hge)
                      rw [hV] at this; exact this
                    clear hge hX hV hE
                    have hxx : (X.toList == X.toList) = true := by simp
                    go_upto_region 43 with (first
                      | (go_at_call 40; refine calls_args (by simp [Act.eval]) ((HA.out _ _ HSG.out).mono ?_); rintro e w4 ⟨rfl, hst4⟩; obtain ⟨z1, z2, z3, z4⟩ := HF.out _ hst4.blk)
                      | (go_at_call 41; refine calls_args (by simp [Act.eval]) ((HB.out _ _ hst4).mono ?_); rintro e w5 ⟨rfl, hst5⟩; obtain ⟨y1, y2, y3, y4⟩ := HF.out _ hst5.blk)
                      | (go_at_call 14; refine calls_args (by simp [Act.eval]) ((HC.out _).mono ?_); rintro e w6 ⟨rfl, rfl⟩))
                    have HSTX := Lib.hid hst5.st
                    clear HS2
                    go_upto_region 43 with fail
                    by_cases e5 : (k : Int) % 5 = 0
                    · have HAS := Lib.hid (asMem_any _ _ _ _ _ HSTX.out)
                      go_wp2_with (go_at_call 49; refine calls_args (by simp [Act.eval]) (HAS.out.mono ?_); rintro e w9 ⟨rfl, rfl⟩)
                      go_roundw
                      case rel => exact ⟨k + 1, m, S, by omega, by go_num, rfl, HSTX⟩
                      case measure => simp [intOf]; omega
                    · go_wp2_with fail
                      go_roundw
                      case rel => exact ⟨k + 1, m, S, by omega, by go_num, rfl, HSTX⟩
                      case measure => simp [intOf]; omega
                | false =>
                  cases q5 : (kind.toList == ([115, 101, 97, 108] : List UInt8)) with
                  | true =>
                    as_aux_lemma =>
                      have hge := sealX_ge S s
                      obtain ⟨X, hX⟩ : ∃ X, (sealX S s).1 = X := ⟨_, rfl⟩
                      obtain ⟨E, hE⟩ : ∃ E, (sealX S s).2 = E := ⟨_, rfl⟩
                      obtain ⟨V, hV⟩ : ∃ V, errV E = V := ⟨_, rfl⟩
                      obtain ⟨S', hS'⟩ : ∃ S', sealS S s = S' := ⟨_, rfl⟩
                      have HA : Hid (∀ w1 S2, SG w w1 r m wr.heap.size (.cells R 67 (0, 0)) S S2 → Calls Try.prog 42 #[.pointer (some ⟨m, 0, none⟩), .string s] w1 fun e w' => e = .returned (.tuple #[.int .u64 X, V]) ∧ SG w w' r m wr.heap.size (.cells R 67 (0, 0)) S' S2) := fun w1 S2 h => by
                        have := st_seal s w1 h
                        rw [hX, hE, hV, hS'] at this; exact this
                      have HB : Hid (∀ w1 S1, SG w w1 r m wr.heap.size (.cells R 67 (0, 0)) S1 S → Calls Try.prog 43 #[.pointer (some ⟨r, 0, none⟩), .string s] w1 fun e w' => e = .returned (.tuple #[.int .u64 X, .int .i64 E]) ∧ SG w w' r m wr.heap.size (.cells R 67 (0, 0)) S1 S') := fun w1 S1 h => by
                        have := st_rseal s w1 h
                        rw [hX, hE, hS'] at this; exact this
                      have HC : Hid (∀ w1 : World, Calls Try.prog 14 #[V, .int .i64 E] w1 fun e w' => e = .returned (.bool true) ∧ w1 = w') := fun w1 => by
                        have := same_eq E w1 (by rw [← hE]; exact hge)
                        rw [hV] at this; exact this
                      clear hge hX hV hE hS'
                      have hxx : (X == X) = true := by simp
                      go_upto_region 43 with (first
                        | (go_at_call 42; refine calls_args (by simp [Act.eval]) ((HA.out _ _ HSG.out).mono ?_); rintro e w4 ⟨rfl, hst4⟩; obtain ⟨z1, z2, z3, z4⟩ := HF.out _ hst4.blk)
                        | (go_at_call 43; refine calls_args (by simp [Act.eval]) ((HB.out _ _ hst4).mono ?_); rintro e w5 ⟨rfl, hst5⟩; obtain ⟨y1, y2, y3, y4⟩ := HF.out _ hst5.blk)
                        | (go_at_call 14; refine calls_args (by simp [Act.eval]) ((HC.out _).mono ?_); rintro e w6 ⟨rfl, rfl⟩))
                      have HSTX := Lib.hid hst5.st
                      clear HS2
                      go_upto_region 43 with fail
                      by_cases e5 : (k : Int) % 5 = 0
                      · have HAS := Lib.hid (asMem_any _ _ _ _ _ HSTX.out)
                        go_wp2_with (go_at_call 49; refine calls_args (by simp [Act.eval]) (HAS.out.mono ?_); rintro e w9 ⟨rfl, rfl⟩)
                        go_roundw
                        case rel => exact ⟨k + 1, m, S', by omega, by go_num, rfl, HSTX⟩
                        case measure => simp [intOf]; omega
                      · go_wp2_with fail
                        go_roundw
                        case rel => exact ⟨k + 1, m, S', by omega, by go_num, rfl, HSTX⟩
                        case measure => simp [intOf]; omega
                  | false =>
                    cases q6 : (kind.toList == ([102, 114, 101, 101] : List UInt8)) with
                    | true =>
                      as_aux_lemma =>
                        obtain ⟨V, hV⟩ : ∃ V, errV (freeE S a) = V := ⟨_, rfl⟩
                        obtain ⟨E, hE⟩ : ∃ E, freeE S a = E := ⟨_, rfl⟩
                        obtain ⟨S', hS'⟩ : ∃ S', freeS S a = S' := ⟨_, rfl⟩
                        have HA : Hid (∀ w1 S2, SG w w1 r m wr.heap.size (.cells R 67 (0, 0)) S S2 → Calls Try.prog 44 #[.pointer (some ⟨m, 0, none⟩), .int .u64 a] w1 fun e w' => e = .returned V ∧ SG w w' r m wr.heap.size (.cells R 67 (0, 0)) S' S2) := fun w1 S2 h => by
                          have := st_free a ha2 w1 h
                          rw [hV, hS'] at this; exact this
                        have HB : Hid (∀ w1 S1, SG w w1 r m wr.heap.size (.cells R 67 (0, 0)) S1 S → Calls Try.prog 45 #[.pointer (some ⟨r, 0, none⟩), .int .u64 a] w1 fun e w' => e = .returned (.int .i64 E) ∧ SG w w' r m wr.heap.size (.cells R 67 (0, 0)) S1 S') := fun w1 S1 h => by
                          have := st_rfree a ha2 w1 h
                          rw [hE, hS'] at this; exact this
                        have HC : Hid (∀ w1 : World, Calls Try.prog 14 #[V, .int .i64 E] w1 fun e w' => e = .returned (.bool true) ∧ w1 = w') := fun w1 => by
                          have := same_eq _ w1 (freeE_ge S a)
                          rw [hV, hE] at this; exact this
                        clear hV hE hS'
                        go_upto_region 38 with fail
                        go_region_held3 (fun w' : World => w'.cell? ⟨wr.heap.size, 1, none⟩ = some (.int .i64 n) ∧ w'.cell? ⟨wr.heap.size, 2, none⟩ = some (.int .u64 a) ∧ w'.cell? ⟨wr.heap.size, 3, none⟩ = some (.string s) ∧ w'.cell? ⟨wr.heap.size, 4, none⟩ = some (.bool wb)) (first | exact HF.out _ hD.blk | exact HF.out _ hst5.blk | exact HF.out _ hst4.blk) (first
                          | (go_at_call 44; refine calls_args (by simp [Act.eval]) ((HA.out _ _ (by assumption)).mono ?_); rintro e w4 ⟨rfl, hst4⟩)
                          | (go_at_call 45; refine calls_args (by simp [Act.eval]) ((HB.out _ _ (by assumption)).mono ?_); rintro e w5 ⟨rfl, hst5⟩)
                          | (go_at_call 14; refine calls_args (by simp [Act.eval]) ((HC.out _).mono ?_); rintro e w6 ⟨rfl, rfl⟩))
                        all_goals
                          have HSTX := Lib.hid (by first | exact hst5.st | exact hst4.st : St w _ r m S' S')
                          clear HS2
                          go_upto_region 43 with fail
                          by_cases e5 : (k : Int) % 5 = 0
                          · have HAS := Lib.hid (asMem_any _ _ _ _ _ HSTX.out)
                            go_wp2_with (go_at_call 49; refine calls_args (by simp [Act.eval]) (HAS.out.mono ?_); rintro e w9 ⟨rfl, rfl⟩)
                            go_roundw
                            case rel => exact ⟨k + 1, m, S', by omega, by go_num, rfl, HSTX⟩
                            case measure => simp [intOf]; omega
                          · go_wp2_with fail
                            go_roundw
                            case rel => exact ⟨k + 1, m, S', by omega, by go_num, rfl, HSTX⟩
                            case measure => simp [intOf]; omega
                    | false =>
                      cases q7 : (kind.toList == ([98, 121, 116, 101] : List UInt8)) with
                      | true =>
                        as_aux_lemma =>
                          have hge := byteP_ge S a
                          obtain ⟨X, hX⟩ : ∃ X, (byteP S a).1 = X := ⟨_, rfl⟩
                          obtain ⟨E, hE⟩ : ∃ E, (byteP S a).2 = E := ⟨_, rfl⟩
                          obtain ⟨V, hV⟩ : ∃ V, errV E = V := ⟨_, rfl⟩
                          have HA : Hid (∀ w1 S2, SG w w1 r m wr.heap.size (.cells R 67 (0, 0)) S S2 → Calls Try.prog 46 #[.pointer (some ⟨m, 0, none⟩), .int .u64 a] w1 fun e w' => e = .returned (.tuple #[.int .u8 X, V]) ∧ SG w w' r m wr.heap.size (.cells R 67 (0, 0)) S S2) := fun w1 S2 h => by
                            have : Calls _ _ _ _ _ := (st_byte a ha2 w1 h).mono fun e w' ⟨h1, h2⟩ => (show e = _ ∧ SG w w' r m wr.heap.size (.cells R 67 (0, 0)) S S2 from ⟨h1, h2 ▸ h⟩)
                            rw [hX, hE, hV] at this; exact this
                          have HB : Hid (∀ w1 S1, SG w w1 r m wr.heap.size (.cells R 67 (0, 0)) S1 S → Calls Try.prog 47 #[.pointer (some ⟨r, 0, none⟩), .int .u64 a] w1 fun e w' => e = .returned (.tuple #[.int .u8 X, .int .i64 E]) ∧ SG w w' r m wr.heap.size (.cells R 67 (0, 0)) S1 S) := fun w1 S1 h => by
                            have : Calls _ _ _ _ _ := (st_rbyte a ha2 w1 h).mono fun e w' ⟨h1, h2⟩ => (show e = _ ∧ SG w w' r m wr.heap.size (.cells R 67 (0, 0)) S1 S from ⟨h1, h2 ▸ h⟩)
                            rw [hX, hE] at this; exact this
                          have HC : Hid (∀ w1 : World, Calls Try.prog 14 #[V, .int .i64 E] w1 fun e w' => e = .returned (.bool true) ∧ w1 = w') := fun w1 => by
                            have := same_eq E w1 (by rw [← hE]; exact hge)
                            rw [hV] at this; exact this
                          clear hge hX hV hE
                          have hxx : (X == X) = true := by simp
                          go_upto_region 43 with (first
                            | (go_at_call 46; refine calls_args (by simp [Act.eval]) ((HA.out _ _ HSG.out).mono ?_); rintro e w4 ⟨rfl, hst4⟩; obtain ⟨z1, z2, z3, z4⟩ := HF.out _ hst4.blk)
                            | (go_at_call 47; refine calls_args (by simp [Act.eval]) ((HB.out _ _ hst4).mono ?_); rintro e w5 ⟨rfl, hst5⟩; obtain ⟨y1, y2, y3, y4⟩ := HF.out _ hst5.blk)
                            | (go_at_call 14; refine calls_args (by simp [Act.eval]) ((HC.out _).mono ?_); rintro e w6 ⟨rfl, rfl⟩))
                          have HSTX := Lib.hid hst5.st
                          clear HS2
                          go_upto_region 43 with fail
                          by_cases e5 : (k : Int) % 5 = 0
                          · have HAS := Lib.hid (asMem_any _ _ _ _ _ HSTX.out)
                            go_wp2_with (go_at_call 49; refine calls_args (by simp [Act.eval]) (HAS.out.mono ?_); rintro e w9 ⟨rfl, rfl⟩)
                            go_roundw
                            case rel => exact ⟨k + 1, m, S, by omega, by go_num, rfl, HSTX⟩
                            case measure => simp [intOf]; omega
                          · go_wp2_with fail
                            go_roundw
                            case rel => exact ⟨k + 1, m, S, by omega, by go_num, rfl, HSTX⟩
                            case measure => simp [intOf]; omega
                      | false =>
                        as_aux_lemma =>
                          have HCP := Lib.hid (st_copy W2 HS2.out)
                          go_upto_region 43 with (first
                            | (go_at_call 48; refine calls_args (by simp [Act.eval]) (HCP.out.mono ?_); rintro e w4 ⟨c, rfl, hcm, hcp4, hc0, hst4⟩)
                            | (go_at_call 32; refine calls_args (by simp [Act.eval]) ((cp_map 0 true _ hst4 hcp4).mono ?_); rintro e w5 ⟨⟨v5, rfl⟩, hst5, hcp5⟩)
                            | (go_at_call 36; refine calls_args (by simp [Act.eval]) ((cp_put 0 ⟨#[111, 116, 104, 101, 114]⟩ (by decide) _ hst5 hcp5).mono ?_); rintro e w6 ⟨⟨v6, rfl⟩, hst6, hcp6⟩)
                            | (go_at_call 42; refine calls_args (by simp [Act.eval]) ((cp_seal ⟨#[111, 116, 104, 101, 114]⟩ _ hst6 hcp6).mono ?_); rintro e w7 ⟨⟨v7, v8, rfl⟩, hst7, hcp7⟩))
                          have HSTX := Lib.hid (st_to hst7 hcp7 hc0)
                          clear HS2
                          go_upto_region 43 with fail
                          by_cases e5 : (k : Int) % 5 = 0
                          · have HAS := Lib.hid (asMem_any _ _ _ _ _ HSTX.out)
                            go_wp2_with (go_at_call 49; refine calls_args (by simp [Act.eval]) (HAS.out.mono ?_); rintro e w9 ⟨rfl, rfl⟩)
                            go_roundw
                            case rel => exact ⟨k + 1, c, S, by omega, by go_num, rfl, HSTX⟩
                            case measure => simp [intOf]; omega
                          · go_wp2_with fail
                            go_roundw
                            case rel => exact ⟨k + 1, c, S, by omega, by go_num, rfl, HSTX⟩
                            case measure => simp [intOf]; omega
      · obtain rfl : k = l.length := by omega
        have HA := Lib.hid (asMem_any _ _ _ _ _ hST.out)
        go_upto_region 45 with fail
        go_wp2_with (go_at_call 49; refine calls_args (by simp [Act.eval]) (HA.out.mono ?_); rintro e w6 ⟨rfl, rfl⟩)
        go_ret
        exact ⟨rfl, hST.out.below⟩

end Go.Proofs.Ytmgngapkgcofnaa
