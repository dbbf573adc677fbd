/- Memory and the reference's memory side by side; asMem, stays. -/
import Derived.Test.YtmgngapkgcofnaaMemRef2
import Derived.Test.YtmgngapkgcofnaaMemRef4
namespace Go.Proofs.Ytmgngapkgcofnaa
open Go.RowKit Go.PlainAid

theorem MemAt.weaken {w : World} {B B' : Nat → Prop} {m : Nat} {S : MemS} (h : MemAt w B m S) (hB : ∀ g, B g → B' g) : MemAt w B' m S := by
  obtain ⟨h1, h2, C, sp, h3, h4, h5⟩ := h
  refine ⟨hB m h1, h2, C, sp, h3, h4, fun i hi => ?_⟩
  have := h5 i hi
  unfold SealAt at *
  split at this
  · trivial
  · exact ⟨hB _ this.1, this.2⟩
  · exact this.elim
/-- What another block does is nothing to it. -/
theorem MemAt.other {w w' : World} {B : Nat → Prop} {m x : Nat} {S : MemS} (h : MemAt w B m S) (hb : But x w w') (hx : ¬ B x) : MemAt w' B m S := by
  obtain ⟨h1, h2, C, sp, h3, h4, h5⟩ := h
  refine ⟨h1, h2, C, sp, (hb.block m h3.lt (by rintro rfl; exact hx h1)).trans h3, h4, fun i hi => ?_⟩
  have := h5 i hi
  unfold SealAt at *
  split at this
  · trivial
  · exact ⟨this.1, this.2.1, (hb.block _ this.2.2.lt (by rintro rfl; exact hx this.1)).trans this.2.2⟩
  · exact this.elim
theorem But.of_drew {m : Nat} (w : World) : But m w w.drew := ⟨rfl, rfl, rfl, Nat.le_refl _, fun _ _ _ => rfl⟩

/-- Both memories in a world: H: what was there ahead of them stands. -/
structure St (w0 w : World) (r m : Nat) (S1 S2 : MemS) : Prop where
  mem : MemAt w (fun g => g ≠ r) m S1
  ref : RefAt w r S2
  below : Below w0.heap.size w0 w
  rb : w0.heap.size ≤ r
  mb : w0.heap.size ≤ m
theorem St.m {w0 w w' : World} {r m : Nat} {S1 S2 S1' : MemS} (h : St w0 w r m S1 S2) (h1 : MemAt w' (fun g => g ≠ r) m S1') (hb : But m w w') : St w0 w' r m S1' S2 :=
  ⟨h1, h.ref.but hb (fun e => h.mem.base e.symm), h.below.trans (hb.below h.mb h.below.size), h.rb, h.mb⟩
theorem St.r {w0 w w' : World} {r m : Nat} {S1 S2 S2' : MemS} (h : St w0 w r m S1 S2) (h1 : RefAt w' r S2') (hb : But r w w') : St w0 w' r m S1 S2' :=
  ⟨h.mem.other hb (fun e => e rfl), h1, h.below.trans (hb.below h.rb h.below.size), h.rb, h.mb⟩
theorem St.low {w0 w w' : World} {r m : Nat} {S1 S2 : MemS} (h : St w0 w r m S1 S2) (hb : Below w.heap.size w w') : St w0 w' r m S1 S2 :=
  ⟨h.mem.below hb (Nat.le_refl _), h.ref.via hb h.ref.lt, h.below.trans (hb.mono h.below.size), h.rb, h.mb⟩
theorem St.drew {w0 w : World} {r m : Nat} {S1 S2 : MemS} (h : St w0 w r m S1 S2) : St w0 w.drew r m S1 S2 := h.low (Below.refl _ _ |>.trans ⟨rfl, rfl, rfl, Nat.le_refl _, fun _ _ => rfl⟩)

theorem same_eq (n : Int) (w : World) (hn : 0 ≤ n) : Calls Try.prog 14 #[errV n, .int .i64 n] w fun e w' => e = .returned (.bool true) ∧ w = w' := by
  have := same_any n n w hn
  rw [decide_eq_true rfl] at this
  exact this
theorem byteP_ge (S : MemS) (a : Nat) : 0 ≤ (byteP S a).2 := by unfold byteP; cases byteS S a <;> simp

set_option linter.unusedSimpArgs false in
set_option maxHeartbeats 2000000 in
theorem asMem_any (r m : Nat) (S : MemS) (w0 w : World) (h : St w0 w r m S S) :
    Calls Try.prog 49 #[.pointer (some ⟨m, 0, none⟩), .pointer (some ⟨r, 0, none⟩)] w fun e w' => e = .returned (.bool true) ∧ w = w' := by
  have HM := Lib.hid h.mem
  have HR := Lib.hid h.ref
  clear h
  obtain ⟨N, hN⟩ : ∃ N, Hid (cntSl S 4 = N) := ⟨_, rfl⟩
  go_enter Try.func49, Try.ntmps49
  go_wp2_with (first
    | (go_at_call 58; refine (memSealed_any m _ S _ HM.out).mono ?_; rintro e w1 ⟨rfl, rfl⟩; rw [hN.out])
    | (go_at_call 70; refine (refSealed_any r S _ HR.out).mono ?_; rintro e w1 ⟨rfl, rfl⟩; rw [hN.out]))
  go_loop [5] (fun av => ∃ k : Nat, k ≤ 768 ∧ av = .int .u64 k) (fun av => 768 - (intOf av).toNat)
  case atStart => exact ⟨0, Nat.zero_le _, rfl⟩
  case round =>
    obtain ⟨k, hk, rfl⟩ := hrel
    by_cases hlt : k < 768
    · have x1 : (k : Int) < 768 := by omega
      have x2 : (0 : Int) ≤ (k : Int) := by omega
      have hk2 : k < 18446744073709551616 := by omega
      have hge := byteP_ge S k
      have hV := byteV_P S k
      obtain ⟨x, hx⟩ : ∃ x, (byteP S k).1 = x := ⟨_, rfl⟩
      obtain ⟨f, hf⟩ : ∃ f, (byteP S k).2 = f := ⟨_, rfl⟩
      obtain ⟨V, hVV⟩ : ∃ V, errV f = V := ⟨_, rfl⟩
      have HS : Hid (∀ w : World, Calls Try.prog 14 #[V, .int .i64 f] w fun e w' => e = .returned (.bool true) ∧ w = w') := fun w => by
        have := same_eq f w (by rw [← hf]; exact hge)
        rw [hVV] at this; exact this
      have HB : Hid (∀ w, MemAt w (fun g => g ≠ r) m S → Calls Try.prog 46 #[.pointer (some ⟨m, 0, none⟩), .int .u64 k] w fun e w' => e = .returned (.tuple #[.int .u8 x, V]) ∧ w = w') := fun w h => by
        have := memByte_any m _ S k w h hk2
        rw [hV, hx, hf, hVV] at this; exact this
      have HB2 : Hid (∀ w, RefAt w r S → Calls Try.prog 47 #[.pointer (some ⟨r, 0, none⟩), .int .u64 k] w fun e w' => e = .returned (.tuple #[.int .u8 x, .int .i64 f]) ∧ w = w') := fun w h => by
        have := refByte_any r S k w h hk2
        rw [hx, hf] at this; exact this
      clear hge hV hx hf hVV
      go_wp2_with (first
        | (go_at_call 46; refine (HB.out _ HM.out).mono ?_; rintro e w1 ⟨rfl, rfl⟩)
        | (go_at_call 47; refine (HB2.out _ HR.out).mono ?_; rintro e w1 ⟨rfl, rfl⟩)
        | (go_at_call 14; refine (HS.out _).mono ?_; rintro e w1 ⟨rfl, rfl⟩))
      go_round
      case rel => exact ⟨k + 1, by omega, by go_num⟩
      case measure => simp [intOf]; omega
    · obtain rfl : k = 768 := by omega
      go_wp2_with fail
      go_ret
      exact ⟨rfl, rfl⟩

def hel : ByteArray := ⟨#[104, 101, 108, 108, 111]⟩
theorem hel_put : putS (mapS MemS.new 1 true) 70 hel = putN (mapS MemS.new 1 true) 70 (bt hel) 5 := by rfl
theorem hel_e : putE (mapS MemS.new 1 true) 70 hel.size = 0 := by decide +kernel
theorem hel_t : textP (byteS (putS (mapS MemS.new 1 true) 70 hel)) 70 = (hel, 0) := by decide +kernel
set_option linter.unusedSimpArgs false in
set_option maxHeartbeats 2000000 in
theorem stays_any (w : World) :
    Calls Try.prog 29 #[] w fun e w' => e = .returned (.bool true) ∧ Below w.heap.size w w' := by
  have hm1 : Hid (errV (mapE 1) = .nilIface) := rfl
  have hp1 : Hid (errV (putE (mapS MemS.new 1 true) 70 hel.size) = .nilIface) := by show _ = _; rw [hel_e]; rfl
  have ht1 : Hid (textV (byteS (putS (mapS MemS.new 1 true) 70 hel)) (70 : Nat) = .tuple #[.string hel, .nilIface]) := by show _ = _; rw [textV_P, hel_t]; rfl
  have hhel : hel.size ≤ 4096 := by decide
  have HH : Hid (hel = ⟨#[104, 101, 108, 108, 111]⟩) := rfl
  have HSM : Hid (∀ w : World, Calls Try.prog 14 #[.nilIface, .int .i64 0] w fun e w' => e = .returned (.bool true) ∧ w = w') := fun w => same_eq 0 w (by omega)
  go_enter Try.func29, Try.ntmps29
  go_wp2_with (first
    | (go_at_call 31; refine (memNew_any _).mono ?_; rintro e w1 ⟨rfl, hsz, hM, hb⟩; have hM1 := Lib.hid (hM (fun _ => True) trivial); clear hM)
    | (go_at_call 32; refine (memMap_any _ _ _ _ _ _ hM1.out).mono ?_; rintro e w2 ⟨rfl, hM2', hb2⟩; have hM2 := Lib.hid hM2'; clear hM2'; rw [hm1.out])
    | (go_at_call 36; refine (memPut_any _ _ _ 70 hel _ hM2.out hhel).mono ?_; rintro e w3 ⟨rfl, hM3', hb3⟩; have hM3 := Lib.hid hM3'; clear hM3'; rw [hp1.out])
    | (go_at_call 40; refine (memText_any _ _ _ 70 _ hM3.out).mono ?_; rintro e w4 ⟨rfl, hb4⟩; rw [ht1.out, HH.out])
    | (go_at_call 14; refine (HSM.out _).mono ?_; rintro e w5 ⟨rfl, rfl⟩))
  go_ret
  have hs2 := hb2.size
  have hs3 := hb3.size
  exact ⟨rfl, ((hb.trans (hb2.below (Nat.le_refl _) (by omega))).trans (hb3.below (Nat.le_refl _) (by omega))).trans (hb4.mono (by omega))⟩

end Go.Proofs.Ytmgngapkgcofnaa
