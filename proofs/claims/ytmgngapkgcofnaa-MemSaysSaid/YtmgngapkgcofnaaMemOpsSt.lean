/- The acts on both memories, by their contracts. -/
import Derived.Test.YtmgngapkgcofnaaMemLaw
import Derived.Test.YtmgngapkgcofnaaActs
namespace Go.Proofs.Ytmgngapkgcofnaa
open Go.RowKit Go.PlainAid

/-- Both memories, and a block that neither touches. -/
structure SG (w0 w : World) (r m g : Nat) (o : Obj) (S1 S2 : MemS) : Prop where
  st : St w0 w r m S1 S2
  blk : w.heap[g]? = some o
  gm : g ≠ m
  gr : g ≠ r
theorem heap_lt {w : World} {g : Nat} {o : Obj} (h : w.heap[g]? = some o) : g < w.heap.size := by
  rcases Nat.lt_or_ge g w.heap.size with h1 | h1
  · exact h1
  · simp [Array.getElem?_eq_none h1] at h
theorem SG.m {w0 w w' : World} {r m g : Nat} {o : Obj} {S1 S2 S1' : MemS} (h : SG w0 w r m g o S1 S2) (h1 : MemAt w' (fun g => g ≠ r) m S1') (hb : But m w w') : SG w0 w' r m g o S1' S2 :=
  ⟨h.st.m h1 hb, (hb.block g (heap_lt h.blk) h.gm).trans h.blk, h.gm, h.gr⟩
theorem SG.r {w0 w w' : World} {r m g : Nat} {o : Obj} {S1 S2 S2' : MemS} (h : SG w0 w r m g o S1 S2) (h1 : RefAt w' r S2') (hb : But r w w') : SG w0 w' r m g o S1 S2' :=
  ⟨h.st.r h1 hb, (hb.block g (heap_lt h.blk) h.gr).trans h.blk, h.gm, h.gr⟩
theorem SG.low {w0 w w' : World} {r m g : Nat} {o : Obj} {S1 S2 : MemS} (h : SG w0 w r m g o S1 S2) (hb : Below w.heap.size w w') : SG w0 w' r m g o S1 S2 :=
  ⟨h.st.low hb, (hb.block g (heap_lt h.blk)).trans h.blk, h.gm, h.gr⟩
theorem SG.drew {w0 w : World} {r m g : Nat} {o : Obj} {S1 S2 : MemS} (h : SG w0 w r m g o S1 S2) : SG w0 w.drew r m g o S1 S2 := ⟨h.st.drew, h.blk, h.gm, h.gr⟩

section
variable {w0 : World} {r m g : Nat} {o : Obj} {S1 S2 : MemS}
theorem st_map (n : Int) (wr : Bool) (w : World) (h : SG w0 w r m g o S1 S2) : Calls Try.prog 32 #[.pointer (some ⟨m, 0, none⟩), .int .i64 n, .bool wr] w fun e w' => e = .returned (errV (mapE n)) ∧ SG w0 w' r m g o (mapS S1 n wr) S2 :=
  (memMap_any m _ S1 n wr w h.st.mem).mono fun _ _ ⟨h1, h2, h3⟩ => ⟨h1, h.m h2 h3⟩
theorem st_rmap (n : Int) (wr : Bool) (w : World) (h : SG w0 w r m g o S1 S2) : Calls Try.prog 33 #[.pointer (some ⟨r, 0, none⟩), .int .i64 n, .bool wr] w fun e w' => e = .returned (.int .i64 (mapE n)) ∧ SG w0 w' r m g o S1 (mapS S2 n wr) :=
  (refMap_any r S2 n wr w h.st.ref).mono fun _ _ ⟨h1, h2, h3⟩ => ⟨h1, h.r h2 h3⟩
theorem st_unmap (n : Int) (w : World) (h : SG w0 w r m g o S1 S2) : Calls Try.prog 34 #[.pointer (some ⟨m, 0, none⟩), .int .i64 n] w fun e w' => e = .returned (errV (unmapE S1 n)) ∧ SG w0 w' r m g o (unmapS S1 n) S2 :=
  (memUnmap_any m _ S1 n w h.st.mem).mono fun _ _ ⟨h1, h2, h3⟩ => ⟨h1, h.m h2 h3⟩
theorem st_runmap (n : Int) (w : World) (h : SG w0 w r m g o S1 S2) : Calls Try.prog 35 #[.pointer (some ⟨r, 0, none⟩), .int .i64 n] w fun e w' => e = .returned (.int .i64 (unmapE S2 n)) ∧ SG w0 w' r m g o S1 (unmapS S2 n) :=
  (refUnmap_any r S2 n w h.st.ref).mono fun _ _ ⟨h1, h2, h3⟩ => ⟨h1, h.r h2 h3⟩
theorem st_put (a : Nat) (s : ByteArray) (hs : s.size ≤ 4096) (w : World) (h : SG w0 w r m g o S1 S2) : Calls Try.prog 36 #[.pointer (some ⟨m, 0, none⟩), .int .u64 a, .string s] w fun e w' => e = .returned (errV (putE S1 a s.size)) ∧ SG w0 w' r m g o (putS S1 a s) S2 :=
  (memPut_any m _ S1 a s w h.st.mem hs).mono fun _ _ ⟨h1, h2, h3⟩ => ⟨h1, h.m h2 h3⟩
theorem st_rput (a : Nat) (s : ByteArray) (hs : s.size ≤ 4096) (w : World) (h : SG w0 w r m g o S1 S2) : Calls Try.prog 37 #[.pointer (some ⟨r, 0, none⟩), .int .u64 a, .string s] w fun e w' => e = .returned (.int .i64 (putE S2 a s.size)) ∧ SG w0 w' r m g o S1 (putS S2 a s) :=
  (refPut_any r S2 a s w h.st.ref hs).mono fun _ _ ⟨h1, h2, h3⟩ => ⟨h1, h.r h2 h3⟩
theorem st_get (a : Nat) (n : Int) (w : World) (h : SG w0 w r m g o S1 S2) : Calls Try.prog 38 #[.pointer (some ⟨m, 0, none⟩), .int .u64 a, .int .i64 n] w fun e w' => e = .returned (.tuple #[.string (getP (byteS S1) a n).1, errV (getP (byteS S1) a n).2]) ∧ SG w0 w' r m g o S1 S2 :=
  (memGet_any m _ S1 a n w h.st.mem).mono fun _ _ ⟨h1, h2⟩ => ⟨by rw [h1, getV_P], h.low h2⟩
theorem st_rget (a : Nat) (n : Int) (w : World) (h : SG w0 w r m g o S1 S2) : Calls Try.prog 39 #[.pointer (some ⟨r, 0, none⟩), .int .u64 a, .int .i64 n] w fun e w' => e = .returned (.tuple #[.string (getP (byteS S2) a n).1, .int .i64 (getP (byteS S2) a n).2]) ∧ SG w0 w' r m g o S1 S2 :=
  (refGet_any r S2 a n w h.st.ref).mono fun _ _ ⟨h1, h2⟩ => ⟨h1, h.low h2⟩
theorem st_text (a : Nat) (w : World) (h : SG w0 w r m g o S1 S2) : Calls Try.prog 40 #[.pointer (some ⟨m, 0, none⟩), .int .u64 a] w fun e w' => e = .returned (.tuple #[.string (textP (byteS S1) a).1, errV (textP (byteS S1) a).2]) ∧ SG w0 w' r m g o S1 S2 :=
  (memText_any m _ S1 a w h.st.mem).mono fun _ _ ⟨h1, h2⟩ => ⟨by rw [h1, textV_P], h.low h2⟩
theorem st_rtext (a : Nat) (w : World) (h : SG w0 w r m g o S1 S2) : Calls Try.prog 41 #[.pointer (some ⟨r, 0, none⟩), .int .u64 a] w fun e w' => e = .returned (.tuple #[.string (textP (byteS S2) a).1, .int .i64 (textP (byteS S2) a).2]) ∧ SG w0 w' r m g o S1 S2 :=
  (refText_any r S2 a w h.st.ref).mono fun _ _ ⟨h1, h2⟩ => ⟨h1, h.low h2⟩
theorem st_seal (s : ByteArray) (w : World) (h : SG w0 w r m g o S1 S2) : Calls Try.prog 42 #[.pointer (some ⟨m, 0, none⟩), .string s] w fun e w' => e = .returned (.tuple #[.int .u64 (sealX S1 s).1, errV (sealX S1 s).2]) ∧ SG w0 w' r m g o (sealS S1 s) S2 :=
  (memSeal_any m _ S1 s w h.st.mem (fun g hg e => by have := h.st.ref.lt; omega)).mono fun _ _ ⟨h1, h2, h3⟩ => ⟨h1, h.m h2 h3⟩
theorem st_rseal (s : ByteArray) (w : World) (h : SG w0 w r m g o S1 S2) : Calls Try.prog 43 #[.pointer (some ⟨r, 0, none⟩), .string s] w fun e w' => e = .returned (.tuple #[.int .u64 (sealX S2 s).1, .int .i64 (sealX S2 s).2]) ∧ SG w0 w' r m g o S1 (sealS S2 s) :=
  (refSeal_any r S2 s w h.st.ref).mono fun _ _ ⟨h1, h2, h3⟩ => ⟨h1, h.r h2 h3⟩
theorem st_free (a : Nat) (ha : a < 18446744073709551616) (w : World) (h : SG w0 w r m g o S1 S2) : Calls Try.prog 44 #[.pointer (some ⟨m, 0, none⟩), .int .u64 a] w fun e w' => e = .returned (errV (freeE S1 a)) ∧ SG w0 w' r m g o (freeS S1 a) S2 :=
  (memFree_any m _ S1 a w h.st.mem ha).mono fun _ _ ⟨h1, h2, h3⟩ => ⟨h1, h.m h2 h3⟩
theorem st_rfree (a : Nat) (ha : a < 18446744073709551616) (w : World) (h : SG w0 w r m g o S1 S2) : Calls Try.prog 45 #[.pointer (some ⟨r, 0, none⟩), .int .u64 a] w fun e w' => e = .returned (.int .i64 (freeE S2 a)) ∧ SG w0 w' r m g o S1 (freeS S2 a) :=
  (refFree_any r S2 a w h.st.ref ha).mono fun _ _ ⟨h1, h2, h3⟩ => ⟨h1, h.r h2 h3⟩
theorem st_byte (a : Nat) (ha : a < 18446744073709551616) (w : World) (h : SG w0 w r m g o S1 S2) : Calls Try.prog 46 #[.pointer (some ⟨m, 0, none⟩), .int .u64 a] w fun e w' => e = .returned (.tuple #[.int .u8 (byteP S1 a).1, errV (byteP S1 a).2]) ∧ w = w' :=
  (memByte_any m _ S1 a w h.st.mem ha).mono fun _ _ ⟨h1, h2⟩ => ⟨by rw [h1, byteV_P], h2⟩
theorem st_rbyte (a : Nat) (ha : a < 18446744073709551616) (w : World) (h : SG w0 w r m g o S1 S2) : Calls Try.prog 47 #[.pointer (some ⟨r, 0, none⟩), .int .u64 a] w fun e w' => e = .returned (.tuple #[.int .u8 (byteP S2 a).1, .int .i64 (byteP S2 a).2]) ∧ w = w' :=
  refByte_any r S2 a w h.st.ref ha
end
section
variable {w0 : World} {r m : Nat} {S1 S2 : MemS}
/-- A copy goes on; the other is written. -/
theorem st_copy (w : World) (h : St w0 w r m S1 S2) : Calls Try.prog 48 #[.pointer (some ⟨m, 0, none⟩)] w fun e w' => ∃ c, e = .returned (.pointer (some ⟨c, 0, none⟩)) ∧ c ≠ m ∧ MemAt w' (fun g => g ≠ r ∧ g ≠ m) c S1 ∧ w0.heap.size ≤ c ∧ St w0 w' r m S1 S2 :=
  (memCopy_any m _ S1 w h.mem).mono fun _ w' ⟨h1, h2, h3⟩ => by
    obtain ⟨C, sp, hb, _⟩ := h.mem.rep
    have hm := hb.lt
    have hr := h.ref.lt
    have hs := h.below.size
    exact ⟨_, h1, by omega, h2.weaken fun g hg => ⟨by omega, by omega⟩, hs, h.low h3⟩
/-- To the copy. -/
theorem st_to {w : World} {c : Nat} {S1' : MemS} (h : St w0 w r m S1 S2) (hc : MemAt w (fun g => g ≠ r ∧ g ≠ m) c S1') (hc0 : w0.heap.size ≤ c) : St w0 w r c S1' S2 :=
  ⟨hc.weaken fun _ hg => hg.1, h.ref, h.below, h.rb, hc0⟩
end

theorem mapE_ge (n : Int) : 0 ≤ mapE n := by unfold mapE; split <;> omega
theorem unmapE_ge (S : MemS) (n : Int) : 0 ≤ unmapE S n := by unfold unmapE; split <;> omega
theorem putE_ge (S : MemS) (a n : Nat) : 0 ≤ putE S a n := by unfold putE; split <;> omega
theorem freeE_ge (S : MemS) (a : Nat) : 0 ≤ freeE S a := by unfold freeE; split <;> omega
theorem getP_ge (f : Nat → Option Int) (a : Nat) (n : Int) : 0 ≤ (getP f a n).2 := by
  unfold getP; split
  · simp
  · cases readL f a n.toNat <;> simp
theorem textPR_ge (f : Nat → Option Int) (a : Nat) : ∀ n l, 0 ≤ (textPR f a n l).2 := by
  intro n
  induction n with
  | zero => intro l; simp [textPR]
  | succ n ih =>
    intro l
    rw [textPR]
    cases f ((a + l.length) % 18446744073709551616) with
    | none => simp
    | some v =>
      simp only
      split
      · simp
      · split
        · simp
        · exact ih _
theorem textP_ge (f : Nat → Option Int) (a : Nat) : 0 ≤ (textP f a).2 := textPR_ge f a 41 []
theorem sealX_ge (S : MemS) (s : ByteArray) : 0 ≤ (sealX S s).2 := by
  unfold sealX; split
  · simp
  · cases ffF S 4 0 <;> simp

end Go.Proofs.Ytmgngapkgcofnaa
