/- The reference's memory: how the same memory lies in its block; plain laws. -/
import Derived.Test.YtmgngapkgcofnaaMemCopy
namespace Go.Proofs.Ytmgngapkgcofnaa
open Go.RowKit Go.PlainAid

def refIs (S : MemS) (n : Nat) : Int := if n < 8 then (if (S.p n).write then 2 else if (S.p n).read then 1 else 0) else if (S.sl (n - 8)).isSome then 3 else 0
def refB (S : MemS) (n k : Nat) : Option Int := if n < 8 then (if (S.p n).read then some ((S.p n).b k) else none) else (S.sl (n - 8)).map fun f => f k
def RCI (S : MemS) (C : Nat → Value) : Prop := ∀ n, n < 12 → C n = .int .i64 (refIs S n)
def RCB (S : MemS) (C : Nat → Value) : Prop := ∀ n k, n < 12 → k < 64 → ∃ v : Int, C (12 + n * 64 + k) = .int .u8 v ∧ 0 ≤ v ∧ v ≤ 255 ∧ ∀ u, refB S n k = some u → u = v
structure RefAt (w : World) (r : Nat) (S : MemS) : Prop where
  ok : S.ok
  wr : ∀ n, (S.p n).write = true → (S.p n).read = true
  rep : ∃ C : Nat → Value, BlkAt w r 65 780 C ∧ RCI S C ∧ RCB S C
theorem byteS_ref (S : MemS) (a : Nat) : byteS S a = if a < 768 then refB S (a / 64) (a % 64) else none := by
  unfold byteS refB
  by_cases h : a < 512
  · rw [if_pos h, if_pos (show a < 768 by omega), if_pos (show a / 64 < 8 by omega)]
  · rw [if_neg h]
    by_cases h2 : a < 768
    · rw [if_pos h2, if_pos h2, if_neg (show ¬ a / 64 < 8 by omega)]
    · rw [if_neg h2, if_neg h2]
theorem refIs_zero {S : MemS} (hw : ∀ n, (S.p n).write = true → (S.p n).read = true) (n k : Nat) : (refIs S n = 0 ↔ refB S n k = none) := by
  unfold refIs refB
  by_cases h : n < 8
  · rw [if_pos h, if_pos h]
    cases hr : (S.p n).read with
    | true => simp; cases (S.p n).write <;> simp
    | false =>
      cases hwn : (S.p n).write with
      | true => rw [hw n hwn] at hr; cases hr
      | false => simp
  · rw [if_neg h, if_neg h]
    cases S.sl (n - 8) <;> simp
theorem RefAt.via {w w' : World} {r : Nat} {S : MemS} {H : Nat} (h : RefAt w r S) (hb : Below H w w') (hH : r < H) : RefAt w' r S := by
  obtain ⟨h1, h2, C, h3, h4, h5⟩ := h
  exact ⟨h1, h2, C, h3.via hb hH, h4, h5⟩
theorem RefAt.but {w w' : World} {r m : Nat} {S : MemS} (h : RefAt w r S) (hb : But m w w') (hm : r ≠ m) : RefAt w' r S := by
  obtain ⟨h1, h2, C, h3, h4, h5⟩ := h
  exact ⟨h1, h2, C, (hb.block r h3.lt hm).trans h3, h4, h5⟩
theorem RefAt.drew {w : World} {r : Nat} {S : MemS} (h : RefAt w r S) : RefAt w.drew r S := by
  obtain ⟨h1, h2, C, h3, h4, h5⟩ := h
  exact ⟨h1, h2, C, h3, h4, h5⟩
theorem RefAt.lt {w : World} {r : Nat} {S : MemS} (h : RefAt w r S) : r < w.heap.size := by
  obtain ⟨_, _, C, h3, _⟩ := h
  exact h3.lt

theorem RCI.set {S S' : MemS} {C : Nat → Value} (h : RCI S C) (k : Nat) (x : Int) (hx : x = refIs S' k) (he : ∀ n, n < 12 → n ≠ k → refIs S' n = refIs S n) : RCI S' (setV C k (.int .i64 x)) := by
  intro n hn
  unfold setV
  by_cases e : n = k
  · subst e; rw [if_pos rfl, hx]
  · rw [if_neg e, h n hn, he n hn e]
theorem RCI.other {S S' : MemS} {C : Nat → Value} (h : RCI S C) (he : ∀ n, n < 12 → refIs S' n = refIs S n) : RCI S' C := fun n hn => by rw [h n hn, he n hn]
theorem RCI.setV {S : MemS} {C : Nat → Value} (h : RCI S C) {k : Nat} (hk : 12 ≤ k) (v : Value) : RCI S (setV C k v) := fun n hn => by
  unfold Proofs.Ytmgngapkgcofnaa.setV; rw [if_neg (by omega), h n hn]
theorem RCI.setVs {S : MemS} {C : Nat → Value} (h : RCI S C) {k : Nat} (hk : 12 ≤ k) (vs : List Value) : RCI S (setVs C k vs) := fun n hn => by
  unfold Proofs.Ytmgngapkgcofnaa.setVs; rw [if_neg (by omega), h n hn]
theorem RCB.setI {S : MemS} {C : Nat → Value} (h : RCB S C) {k : Nat} (hk : k < 12) (v : Value) : RCB S (setV C k v) := fun n j hn hj => by
  obtain ⟨u, h1, h2⟩ := h n j hn hj
  exact ⟨u, by unfold setV; rw [if_neg (by omega), h1], h2⟩
theorem RCB.mono {S S' : MemS} {C : Nat → Value} (h : RCB S C) (he : ∀ n k u, n < 12 → k < 64 → refB S' n k = some u → refB S n k = some u) : RCB S' C := fun n j hn hj => by
  obtain ⟨u, h1, h2, h3, h4⟩ := h n j hn hj
  exact ⟨u, h1, h2, h3, fun x hx => h4 x (he n j x hn hj hx)⟩
theorem RCB.zero {S S' : MemS} {C : Nat → Value} (h : RCB S C) {q : Nat} (he : ∀ n k u, n < 12 → k < 64 → n ≠ q → refB S' n k = some u → refB S n k = some u) (hz : ∀ k u, k < 64 → refB S' q k = some u → u = 0) :
    RCB S' (setVs C (12 + q * 64) (List.replicate 64 (.int .u8 0))) := fun n j hn hj => by
  obtain ⟨u, h1, h2, h3, h4⟩ := h n j hn hj
  unfold setVs
  rw [List.length_replicate]
  by_cases e : n = q
  · subst e
    refine ⟨0, ?_, by omega, by omega, fun u hu => hz j u hj hu⟩
    rw [if_pos (by omega), List.getD_eq_getElem?_getD, List.getElem?_replicate, if_pos (by omega)]; rfl
  · exact ⟨u, by rw [if_neg (by omega), h1], h2, h3, fun x hx => h4 x (he n j x hn hj e hx)⟩
theorem RCB.poke {S S' : MemS} {C : Nat → Value} (h : RCB S C) {q i : Nat} (hi : i < 64) {v : Int} (h0 : 0 ≤ v) (h1 : v ≤ 255) (he : ∀ n k u, n < 12 → k < 64 → ¬ (n = q ∧ k = i) → refB S' n k = some u → refB S n k = some u) (hz : ∀ u, refB S' q i = some u → u = v) :
    RCB S' (setV C (12 + q * 64 + i) (.int .u8 v)) := fun n j hn hj => by
  obtain ⟨u, h1', h2, h3, h4⟩ := h n j hn hj
  unfold setV
  by_cases e : n = q ∧ j = i
  · obtain ⟨rfl, rfl⟩ := e
    exact ⟨v, by rw [if_pos rfl], h0, h1, hz⟩
  · exact ⟨u, by rw [if_neg (by omega), h1'], h2, h3, fun x hx => h4 x (he n j x hn hj e hx)⟩

/-- Map. -/
theorem refIs_map (S : MemS) {k : Nat} (hk : k < 8) (wr : Bool) : refIs (S.map k wr) k = if wr then 2 else 1 := by
  unfold refIs MemS.map; rw [if_pos hk]; simp
theorem refIs_map_ne (S : MemS) {k : Nat} (wr : Bool) : ∀ n, n < 12 → n ≠ k → refIs (S.map k wr) n = refIs S n := by
  intro n _ h; unfold refIs MemS.map; simp only [if_neg h]
theorem map_wr {S : MemS} (h : ∀ n, (S.p n).write = true → (S.p n).read = true) (k : Nat) (wr : Bool) : ∀ n, ((S.map k wr).p n).write = true → ((S.map k wr).p n).read = true := by
  intro n; unfold MemS.map; simp only; split
  · simp
  · exact h n
theorem refB_map {S : MemS} {k : Nat} (wr : Bool) (hr : (S.p k).read = true) : ∀ n j u, n < 12 → j < 64 → refB (S.map k wr) n j = some u → refB S n j = some u := by
  intro n j u _ _ h
  unfold refB MemS.map at *
  by_cases e : n = k
  · subst e; simp only [if_true, hr] at h ⊢; exact h
  · simp only [if_neg e] at h; exact h
theorem refB_map0 {S : MemS} {k : Nat} (wr : Bool) : (∀ n j u, n < 12 → j < 64 → n ≠ k → refB (S.map k wr) n j = some u → refB S n j = some u) := by
  intro n j u _ _ e h
  unfold refB MemS.map at *
  simp only [if_neg e] at h; exact h
theorem refB_mapz {S : MemS} {k : Nat} (hk : k < 8) (wr : Bool) (hr : (S.p k).read = false) : ∀ j u, j < 64 → refB (S.map k wr) k j = some u → u = 0 := by
  intro j u _ h
  unfold refB MemS.map at h
  simp [hk, hr] at h
  exact h.symm
/-- Unmap. -/
theorem refIs_unmap (S : MemS) {k : Nat} (hk : k < 8) : 0 = refIs (S.unmap k) k := by unfold refIs MemS.unmap; simp [hk]
theorem refIs_unmap_ne (S : MemS) {k : Nat} : ∀ n, n < 12 → n ≠ k → refIs (S.unmap k) n = refIs S n := by
  intro n _ h; unfold refIs MemS.unmap; simp only [if_neg h]
theorem unmap_wr {S : MemS} (h : ∀ n, (S.p n).write = true → (S.p n).read = true) (k : Nat) : ∀ n, ((S.unmap k).p n).write = true → ((S.unmap k).p n).read = true := by
  intro n; unfold MemS.unmap; simp only; split
  · simp
  · exact h n
theorem refB_unmap {S : MemS} {k : Nat} : ∀ n j u, n < 12 → j < 64 → refB (S.unmap k) n j = some u → refB S n j = some u := by
  intro n j u _ _ h
  unfold refB MemS.unmap at *
  by_cases e : n = k
  · subst e
    by_cases h8 : n < 8
    · simp [h8] at h
    · rw [if_neg h8] at h ⊢; exact h
  · simp only [if_neg e] at h; exact h
/-- Free. -/
theorem refIs_free (S : MemS) {i : Nat} (hi : i < 4) : 0 = refIs (S.free i) (8 + i) := by
  unfold refIs MemS.free; rw [if_neg (by omega), show 8 + i - 8 = i from by omega]; simp
theorem refIs_free_ne (S : MemS) {i : Nat} : ∀ n, n < 12 → n ≠ 8 + i → refIs (S.free i) n = refIs S n := by
  intro n _ h; unfold refIs MemS.free
  by_cases h8 : n < 8
  · rw [if_pos h8, if_pos h8]
  · rw [if_neg h8, if_neg h8]; simp only [if_neg (show n - 8 ≠ i by omega)]
theorem refB_free {S : MemS} {i : Nat} : ∀ n j u, n < 12 → j < 64 → refB (S.free i) n j = some u → refB S n j = some u := by
  intro n j u _ _ h
  unfold refB MemS.free at *
  by_cases h8 : n < 8
  · rw [if_pos h8] at h ⊢; exact h
  · rw [if_neg h8] at h ⊢
    simp only at h
    split at h
    · simp at h
    · exact h
/-- Poke. -/
theorem refIs_poke (S : MemS) (x : Nat) (v : Int) : ∀ n, n < 12 → refIs (S.poke x v) n = refIs S n := by
  intro n _; unfold refIs; rw [poke_write, poke_read]; rfl
theorem refB_poke {S : MemS} {x : Nat} (v : Int) : ∀ n j u, n < 12 → j < 64 → ¬ (n = x / 64 ∧ j = x % 64) → refB (S.poke x v) n j = some u → refB S n j = some u := by
  intro n j u _ _ hne h
  unfold refB at *
  by_cases h8 : n < 8
  · rw [if_pos h8] at h ⊢
    rw [poke_read] at h
    cases hr : (S.p n).read with
    | false => rw [hr] at h; simp at h
    | true =>
      rw [hr] at h
      simp only [if_true] at h ⊢
      rw [← h]
      unfold MemS.poke
      by_cases e : n = x / 64
      · have : j ≠ x % 64 := fun h2 => hne ⟨e, h2⟩
        subst e; simp [this]
      · simp only [if_neg e]
  · rw [if_neg h8] at h ⊢; exact h
theorem refB_poke_at {S : MemS} {x : Nat} (hx : x < 512) (v : Int) : ∀ u, refB (S.poke x v) (x / 64) (x % 64) = some u → u = v := by
  intro u h
  unfold refB at h
  rw [if_pos (by omega)] at h
  split at h
  · simp [MemS.poke] at h; exact h.symm
  · cases h
/-- Seal. -/
theorem refIs_seal (S : MemS) {i : Nat} (f : Nat → Int) : 3 = refIs (S.sealAt i f) (8 + i) := by
  unfold refIs MemS.sealAt; rw [if_neg (by omega), show 8 + i - 8 = i from by omega]; simp
theorem refIs_seal_ne (S : MemS) {i : Nat} (f : Nat → Int) : ∀ n, n < 12 → n ≠ 8 + i → refIs (S.sealAt i f) n = refIs S n := by
  intro n _ h; unfold refIs MemS.sealAt
  by_cases h8 : n < 8
  · rw [if_pos h8, if_pos h8]
  · rw [if_neg h8, if_neg h8]; simp only [if_neg (show n - 8 ≠ i by omega)]
theorem refB_seal_ne {S : MemS} {i : Nat} (f : Nat → Int) : ∀ n j u, n < 12 → j < 64 → n ≠ 8 + i → refB (S.sealAt i f) n j = some u → refB S n j = some u := by
  intro n j u _ _ e h
  unfold refB MemS.sealAt at *
  by_cases h8 : n < 8
  · rw [if_pos h8] at h ⊢; exact h
  · rw [if_neg h8] at h ⊢
    simp only at h
    rw [if_neg (show n - 8 ≠ i by omega)] at h; exact h
theorem refB_seal_at {S : MemS} {i : Nat} (f : Nat → Int) (j : Nat) : refB (S.sealAt i f) (8 + i) j = some (f j) := by
  unfold refB MemS.sealAt; rw [if_neg (by omega), show 8 + i - 8 = i from by omega]; simp

def byteP (S : MemS) (a : Nat) : Int × Int := match byteS S a with
  | some v => (v, 0)
  | none => (0, 5)
theorem byteV_P (S : MemS) (a : Nat) : byteV S a = .tuple #[.int .u8 (byteP S a).1, errV (byteP S a).2] := by
  unfold byteV byteP; cases byteS S a <;> rfl
def getP (f : Nat → Option Int) (a : Nat) (n : Int) : ByteArray × Int := if n < 0 ∨ 512 < n then (⟨#[]⟩, 1) else match readL f a n.toNat with
  | some l => (strOfNums l, 0)
  | none => (⟨#[]⟩, 5)
theorem getV_P (f : Nat → Option Int) (a : Nat) (n : Int) : getV f a n = .tuple #[.string (getP f a n).1, errV (getP f a n).2] := by
  unfold getV getP; split
  · rfl
  · cases readL f a n.toNat <;> rfl
def textPR (f : Nat → Option Int) (a : Nat) : Nat → List Int → ByteArray × Int
  | 0, _ => (⟨#[]⟩, 0)
  | n + 1, l => match f ((a + l.length) % 18446744073709551616) with
    | none => (⟨#[]⟩, 5)
    | some v => if v = 0 then (strOfNums l, 0) else if l.length = 40 then (⟨#[]⟩, 6) else textPR f a n (l ++ [v])
def textP (f : Nat → Option Int) (a : Nat) : ByteArray × Int := textPR f a 41 []
theorem textR_P (f : Nat → Option Int) (a : Nat) : ∀ n l, 0 < n → n + l.length = 41 → textR f a n l = .tuple #[.string (textPR f a n l).1, errV (textPR f a n l).2] := by
  intro n
  induction n with
  | zero => intro l h; omega
  | succ n ih =>
    intro l _ hl
    rw [textR, textPR]
    cases f ((a + l.length) % 18446744073709551616) with
    | none => rfl
    | some v =>
      simp only
      by_cases h0 : v = 0
      · rw [if_pos h0, if_pos h0]; rfl
      · rw [if_neg h0, if_neg h0]
        by_cases h40 : l.length = 40
        · rw [if_pos h40, if_pos h40]; rfl
        · rw [if_neg h40, if_neg h40]
          exact ih _ (by omega) (by simp; omega)
theorem textV_P (f : Nat → Option Int) (a : Nat) : textV f a = .tuple #[.string (textP f a).1, errV (textP f a).2] := textR_P f a 41 [] (by omega) rfl

end Go.Proofs.Ytmgngapkgcofnaa
