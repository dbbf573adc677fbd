/- The reference's condition of a line's words: the walk. Printed by gencondr.py. -/
import Derived.Test.YtmgngapkgcofnaaGreatDoorM24
import Derived.Test.YtmgngapkgcofnaaGreatDoorM23
import Derived.Test.YtmgngapkgcofnaaGreatDoorM40
import Derived.Test.YtmgngapkgcofnaaGreatDoorM31
import Derived.Deep.RegionWith
import Derived.BigQuiet
namespace Go.Proofs.YtmgngapkgcofnaaGreatDoor
open Go.RowKit Go.PlainAid

theorem row4 {w : World} {b : Nat} {t : TypeId} {a0 a1 a2 a3 : Value} (h : w.heap[b]? = some (.cells #[a0, a1, a2, a3] t (0, 0))) :
    w.cell? ⟨b, 0, none⟩ = some a0 ∧ w.cell? ⟨b, 1, none⟩ = some a1 ∧ w.cell? ⟨b, 2, none⟩ = some a2 ∧ w.cell? ⟨b, 3, none⟩ = some a3 ∧ w.frozen? ⟨b, 0, none⟩ = false ∧ w.frozen? ⟨b, 1, none⟩ = false ∧ w.frozen? ⟨b, 2, none⟩ = false ∧ w.frozen? ⟨b, 3, none⟩ = false :=
  ⟨(cell_of_row _ _ _ _ _ _ h).trans rfl, (cell_of_row _ _ _ _ _ _ h).trans rfl, (cell_of_row _ _ _ _ _ _ h).trans rfl, (cell_of_row _ _ _ _ _ _ h).trans rfl, frozen_of_row _ _ _ _ _ h, frozen_of_row _ _ _ _ _ h, frozen_of_row _ _ _ _ _ h, frozen_of_row _ _ _ _ _ h⟩
theorem opS_val (S : ByteArray) : ∀ k, opS S k ≠ 0 → signB (opS S k) = S ∧ opS S k < k
  | 0 => fun h => by simp [opS] at h
  | k + 1 => fun h => by
    rw [opS] at h ⊢
    split at h
    · rename_i h1
      rw [if_pos h1]
      exact ⟨h1.1, by omega⟩
    · rename_i h1
      rw [if_neg h1]
      obtain ⟨h2, h3⟩ := opS_val S k h
      exact ⟨h2, by omega⟩
def condZ : CondD := ⟨0, 0, 0, 0, ⟨#[]⟩, ⟨0, 0, 0, 0⟩⟩
def CondOf (ws : List ByteArray) (c : CondD) (n : Nat) : Prop := (n = 0 ∧ c = condZ ∧ ∀ c0 r, CondRd c0 → ws.map bL ≠ condW c0 ++ r) ∨ (CondRd c ∧ n = (condW c).length ∧ ∃ r, ws.map bL = condW c ++ r)
def CondOfE (ws : List ByteArray) (e : Ending) : Prop := ∃ (c : CondD) (n : Nat), e = .returned (.tuple #[c.val, .int .i64 n]) ∧ c.ok ∧ (∀ B : Nat, (∀ x ∈ ws, x.size ≤ B) → c.glob.size ≤ B) ∧ CondOf ws c n
structure CO (w W : World) (q : Nat) (row : Array Value) : Prop where
  bel : Below w.heap.size w W
  hq : w.heap.size < q
  hqW : q < W.heap.size
  res : W.heap[w.heap.size]? = some (.cells zero9 84 (0, 0))
  cnd : W.heap[q]? = some (.cells row 84 (0, 0))
theorem CO.below {w W W' : World} {q : Nat} {row : Array Value} (h : CO w W q row) (hb : Below W.heap.size W W') : CO w W' q row := by
  have h1 := h.hq
  have h2 := h.hqW
  exact ⟨h.bel.trans (hb.mono h.bel.size), h.hq, Nat.lt_of_lt_of_le h.hqW hb.size, (hb.block _ (by omega)).trans h.res, (hb.block _ h2).trans h.cnd⟩
theorem CO.set {w W : World} {q : Nat} {row : Array Value} (h : CO w W q row) (i : Nat) (v : Value) : CO w (W.setCell ⟨q, i, none⟩ v) q (row.setIfInBounds i v) := by
  have h1 := h.hq
  refine ⟨h.bel.setCell (p := ⟨q, i, none⟩) (by show w.heap.size ≤ q; omega) v, h.hq, by simpa [World.setCell] using h.hqW, ?_, heap_setCell_same W q i _ _ v h.cnd⟩
  exact (heap_setCell_other W ⟨q, i, none⟩ w.heap.size v (fun e => by simp at e; omega)).trans h.res
theorem CO.drew {w W : World} {q : Nat} {row : Array Value} (h : CO w W q row) : CO w W.drew q row := ⟨h.bel.drew, h.hq, h.hqW, h.res, h.cnd⟩
theorem CO.drewN {w W : World} {q : Nat} {row : Array Value} (h : CO w W q row) (n : Nat) : CO w (W.drewN n) q row := ⟨⟨h.bel.os, h.bel.tape, h.bel.output, h.bel.size, h.bel.block⟩, h.hq, h.hqW, h.res, h.cnd⟩
theorem CO.start {w w1 : World} (hb : Below (w.alloc (.cells zero9 84)).heap.size (w.alloc (.cells zero9 84)) w1) (row : Array Value) : CO w (w1.alloc (.cells row 84)) w1.heap.size row := by
  have hs : w.heap.size < w1.heap.size := Nat.lt_of_lt_of_le (by simp) hb.size
  have h0 : Below w.heap.size w (w.alloc (.cells zero9 84)) := (Below.refl _ _).alloc (Nat.le_refl _) _
  have h1 : Below w1.heap.size w1 (w1.alloc (.cells row 84)) := (Below.refl _ _).alloc (Nat.le_refl _) _
  exact ⟨(h0.trans (hb.mono (by simp))).trans (h1.mono (by omega)), hs, by simp, (h1.block _ hs).trans ((hb.block _ (by simp)).trans (heap_alloc_new _ _)), heap_alloc_new _ _⟩
theorem below_store9 {B : Nat} {a W : World} {b : Nat} (h : Below B a W) (hb : B ≤ b) (c0 c1 c2 c3 c4 c5 c6 c7 c8 : Value) : Below B a ((((((((((W.setCell ⟨b, 0, none⟩ c0).setCell ⟨b, 1, none⟩ c1).setCell ⟨b, 2, none⟩ c2).setCell ⟨b, 3, none⟩ c3).setCell ⟨b, 4, none⟩ c4).setCell ⟨b, 5, none⟩ c5).setCell ⟨b, 6, none⟩ c6).setCell ⟨b, 7, none⟩ c7).setCell ⟨b, 8, none⟩ c8)) :=
  ((((((((h.setCell hb _).setCell hb _).setCell hb _).setCell hb _).setCell hb _).setCell hb _).setCell hb _).setCell hb _).setCell hb _
theorem cond_fwd3 {x s y : ByteArray} {t : List ByteArray} {c0 : CondD} {r : List (List UInt8)} (h : CondRd c0) (hw : (x :: s :: y :: t).map bL = condW c0 ++ r) :
    bL x = Lib.decDigits c0.arg.toNat ∧ ((c0.op = 7 ∧ s = ⟨#[38]⟩ ∧ bL y = Lib.decDigits c0.m.toNat ∧ t.map bL = wEq :: Lib.decDigits c0.v.toNat :: r) ∨ (c0.op = 8 ∧ s = ⟨#[126]⟩ ∧ bL y = quoteW c0.glob ∧ t.map bL = r) ∨ (c0.op = 9 ∧ s = ⟨#[105, 110]⟩ ∧ bL y = textN c0.net ∧ t.map bL = r) ∨ ((1 ≤ c0.op ∧ c0.op ≤ 6) ∧ bL s = signW c0.op.toNat ∧ bL y = Lib.decDigits c0.v.toNat ∧ t.map bL = r)) := by
  obtain ⟨x', s', t', he, ⟨r', h1⟩, h4⟩ := cond_fwd h hw
  simp only [List.cons.injEq] at he
  obtain ⟨rfl, rfl, rfl⟩ := he
  simp only [List.map_cons, List.cons.injEq] at h1 h4
  exact ⟨h1.1, h4⟩
theorem condOf_short {ws : List ByteArray} (h : ws.length < 3) : CondOf ws condZ 0 := .inl ⟨rfl, rfl, fun c0 r hrd hw => by
  have h2 := congrArg List.length hw
  obtain ⟨x, s, t, he, _, h4⟩ := cond_fwd hrd hw
  subst he
  rcases t with _ | ⟨y, t⟩
  · rcases h4 with ⟨_, _, h⟩ | ⟨_, _, h⟩ | ⟨_, _, h⟩ | ⟨_, _, h⟩ <;> simp at h
  · simp at h; omega⟩
theorem condZ_ok : condZ.ok := ⟨wf_small (by decide) (by decide), wf_small (by decide) (by decide), by decide, by decide, by decide, net0_ok⟩
theorem condOfE_mask {x y z : ByteArray} {r : List ByteArray} {n m v : Nat} (hx : bL x = Lib.decDigits n) (hn : n ≤ 3) (hy : bL y = Lib.decDigits m) (hm : m < 18446744073709551616) (hz : bL z = Lib.decDigits v) (hv : v < 18446744073709551616) :
    CondOfE (x :: ⟨#[38]⟩ :: y :: ⟨#[61, 61]⟩ :: z :: r) (.returned (.tuple #[.agg #[.int .i64 (n : Int), .int .i64 7, .int .u64 (v : Int), .int .u64 (m : Int), .string ⟨#[]⟩, .int .u32 0, .int .i64 0, .int .i64 0, .int .i64 0], .int .i64 5])) :=
  ⟨⟨n, 7, v, m, ⟨#[]⟩, ⟨0, 0, 0, 0⟩⟩, 5, rfl, ⟨wf_small (by simp only; omega) (by simp only; omega), wf_small (by simp only; omega) (by simp only; omega), by simp only; omega, by simp only; omega, by simp only; decide, net0_ok⟩, fun B _ => Nat.zero_le B,
   .inr ⟨⟨by simp only; omega, by simp only; omega, by simp only; omega, by simp only; omega, fun h => absurd rfl h, fun h => absurd h (by simp), fun _ => rfl, fun _ => rfl, fun h => absurd h (by simp)⟩, by simp [condW], r.map bL, by
    simp only [List.map_cons, condW, if_true, List.cons_append, List.nil_append, hx, hy, hz, Int.toNat_natCast]
    rfl⟩⟩
theorem condOfE_like {x y : ByteArray} {r : List ByteArray} {n : Nat} (hx : bL x = Lib.decDigits n) (hn : n ≤ 3) (hy : bL y = quoteW (y.extract 1 (y.size - 1))) (hys : y.size ≤ 1000000) (hB : ∀ B : Nat, (∀ u ∈ x :: ⟨#[126]⟩ :: y :: r, u.size ≤ B) → (y.extract 1 (y.size - 1)).size ≤ B) :
    CondOfE (x :: ⟨#[126]⟩ :: y :: r) (.returned (.tuple #[.agg #[.int .i64 (n : Int), .int .i64 8, .int .u64 0, .int .u64 0, .string (y.extract 1 (y.size - 1)), .int .u32 0, .int .i64 0, .int .i64 0, .int .i64 0], .int .i64 3])) :=
  ⟨⟨n, 8, 0, 0, y.extract 1 (y.size - 1), ⟨0, 0, 0, 0⟩⟩, 3, rfl, ⟨wf_small (by simp only; omega) (by simp only; omega), wf_small (by simp only; omega) (by simp only; omega), by simp only; omega, by simp only; omega, by unfold maxLen; simp; omega, net0_ok⟩, hB,
   .inr ⟨⟨by simp only; omega, by simp only; omega, by simp only; omega, by simp only; omega, fun _ => rfl, fun _ => rfl, fun h => absurd rfl h, fun _ => rfl, fun h => absurd h (by simp)⟩, by simp [condW], r.map bL, by
    have h7 : ¬ (8 : Int) = 7 := by omega
    simp only [List.map_cons, condW, if_neg h7, if_true, List.cons_append, List.nil_append, hx, ← hy, Int.toNat_natCast]
    rfl⟩⟩
theorem condOfE_in {x y : ByteArray} {r : List ByteArray} {n : Nat} {z : NetD} (hx : bL x = Lib.decDigits n) (hn : n ≤ 3) (hz : z.ok) (hf : netF z = 0) (hy : bL y = textN z) :
    CondOfE (x :: ⟨#[105, 110]⟩ :: y :: r) (.returned (.tuple #[.agg #[.int .i64 (n : Int), .int .i64 9, .int .u64 0, .int .u64 0, .string ⟨#[]⟩, .int .u32 z.ip, .int .i64 z.bits, .int .i64 z.lo, .int .i64 z.hi], .int .i64 3])) :=
  ⟨⟨n, 9, 0, 0, ⟨#[]⟩, z⟩, 3, rfl, ⟨wf_small (by simp only; omega) (by simp only; omega), wf_small (by simp only; omega) (by simp only; omega), by simp only; omega, by simp only; omega, by simp only; decide, hz⟩, fun B _ => Nat.zero_le B,
   .inr ⟨⟨by simp only; omega, by simp only; omega, by simp only; omega, by simp only; omega, fun _ => rfl, fun _ => rfl, fun _ => rfl, fun h => absurd rfl h, fun _ => ⟨hz, hf⟩⟩, by simp [condW], r.map bL, by
    have h7 : ¬ (9 : Int) = 7 := by omega
    have h8 : ¬ (9 : Int) = 8 := by omega
    simp only [List.map_cons, condW, if_neg h7, if_neg h8, if_true, List.cons_append, List.nil_append, hx, hy, Int.toNat_natCast]
    rfl⟩⟩
theorem condOfE_cmp {x s y : ByteArray} {r : List ByteArray} {n v op : Nat} (hx : bL x = Lib.decDigits n) (hn : n ≤ 3) (ho : 1 ≤ op ∧ op ≤ 6) (hs : bL s = signW op) (hy : bL y = Lib.decDigits v) (hv : v < 18446744073709551616) :
    CondOfE (x :: s :: y :: r) (.returned (.tuple #[.agg #[.int .i64 (n : Int), .int .i64 (op : Int), .int .u64 (v : Int), .int .u64 0, .string ⟨#[]⟩, .int .u32 0, .int .i64 0, .int .i64 0, .int .i64 0], .int .i64 3])) :=
  ⟨⟨n, op, v, 0, ⟨#[]⟩, ⟨0, 0, 0, 0⟩⟩, 3, rfl, ⟨wf_small (by simp only; omega) (by simp only; omega), wf_small (by simp only; omega) (by simp only; omega), by simp only; omega, by simp only; omega, by simp only; decide, net0_ok⟩, fun B _ => Nat.zero_le B,
   .inr ⟨⟨by simp only; omega, by simp only; omega, by simp only; omega, by simp only; omega, fun _ => rfl, fun h => absurd h (by simp only; omega), fun _ => rfl, fun _ => rfl, fun h => absurd h (by simp only; omega)⟩, by
    unfold condW
    rw [if_neg (by simp only; omega), if_neg (by simp only; omega), if_neg (by simp only; omega)]; rfl, r.map bL, by
    unfold condW
    rw [if_neg (by simp only; omega), if_neg (by simp only; omega), if_neg (by simp only; omega)]
    simp only [List.map_cons, List.cons_append, List.nil_append, hx, hs, hy, Int.toNat_natCast]⟩⟩
theorem bt_at (y : ByteArray) {k : Nat} (h : k < y.data.toList.length) : bt y k = (y.data.toList[k].toNat : Int) := by
  have h' : k < y.size := by simpa using h
  unfold bt; rw [dif_pos h']; rfl
theorem quote_bytes {y g : ByteArray} (h : bL y = quoteW g) : 2 ≤ y.size ∧ bt y 0 = 34 ∧ bt y (y.size - 1) = 34 := by
  have hl : (bL y).length = y.size := by unfold bL; simp
  have h2 : y.size = g.size + 2 := by
    rw [h] at hl; unfold quoteW at hl; simp at hl; omega
  unfold bL at h hl
  refine ⟨by omega, ?_, ?_⟩
  · rw [bt_at y (by omega)]
    simp only [h, quoteW, List.cons_append, List.getElem_cons_zero]
    rfl
  · rw [bt_at y (by omega)]
    have h3 : y.data.toList[y.size - 1]'(by omega) = 34 := by
      have h4 : y.data.toList[y.size - 1]? = some 34 := by
        rw [h, h2]
        unfold quoteW
        rw [show g.size + 2 - 1 = (34 :: g.data.toList).length from by simp, List.getElem?_append_right (Nat.le_refl _)]
        simp
      rw [List.getElem?_eq_getElem (by omega)] at h4
      exact Option.some.inj h4
    rw [h3]; rfl
theorem quote_list {l : List UInt8} {k : Nat} (hk : l.length = k + 2) (h0 : l[0]? = some 34) (h1 : l[k + 1]? = some 34) : l = 34 :: (l.drop 1).take k ++ [34] := by
  rcases l with _ | ⟨a, t⟩
  · simp at hk
  · have ht : t.length = k + 1 := by simpa using hk
    rw [List.getElem?_cons_zero] at h0
    rw [List.getElem?_cons_succ] at h1
    have h2 : t = t.take (k + 1) := by rw [List.take_of_length_le (by omega)]
    rw [List.take_add_one, h1] at h2
    rw [Option.some.inj h0]
    show 34 :: t = 34 :: (t.take k ++ [34])
    rw [← show t = t.take k ++ [34] from h2]
theorem quote_back {y : ByteArray} (h2 : ¬ y.size < 2) (h0 : bt y 0 = 34) (h1 : bt y (y.size - 1) = 34) : bL y = quoteW (y.extract 1 (y.size - 1)) := by
  have hl : y.data.toList.length = y.size := by simp
  rw [bt_at y (by omega)] at h0 h1
  have e0 : y.data.toList[0]? = some 34 := by rw [List.getElem?_eq_getElem (by omega)]; exact congrArg some (UInt8.toNat_inj.1 (by have : (34 : UInt8).toNat = 34 := rfl; omega))
  have e1 : y.data.toList[y.size - 1]? = some 34 := by rw [List.getElem?_eq_getElem (by omega)]; exact congrArg some (UInt8.toNat_inj.1 (by have : (34 : UInt8).toNat = 34 := rfl; omega))
  unfold bL quoteW
  rw [ByteArray.data_extract, Array.toList_extract, List.extract]
  exact quote_list (k := y.size - 1 - 1) (by omega) e0 (by rw [show y.size - 1 - 1 + 1 = y.size - 1 from by omega]; exact e1)
theorem netOf_plain {y : ByteArray} {W w' : World} {e : Ending} {r : Option NetD} (h1 : ReadN y.data.toList r) (h2 : e = .returned (.tuple #[(netV r).1, .bool r.isSome])) (h3 : Below W.heap.size W w') : ∃ (z : NetD) (ok : Bool), e = .returned (.tuple #[.agg #[.int .u32 z.ip, .int .i64 z.bits, .int .i64 z.lo, .int .i64 z.hi], .bool ok]) ∧ Hid (z.ok ∧ (ok = true → netF z = 0 ∧ bL y = textN z) ∧ (ok = false → ∀ u : NetD, u.ok → netF u = 0 → bL y ≠ textN u)) ∧ Below W.heap.size W w' := by
  cases r with
  | none => exact ⟨⟨0, 0, 0, 0⟩, false, h2, ⟨net0_ok, fun h => (by cases h), fun _ => h1⟩, h3⟩
  | some z => exact ⟨z, true, h2, ⟨h1.1, fun _ => ⟨h1.2.1, h1.2.2⟩, fun h => (by cases h)⟩, h3⟩

set_option linter.unusedSimpArgs false in
set_option maxRecDepth 100000 in
set_option maxHeartbeats 8000000 in
theorem condOf_any (v : Value) (ws : List ByteArray) (w : World) (h : StrsSl w w.heap.size v ws) (hl : ws.length ≤ 1000000) (hs : ∀ x ∈ ws, x.size ≤ 1000000) :
    Calls Tryz.prog 49 #[v] w fun e w' => CondOfE ws e ∧ Below w.heap.size w w' := by
  obtain ⟨A, cp, rfl, hc, hr⟩ := h
  have HZE : Hid (CondOf ws condZ 0 → CondOfE ws (.returned (.tuple #[.agg #[.int .i64 0, .int .i64 0, .int .u64 0, .int .u64 0, .string ⟨#[]⟩, .int .u32 0, .int .i64 0, .int .i64 0, .int .i64 0], .int .i64 0]))) := fun h => ⟨condZ, 0, rfl, condZ_ok, fun B _ => Nat.zero_le B, h⟩
  by_cases h3 : ws.length < 3
  · have z1 : (ws.length : Int) < 3 := by omega
    have HF := Lib.hid (HZE.out (condOf_short h3))
    have HB1 : Hid (∀ o, Below w.heap.size w (w.alloc o)) := fun o => (Below.refl _ _).alloc (Nat.le_refl _) o
    clear HZE hr h3
    go_enter Tryz.func49, Tryz.ntmps49
    go_wp2_with fail
    try simp only [Exit.inBlock, Exit.then]
    refine bodyPost_ret (by simp [results, Tryz.results49, go_sem]; try rfl) rfl ?_
    exact ⟨HF.out, HB1.out _⟩
  · rcases ws with _ | ⟨x, _ | ⟨s, _ | ⟨y, t⟩⟩⟩
    · simp at h3
    · simp at h3
    · simp at h3
    · have z1 : ¬ (((x :: s :: y :: t).length : Nat) : Int) < 3 := by omega
      obtain ⟨g, og, rfl, hg, hrow⟩ := hr.resolve_left (by simp)
      have HWC : Hid (∀ W, Below w.heap.size w W → ∀ i z, (x :: s :: y :: t)[i]? = some z → W.cell? ⟨g, og + i, none⟩ = some (.string z)) := fun W hb i z hz => (hb.cell (p := ⟨g, og + i, none⟩) hg).trans (hrow i z hz)
      have c0 : w.cell? ⟨g, og, none⟩ = some (.string x) := hrow 0 x rfl
      have hxs := hs x (by simp)
      have hys := hs y (by simp)
      have HFD := Lib.hid (fun c0 r h => cond_fwd3 (x := x) (s := s) (y := y) (t := t) (c0 := c0) (r := r) h)
      have HGY : Hid (∀ B : Nat, (∀ u ∈ x :: s :: y :: t, u.size ≤ B) → (y.extract 1 (y.size - 1)).size ≤ B) := fun B hB => by
        have := hB y (by simp)
        rw [ByteArray.size_extract]
        omega
      have HFG := Lib.hid (fun y W => figures_any y W)
      have HS0 := Lib.hid (fun (w1 : World) (row : Array Value) (hb : Below (w.alloc (.cells zero9 84)).heap.size (w.alloc (.cells zero9 84)) w1) => CO.start hb row)
      have HR0 : Hid (∀ w1, Below (w.alloc (.cells zero9 84)).heap.size (w.alloc (.cells zero9 84)) w1 → w1.heap[w.heap.size]? = some (.cells #[.int .i64 0, .int .i64 0, .int .u64 0, .int .u64 0, .string ⟨#[]⟩, .int .u32 0, .int .i64 0, .int .i64 0, .int .i64 0] 84 (0, 0)) ∧ Below w.heap.size w w1) := fun w1 hb =>
        ⟨(hb.block _ (by simp)).trans (heap_alloc_new _ _), ((Below.refl _ _).alloc (Nat.le_refl _) _ : Below w.heap.size w (w.alloc (.cells zero9 84))).trans (hb.mono (by simp))⟩
      have HLT : Hid (∃ LN : Nat, LN = (x :: s :: y :: t).length ∧ LN = t.length + 3) := ⟨_, rfl, rfl⟩
      obtain ⟨LN, hLN, hL3⟩ := HLT.out
      rw [← hLN] at hl hc z1 ⊢
      have HLN := Lib.hid hL3
      have l1 : (1 : Int) < (LN : Int) := by omega
      have l2 : (2 : Int) < (LN : Int) := by omega
      have l0 : (0 : Int) < (LN : Int) := by omega
      clear hr hrow h3 hs HLT hLN hL3
      go_enter Tryz.func49, Tryz.ntmps49
      go_upto_region 4 with (go_at_call 48; refine cargs (by simp) ((HFG.out x _).mono ?_); rintro e w1 ⟨⟨n, ok, rfl, hn, hfr⟩, hb1⟩; have HB1 := Lib.hid hb1; have HFR := Lib.hid hfr; clear hb1 hfr)
      clear c0
      cases ok with
      | false =>
        have hre : _ := (HR0.out w1 HB1.out).1
        have hbe : _ := (HR0.out w1 HB1.out).2
        obtain ⟨x0, x1, x2, x3, x4, x5, x6, x7, x8, xz0, xz1, xz2, xz3, xz4, xz5, xz6, xz7, xz8⟩ := row9 hre
        obtain ⟨y0, y1, y2, y3, y4, y5, y6, y7, y8, _⟩ := row9 (store9 hre (.int .i64 0) (.int .i64 0) (.int .u64 0) (.int .u64 0) (.string ⟨#[]⟩) (.int .u32 0) (.int .i64 0) (.int .i64 0) (.int .i64 0))
        have HBS := Lib.hid (below_store9 hbe (Nat.le_refl w.heap.size) (.int .i64 0) (.int .i64 0) (.int .u64 0) (.int .u64 0) (.string ⟨#[]⟩) (.int .u32 0) (.int .i64 0) (.int .i64 0) (.int .i64 0))
        have HF := Lib.hid (HZE.out (.inl ⟨rfl, rfl, fun c0 r hrd hw => by
          have hx := (HFD.out c0 r hrd hw).1
          have ha := hrd.arg
          have h9 := HFR.out.2 c0.arg.toNat (by omega) hx
          cases h9.2
        ⟩))
        clear hre hbe
        go_wp2_with fail
        try simp only [Exit.inBlock, Exit.then]
        refine bodyPost_ret (by simp [results, Tryz.results49, go_sem, y0, y1, y2, y3, y4, y5, y6, y7, y8]; try rfl) rfl ?_
        exact ⟨HF.out, HBS.out⟩
      | true =>
        by_cases hn3 : 3 < n
        · have z2 : (3 : Int) < (n : Int) := by omega
          have hre : _ := (HR0.out w1 HB1.out).1
          have hbe : _ := (HR0.out w1 HB1.out).2
          obtain ⟨x0, x1, x2, x3, x4, x5, x6, x7, x8, xz0, xz1, xz2, xz3, xz4, xz5, xz6, xz7, xz8⟩ := row9 hre
          obtain ⟨y0, y1, y2, y3, y4, y5, y6, y7, y8, _⟩ := row9 (store9 hre (.int .i64 0) (.int .i64 0) (.int .u64 0) (.int .u64 0) (.string ⟨#[]⟩) (.int .u32 0) (.int .i64 0) (.int .i64 0) (.int .i64 0))
          have HBS := Lib.hid (below_store9 hbe (Nat.le_refl w.heap.size) (.int .i64 0) (.int .i64 0) (.int .u64 0) (.int .u64 0) (.string ⟨#[]⟩) (.int .u32 0) (.int .i64 0) (.int .i64 0) (.int .i64 0))
          have HF := Lib.hid (HZE.out (.inl ⟨rfl, rfl, fun c0 r hrd hw => by
            have hx := (HFD.out c0 r hrd hw).1
            have ha := hrd.arg
            have h9 := HFR.out.2 c0.arg.toNat (by omega) hx
            omega
          ⟩))
          clear hre hbe
          go_wp2_with fail
          try simp only [Exit.inBlock, Exit.then]
          refine bodyPost_ret (by simp [results, Tryz.results49, go_sem, y0, y1, y2, y3, y4, y5, y6, y7, y8]; try rfl) rfl ?_
          exact ⟨HF.out, HBS.out⟩
        · have z2 : ¬ (3 : Int) < (n : Int) := by omega
          have z3 : (0 : Int) ≤ (n : Int) := by omega
          have HX : Hid (bL x = Lib.decDigits n) := HFR.out.1 rfl
          have HC2 := Lib.hid (HS0.out w1 #[.int .i64 (n : Int), .int .i64 0, .int .u64 0, .int .u64 0, .string ⟨#[]⟩, .int .u32 0, .int .i64 0, .int .i64 0, .int .i64 0] HB1.out)
          clear HS0 HR0 HFR
          go_upto_region 7 with fail
          generalize w1.alloc (.cells #[.int .i64 (n : Int), .int .i64 0, .int .u64 0, .int .u64 0, .string ⟨#[]⟩, .int .u32 0, .int .i64 0, .int .i64 0, .int .i64 0] 84) = W2 at *
          generalize w1.heap.size = q at *
          clear HB1
          have c1 : W2.cell? ⟨g, og + 1, none⟩ = some (.string s) := HWC.out W2 HC2.out.bel 1 s rfl
          go_upto_region 8 with fail
          clear c1
          by_cases hA : s = ⟨#[38]⟩
          · subst hA
            by_cases ht : t.length < 2
            · have z4 : (LN : Int) < 5 := by have := HLN.out; omega
              have hre : _ := HC2.out.res
              have hbe : _ := HC2.out.bel
              obtain ⟨x0, x1, x2, x3, x4, x5, x6, x7, x8, xz0, xz1, xz2, xz3, xz4, xz5, xz6, xz7, xz8⟩ := row9 hre
              obtain ⟨y0, y1, y2, y3, y4, y5, y6, y7, y8, _⟩ := row9 (store9 hre (.int .i64 0) (.int .i64 0) (.int .u64 0) (.int .u64 0) (.string ⟨#[]⟩) (.int .u32 0) (.int .i64 0) (.int .i64 0) (.int .i64 0))
              have HBS := Lib.hid (below_store9 hbe (Nat.le_refl w.heap.size) (.int .i64 0) (.int .i64 0) (.int .u64 0) (.int .u64 0) (.string ⟨#[]⟩) (.int .u32 0) (.int .i64 0) (.int .i64 0) (.int .i64 0))
              have HF := Lib.hid (HZE.out (.inl ⟨rfl, rfl, fun c0 r hrd hw => by
                rcases (HFD.out c0 r hrd hw).2 with ⟨h3, h4, h5, h6⟩ | ⟨h3, h4, h5, h6⟩ | ⟨h3, h4, h5, h6⟩ | ⟨h3, h4, h5, h6⟩
                · have := congrArg List.length h6
                  simp at this
                  omega
                · exact absurd h4 (by decide)
                · exact absurd h4 (by decide)
                · exact (signW_ne h3).1 h4.symm
              ⟩))
              clear hre hbe
              go_wp2_with fail
              try simp only [Exit.inBlock, Exit.then]
              refine bodyPost_ret (by simp [results, Tryz.results49, go_sem, y0, y1, y2, y3, y4, y5, y6, y7, y8]; try rfl) rfl ?_
              exact ⟨HF.out, HBS.out⟩
            · have z4 : ¬ (LN : Int) < 5 := by have := HLN.out; omega
              have l3 : (3 : Int) < (LN : Int) := by omega
              have l4 : (4 : Int) < (LN : Int) := by omega
              obtain ⟨e0, z, t', HT⟩ : ∃ e0 z t', Hid (t = e0 :: z :: t') := by
                rcases t with _ | ⟨a, _ | ⟨b, t⟩⟩
                · simp at ht
                · simp at ht
                · exact ⟨a, b, t, rfl⟩
              clear ht
              have k3 : W2.cell? ⟨g, og + 3, none⟩ = some (.string e0) := HWC.out W2 HC2.out.bel 3 e0 (by rw [HT.out]; rfl)
              by_cases hE : e0 = ⟨#[61, 61]⟩
              · subst hE
                have k2 : W2.cell? ⟨g, og + 2, none⟩ = some (.string y) := HWC.out W2 HC2.out.bel 2 y rfl
                go_upto_region 12 with (go_at_call 48; refine cargs (by simp) ((HFG.out y _).mono ?_); rintro e w3 ⟨⟨m, ok3, rfl, hm, hfm⟩, hb3⟩; have HC3 := Lib.hid (HC2.out.below hb3); have HFM := Lib.hid hfm; clear hb3 hfm)
                clear k2 k3 HC2
                have k4 : w3.cell? ⟨g, og + 4, none⟩ = some (.string z) := HWC.out w3 HC3.out.bel 4 z (by show t[1]? = _; rw [HT.out]; rfl)
                go_upto_region 13 with (go_at_call 48; refine cargs (by simp) ((HFG.out z _).mono ?_); rintro e w4 ⟨⟨v, ok4, rfl, hv, hfv⟩, hb4⟩; have HC4 := Lib.hid (HC3.out.below hb4); have HFV := Lib.hid hfv; clear hb4 hfv)
                clear k4 HC3
                cases ok3 with
                | false =>
                  have hre : _ := HC4.out.res
                  have hbe : _ := HC4.out.bel
                  obtain ⟨x0, x1, x2, x3, x4, x5, x6, x7, x8, xz0, xz1, xz2, xz3, xz4, xz5, xz6, xz7, xz8⟩ := row9 hre
                  obtain ⟨y0, y1, y2, y3, y4, y5, y6, y7, y8, _⟩ := row9 (store9 hre (.int .i64 0) (.int .i64 0) (.int .u64 0) (.int .u64 0) (.string ⟨#[]⟩) (.int .u32 0) (.int .i64 0) (.int .i64 0) (.int .i64 0))
                  have HBS := Lib.hid (below_store9 hbe (Nat.le_refl w.heap.size) (.int .i64 0) (.int .i64 0) (.int .u64 0) (.int .u64 0) (.string ⟨#[]⟩) (.int .u32 0) (.int .i64 0) (.int .i64 0) (.int .i64 0))
                  have HF := Lib.hid (HZE.out (.inl ⟨rfl, rfl, fun c0 r hrd hw => by
                    rcases (HFD.out c0 r hrd hw).2 with ⟨h3, h4, h5, h6⟩ | ⟨h3, h4, h5, h6⟩ | ⟨h3, h4, h5, h6⟩ | ⟨h3, h4, h5, h6⟩
                    · have hmm := hrd.m
                      have := (HFM.out.2 c0.m.toNat (by omega) h5).2
                      cases this
                    · exact absurd h4 (by decide)
                    · exact absurd h4 (by decide)
                    · exact (signW_ne h3).1 h4.symm
                  ⟩))
                  clear hre hbe
                  go_wp2_with fail
                  try simp only [Exit.inBlock, Exit.then]
                  refine bodyPost_ret (by simp [results, Tryz.results49, go_sem, y0, y1, y2, y3, y4, y5, y6, y7, y8]; try rfl) rfl ?_
                  exact ⟨HF.out, HBS.out⟩
                | true =>
                  cases ok4 with
                  | false =>
                    have hre : _ := HC4.out.res
                    have hbe : _ := HC4.out.bel
                    obtain ⟨x0, x1, x2, x3, x4, x5, x6, x7, x8, xz0, xz1, xz2, xz3, xz4, xz5, xz6, xz7, xz8⟩ := row9 hre
                    obtain ⟨y0, y1, y2, y3, y4, y5, y6, y7, y8, _⟩ := row9 (store9 hre (.int .i64 0) (.int .i64 0) (.int .u64 0) (.int .u64 0) (.string ⟨#[]⟩) (.int .u32 0) (.int .i64 0) (.int .i64 0) (.int .i64 0))
                    have HBS := Lib.hid (below_store9 hbe (Nat.le_refl w.heap.size) (.int .i64 0) (.int .i64 0) (.int .u64 0) (.int .u64 0) (.string ⟨#[]⟩) (.int .u32 0) (.int .i64 0) (.int .i64 0) (.int .i64 0))
                    have HF := Lib.hid (HZE.out (.inl ⟨rfl, rfl, fun c0 r hrd hw => by
                      rcases (HFD.out c0 r hrd hw).2 with ⟨h3, h4, h5, h6⟩ | ⟨h3, h4, h5, h6⟩ | ⟨h3, h4, h5, h6⟩ | ⟨h3, h4, h5, h6⟩
                      · have hvv := hrd.v
                        rw [HT.out] at h6
                        simp only [List.map_cons, List.cons.injEq] at h6
                        have := (HFV.out.2 c0.v.toNat (by omega) h6.2.1).2
                        cases this
                      · exact absurd h4 (by decide)
                      · exact absurd h4 (by decide)
                      · exact (signW_ne h3).1 h4.symm
                    ⟩))
                    clear hre hbe
                    go_wp2_with fail
                    try simp only [Exit.inBlock, Exit.then]
                    refine bodyPost_ret (by simp [results, Tryz.results49, go_sem, y0, y1, y2, y3, y4, y5, y6, y7, y8]; try rfl) rfl ?_
                    exact ⟨HF.out, HBS.out⟩
                  | true =>
                    obtain ⟨c0, c1, c2, c3, c4, c5, c6, c7, c8, cz0, cz1, cz2, cz3, cz4, cz5, cz6, cz7, cz8⟩ := row9 HC4.out.cnd
                    go_upto_region 18 with fail
                    clear c0 c1 c2 c3 c4 c5 c6 c7 c8 cz0 cz1 cz2 cz3 cz4 cz5 cz6 cz7 cz8
                    have HC5 : Hid (CO w (((w4.setCell ⟨q, 1, none⟩ (.int .i64 7)).setCell ⟨q, 3, none⟩ (.int .u64 (m : Int))).setCell ⟨q, 2, none⟩ (.int .u64 (v : Int))) q #[.int .i64 (n : Int), .int .i64 7, .int .u64 (v : Int), .int .u64 (m : Int), .string ⟨#[]⟩, .int .u32 0, .int .i64 0, .int .i64 0, .int .i64 0]) := ((HC4.out.set 1 (.int .i64 7)).set 3 (.int .u64 (m : Int))).set 2 (.int .u64 (v : Int))
                    generalize ((w4.setCell ⟨q, 1, none⟩ (.int .i64 7)).setCell ⟨q, 3, none⟩ (.int .u64 (m : Int))).setCell ⟨q, 2, none⟩ (.int .u64 (v : Int)) = W5 at *
                    clear HC4
                    have HFX : Hid (CondOfE (x :: ⟨#[38]⟩ :: y :: t) (.returned (.tuple #[.agg #[.int .i64 (n : Int), .int .i64 7, .int .u64 (v : Int), .int .u64 (m : Int), .string ⟨#[]⟩, .int .u32 0, .int .i64 0, .int .i64 0, .int .i64 0], .int .i64 5]))) := by
                      rw [HT.out]
                      exact condOfE_mask HX.out (by omega) (HFM.out.1 rfl) hm (HFV.out.1 rfl) hv
                    obtain ⟨x0, x1, x2, x3, x4, x5, x6, x7, x8, xz0, xz1, xz2, xz3, xz4, xz5, xz6, xz7, xz8⟩ := row9 HC5.out.res
                    obtain ⟨d0, d1, d2, d3, d4, d5, d6, d7, d8, dz0, dz1, dz2, dz3, dz4, dz5, dz6, dz7, dz8⟩ := row9 HC5.out.cnd
                    obtain ⟨y0, y1, y2, y3, y4, y5, y6, y7, y8, _⟩ := row9 (store9 HC5.out.res (.int .i64 (n : Int)) (.int .i64 7) (.int .u64 (v : Int)) (.int .u64 (m : Int)) (.string ⟨#[]⟩) (.int .u32 0) (.int .i64 0) (.int .i64 0) (.int .i64 0))
                    have HBS := Lib.hid (below_store9 HC5.out.bel (Nat.le_refl w.heap.size) (.int .i64 (n : Int)) (.int .i64 7) (.int .u64 (v : Int)) (.int .u64 (m : Int)) (.string ⟨#[]⟩) (.int .u32 0) (.int .i64 0) (.int .i64 0) (.int .i64 0))
                    have HF : Hid (CondOfE _ (.returned (.tuple #[.agg #[.int .i64 (n : Int), .int .i64 7, .int .u64 (v : Int), .int .u64 (m : Int), .string ⟨#[]⟩, .int .u32 0, .int .i64 0, .int .i64 0, .int .i64 0], .int .i64 5]))) := HFX
                    go_wp2_with fail
                    try simp only [Exit.inBlock, Exit.then]
                    refine bodyPost_ret (by simp [results, Tryz.results49, go_sem, y0, y1, y2, y3, y4, y5, y6, y7, y8]; try rfl) rfl ?_
                    exact ⟨HF.out, HBS.out⟩
              · have tE : (e0.toList == [61, 61]) = false := tl_ne hE
                have HEN := Lib.hid hE
                clear hE
                have hre : _ := HC2.out.res
                have hbe : _ := HC2.out.bel
                obtain ⟨x0, x1, x2, x3, x4, x5, x6, x7, x8, xz0, xz1, xz2, xz3, xz4, xz5, xz6, xz7, xz8⟩ := row9 hre
                obtain ⟨y0, y1, y2, y3, y4, y5, y6, y7, y8, _⟩ := row9 (store9 hre (.int .i64 0) (.int .i64 0) (.int .u64 0) (.int .u64 0) (.string ⟨#[]⟩) (.int .u32 0) (.int .i64 0) (.int .i64 0) (.int .i64 0))
                have HBS := Lib.hid (below_store9 hbe (Nat.le_refl w.heap.size) (.int .i64 0) (.int .i64 0) (.int .u64 0) (.int .u64 0) (.string ⟨#[]⟩) (.int .u32 0) (.int .i64 0) (.int .i64 0) (.int .i64 0))
                have HF := Lib.hid (HZE.out (.inl ⟨rfl, rfl, fun c0 r hrd hw => by
                  rcases (HFD.out c0 r hrd hw).2 with ⟨h3, h4, h5, h6⟩ | ⟨h3, h4, h5, h6⟩ | ⟨h3, h4, h5, h6⟩ | ⟨h3, h4, h5, h6⟩
                  · rw [HT.out] at h6
                    simp only [List.map_cons, List.cons.injEq] at h6
                    exact HEN.out (bL_inj h6.1)
                  · exact absurd h4 (by decide)
                  · exact absurd h4 (by decide)
                  · exact (signW_ne h3).1 h4.symm
                ⟩))
                clear hre hbe
                go_wp2_with fail
                try simp only [Exit.inBlock, Exit.then]
                refine bodyPost_ret (by simp [results, Tryz.results49, go_sem, y0, y1, y2, y3, y4, y5, y6, y7, y8]; try rfl) rfl ?_
                exact ⟨HF.out, HBS.out⟩
          · have tA : (s.toList == [38]) = false := tl_ne hA
            have HNA := Lib.hid hA
            clear hA
            by_cases hL : s = ⟨#[126]⟩
            · subst hL
              clear tA HNA
              have k2 : W2.cell? ⟨g, og + 2, none⟩ = some (.string y) := HWC.out W2 HC2.out.bel 2 y rfl
              by_cases h2 : y.size < 2
              · have t2 : decide ((y.size : Int) < 2) = true := by simp; omega
                have t3 : (y.size : Int) < 2 := by omega
                have hre : _ := HC2.out.res
                have hbe : _ := HC2.out.bel
                obtain ⟨x0, x1, x2, x3, x4, x5, x6, x7, x8, xz0, xz1, xz2, xz3, xz4, xz5, xz6, xz7, xz8⟩ := row9 hre
                obtain ⟨y0, y1, y2, y3, y4, y5, y6, y7, y8, _⟩ := row9 (store9 hre (.int .i64 0) (.int .i64 0) (.int .u64 0) (.int .u64 0) (.string ⟨#[]⟩) (.int .u32 0) (.int .i64 0) (.int .i64 0) (.int .i64 0))
                have HBS := Lib.hid (below_store9 hbe (Nat.le_refl w.heap.size) (.int .i64 0) (.int .i64 0) (.int .u64 0) (.int .u64 0) (.string ⟨#[]⟩) (.int .u32 0) (.int .i64 0) (.int .i64 0) (.int .i64 0))
                have HF := Lib.hid (HZE.out (.inl ⟨rfl, rfl, fun c0 r hrd hw => by
                  rcases (HFD.out c0 r hrd hw).2 with ⟨h3, h4, h5, h6⟩ | ⟨h3, h4, h5, h6⟩ | ⟨h3, h4, h5, h6⟩ | ⟨h3, h4, h5, h6⟩
                  · exact absurd h4 (by decide)
                  · have hq2 := quote_bytes h5
                    omega
                  · exact absurd h4 (by decide)
                  · exact (signW_ne h3).2.1 h4.symm
                ⟩))
                clear hre hbe
                go_wp2_with fail
                try simp only [Exit.inBlock, Exit.then]
                refine bodyPost_ret (by simp [results, Tryz.results49, go_sem, y0, y1, y2, y3, y4, y5, y6, y7, y8]; try rfl) rfl ?_
                exact ⟨HF.out, HBS.out⟩
              · have t2 : decide ((y.size : Int) < 2) = false := by simp; omega
                have t3 : ¬ (y.size : Int) < 2 := by omega
                have hz0 : (0 : Int) < (y.size : Int) := by omega
                have hz1 : (0 : Int) ≤ (y.size : Int) - 1 := by omega
                have hz2 : ¬ (y.size : Int) - 1 < 1 := by omega
                have hz3 : ((y.size : Int) - 1).toNat = y.size - 1 := by omega
                have hz4 : (y.size : Int) - 1 < (y.size : Int) := by omega
                have hwr : wrap64 ((y.size : Int) - 1) = (y.size : Int) - 1 := IntWalk.wrap64_in _ (by omega)
                have gx := get_bt y
                by_cases hq0 : bt y 0 = 34
                · have t4 : (bt y 0 != 34) = false := by simpa using hq0
                  by_cases hq1 : bt y (y.size - 1) = 34
                  · have t5 : (bt y (y.size - 1) != 34) = false := by simpa using hq1
                    obtain ⟨c0, c1, c2, c3, c4, c5, c6, c7, c8, cz0, cz1, cz2, cz3, cz4, cz5, cz6, cz7, cz8⟩ := row9 HC2.out.cnd
                    have HQ := Lib.hid (quote_back h2 hq0 hq1)
                    clear hq0 hq1
                    go_upto_region 25 with fail
                    have HC5 : Hid (CO w ((W2.setCell ⟨q, 1, none⟩ (.int .i64 8)).setCell ⟨q, 4, none⟩ (.string (y.extract 1 (y.size - 1)))) q #[.int .i64 (n : Int), .int .i64 8, .int .u64 0, .int .u64 0, .string (y.extract 1 (y.size - 1)), .int .u32 0, .int .i64 0, .int .i64 0, .int .i64 0]) := (HC2.out.set 1 (.int .i64 8)).set 4 (.string (y.extract 1 (y.size - 1)))
                    generalize (W2.setCell ⟨q, 1, none⟩ (.int .i64 8)).setCell ⟨q, 4, none⟩ (.string (y.extract 1 (y.size - 1))) = W5 at *
                    clear c0 c1 c2 c3 c4 c5 c6 c7 c8 cz0 cz1 cz2 cz3 cz4 cz5 cz6 cz7 cz8
                    clear HC2 k2
                    have HFX : Hid (CondOfE (x :: ⟨#[126]⟩ :: y :: t) (.returned (.tuple #[.agg #[.int .i64 (n : Int), .int .i64 8, .int .u64 0, .int .u64 0, .string (y.extract 1 (y.size - 1)), .int .u32 0, .int .i64 0, .int .i64 0, .int .i64 0], .int .i64 3]))) := condOfE_like HX.out (by omega) HQ.out hys (HGY.out)
                    obtain ⟨x0, x1, x2, x3, x4, x5, x6, x7, x8, xz0, xz1, xz2, xz3, xz4, xz5, xz6, xz7, xz8⟩ := row9 HC5.out.res
                    obtain ⟨d0, d1, d2, d3, d4, d5, d6, d7, d8, dz0, dz1, dz2, dz3, dz4, dz5, dz6, dz7, dz8⟩ := row9 HC5.out.cnd
                    obtain ⟨y0, y1, y2, y3, y4, y5, y6, y7, y8, _⟩ := row9 (store9 HC5.out.res (.int .i64 (n : Int)) (.int .i64 8) (.int .u64 0) (.int .u64 0) (.string (y.extract 1 (y.size - 1))) (.int .u32 0) (.int .i64 0) (.int .i64 0) (.int .i64 0))
                    have HBS := Lib.hid (below_store9 HC5.out.bel (Nat.le_refl w.heap.size) (.int .i64 (n : Int)) (.int .i64 8) (.int .u64 0) (.int .u64 0) (.string (y.extract 1 (y.size - 1))) (.int .u32 0) (.int .i64 0) (.int .i64 0) (.int .i64 0))
                    have HF : Hid (CondOfE _ (.returned (.tuple #[.agg #[.int .i64 (n : Int), .int .i64 8, .int .u64 0, .int .u64 0, .string (y.extract 1 (y.size - 1)), .int .u32 0, .int .i64 0, .int .i64 0, .int .i64 0], .int .i64 3]))) := HFX
                    go_wp2_with fail
                    try simp only [Exit.inBlock, Exit.then]
                    refine bodyPost_ret (by simp [results, Tryz.results49, go_sem, y0, y1, y2, y3, y4, y5, y6, y7, y8]; try rfl) rfl ?_
                    exact ⟨HF.out, HBS.out⟩
                  · have t5 : (bt y (y.size - 1) != 34) = true := by simpa using hq1
                    have HQN := Lib.hid hq1
                    clear hq1
                    have hre : _ := HC2.out.res
                    have hbe : _ := HC2.out.bel
                    obtain ⟨x0, x1, x2, x3, x4, x5, x6, x7, x8, xz0, xz1, xz2, xz3, xz4, xz5, xz6, xz7, xz8⟩ := row9 hre
                    obtain ⟨y0, y1, y2, y3, y4, y5, y6, y7, y8, _⟩ := row9 (store9 hre (.int .i64 0) (.int .i64 0) (.int .u64 0) (.int .u64 0) (.string ⟨#[]⟩) (.int .u32 0) (.int .i64 0) (.int .i64 0) (.int .i64 0))
                    have HBS := Lib.hid (below_store9 hbe (Nat.le_refl w.heap.size) (.int .i64 0) (.int .i64 0) (.int .u64 0) (.int .u64 0) (.string ⟨#[]⟩) (.int .u32 0) (.int .i64 0) (.int .i64 0) (.int .i64 0))
                    have HF := Lib.hid (HZE.out (.inl ⟨rfl, rfl, fun c0 r hrd hw => by
                      rcases (HFD.out c0 r hrd hw).2 with ⟨h3, h4, h5, h6⟩ | ⟨h3, h4, h5, h6⟩ | ⟨h3, h4, h5, h6⟩ | ⟨h3, h4, h5, h6⟩
                      · exact absurd h4 (by decide)
                      · have hq2 := quote_bytes h5
                        exact HQN.out hq2.2.2
                      · exact absurd h4 (by decide)
                      · exact (signW_ne h3).2.1 h4.symm
                    ⟩))
                    clear hre hbe
                    go_wp2_with fail
                    try simp only [Exit.inBlock, Exit.then]
                    refine bodyPost_ret (by simp [results, Tryz.results49, go_sem, y0, y1, y2, y3, y4, y5, y6, y7, y8]; try rfl) rfl ?_
                    exact ⟨HF.out, HBS.out⟩
                · have t4 : (bt y 0 != 34) = true := by simpa using hq0
                  have HQN := Lib.hid hq0
                  clear hq0
                  have hre : _ := HC2.out.res
                  have hbe : _ := HC2.out.bel
                  obtain ⟨x0, x1, x2, x3, x4, x5, x6, x7, x8, xz0, xz1, xz2, xz3, xz4, xz5, xz6, xz7, xz8⟩ := row9 hre
                  obtain ⟨y0, y1, y2, y3, y4, y5, y6, y7, y8, _⟩ := row9 (store9 hre (.int .i64 0) (.int .i64 0) (.int .u64 0) (.int .u64 0) (.string ⟨#[]⟩) (.int .u32 0) (.int .i64 0) (.int .i64 0) (.int .i64 0))
                  have HBS := Lib.hid (below_store9 hbe (Nat.le_refl w.heap.size) (.int .i64 0) (.int .i64 0) (.int .u64 0) (.int .u64 0) (.string ⟨#[]⟩) (.int .u32 0) (.int .i64 0) (.int .i64 0) (.int .i64 0))
                  have HF := Lib.hid (HZE.out (.inl ⟨rfl, rfl, fun c0 r hrd hw => by
                    rcases (HFD.out c0 r hrd hw).2 with ⟨h3, h4, h5, h6⟩ | ⟨h3, h4, h5, h6⟩ | ⟨h3, h4, h5, h6⟩ | ⟨h3, h4, h5, h6⟩
                    · exact absurd h4 (by decide)
                    · have hq2 := quote_bytes h5
                      exact HQN.out hq2.2.1
                    · exact absurd h4 (by decide)
                    · exact (signW_ne h3).2.1 h4.symm
                  ⟩))
                  clear hre hbe
                  go_wp2_with fail
                  try simp only [Exit.inBlock, Exit.then]
                  refine bodyPost_ret (by simp [results, Tryz.results49, go_sem, y0, y1, y2, y3, y4, y5, y6, y7, y8]; try rfl) rfl ?_
                  exact ⟨HF.out, HBS.out⟩
            · have tL : (s.toList == [126]) = false := tl_ne hL
              have HNL := Lib.hid hL
              clear hL
              by_cases hI : s = ⟨#[105, 110]⟩
              · subst hI
                clear tA HNA tL HNL HFG
                have k2 : W2.cell? ⟨g, og + 2, none⟩ = some (.string y) := HWC.out W2 HC2.out.bel 2 y rfl
                have HNO : Hid (∀ W : World, Calls Tryz.prog 75 #[.string y] W fun e w' => ∃ (z : NetD) (ok : Bool), e = .returned (.tuple #[.agg #[.int .u32 z.ip, .int .i64 z.bits, .int .i64 z.lo, .int .i64 z.hi], .bool ok]) ∧ Hid (z.ok ∧ (ok = true → netF z = 0 ∧ bL y = textN z) ∧ (ok = false → ∀ u : NetD, u.ok → netF u = 0 → bL y ≠ textN u)) ∧ Below W.heap.size W w') := fun W => (netOf_any y W hys).mono fun e w' ⟨r, h1, h2, h3⟩ => netOf_plain h1 h2 h3
                go_upto_region 28 with (go_at_call 75; refine cargs (by simp) ((HNO.out _).mono ?_); rintro e w3 ⟨z, ok3, rfl, hz, hb3⟩; have HC3 := Lib.hid (HC2.out.below hb3); clear hb3)
                clear k2 HC2 HNO
                have hq3 := HC3.out.hqW
                have HC4 : Hid (CO w (w3.alloc (.cells #[.int .u32 z.ip, .int .i64 z.bits, .int .i64 z.lo, .int .i64 z.hi] 82)) q #[.int .i64 (n : Int), .int .i64 0, .int .u64 0, .int .u64 0, .string ⟨#[]⟩, .int .u32 0, .int .i64 0, .int .i64 0, .int .i64 0]) := HC3.out.below ((Below.refl _ _).alloc (Nat.le_refl _) _)
                have hnb := heap_alloc_new w3 (.cells #[.int .u32 z.ip, .int .i64 z.bits, .int .i64 z.lo, .int .i64 z.hi] 82)
                clear HC3
                generalize w3.alloc (.cells #[.int .u32 z.ip, .int .i64 z.bits, .int .i64 z.lo, .int .i64 z.hi] 82) = W4 at *
                generalize w3.heap.size = nb at *
                cases ok3 with
                | false =>
                  have hre : _ := HC4.out.res
                  have hbe : _ := HC4.out.bel
                  obtain ⟨x0, x1, x2, x3, x4, x5, x6, x7, x8, xz0, xz1, xz2, xz3, xz4, xz5, xz6, xz7, xz8⟩ := row9 hre
                  obtain ⟨y0, y1, y2, y3, y4, y5, y6, y7, y8, _⟩ := row9 (store9 hre (.int .i64 0) (.int .i64 0) (.int .u64 0) (.int .u64 0) (.string ⟨#[]⟩) (.int .u32 0) (.int .i64 0) (.int .i64 0) (.int .i64 0))
                  have HBS := Lib.hid (below_store9 hbe (Nat.le_refl w.heap.size) (.int .i64 0) (.int .i64 0) (.int .u64 0) (.int .u64 0) (.string ⟨#[]⟩) (.int .u32 0) (.int .i64 0) (.int .i64 0) (.int .i64 0))
                  have HF := Lib.hid (HZE.out (.inl ⟨rfl, rfl, fun c0 r hrd hw => by
                    rcases (HFD.out c0 r hrd hw).2 with ⟨h3, h4, h5, h6⟩ | ⟨h3, h4, h5, h6⟩ | ⟨h3, h4, h5, h6⟩ | ⟨h3, h4, h5, h6⟩
                    · exact absurd h4 (by decide)
                    · exact absurd h4 (by decide)
                    · exact hz.out.2.2 rfl c0.net (hrd.net h3).1 (hrd.net h3).2 h5
                    · exact (signW_ne h3).2.2.1 h4.symm
                  ⟩))
                  clear hre hbe
                  go_wp2_with fail
                  try simp only [Exit.inBlock, Exit.then]
                  refine bodyPost_ret (by simp [results, Tryz.results49, go_sem, y0, y1, y2, y3, y4, y5, y6, y7, y8]; try rfl) rfl ?_
                  exact ⟨HF.out, HBS.out⟩
                | true =>
                  obtain ⟨c0, c1, c2, c3, c4, c5, c6, c7, c8, cz0, cz1, cz2, cz3, cz4, cz5, cz6, cz7, cz8⟩ := row9 HC4.out.cnd
                  obtain ⟨n0, n1, n2, n3, nz0, nz1, nz2, nz3⟩ := row4 hnb
                  have hne : nb ≠ q := by omega
                  have m0 : (W4.setCell ⟨q, 1, none⟩ (.int .i64 9)).heap[nb]? = some (.cells #[.int .u32 z.ip, .int .i64 z.bits, .int .i64 z.lo, .int .i64 z.hi] 82 (0, 0)) := (heap_setCell_other W4 ⟨q, 1, none⟩ nb _ (fun e => hne e)).trans hnb
                  obtain ⟨n0', n1', n2', n3', nz0', nz1', nz2', nz3'⟩ := row4 m0
                  go_upto_region 32 with fail
                  clear m0 hnb n0 n1 n2 n3 nz0 nz1 nz2 nz3 n0' n1' n2' n3' nz0' nz1' nz2' nz3' c0 c1 c2 c3 c4 c5 c6 c7 c8 cz0 cz1 cz2 cz3 cz4 cz5 cz6 cz7 cz8
                  have HC5 : Hid (CO w (((((W4.setCell ⟨q, 1, none⟩ (.int .i64 9)).setCell ⟨q, 5, none⟩ (.int .u32 z.ip)).setCell ⟨q, 6, none⟩ (.int .i64 z.bits)).setCell ⟨q, 7, none⟩ (.int .i64 z.lo)).setCell ⟨q, 8, none⟩ (.int .i64 z.hi)) q #[.int .i64 (n : Int), .int .i64 9, .int .u64 0, .int .u64 0, .string ⟨#[]⟩, .int .u32 z.ip, .int .i64 z.bits, .int .i64 z.lo, .int .i64 z.hi]) := ((((HC4.out.set 1 (.int .i64 9)).set 5 (.int .u32 z.ip)).set 6 (.int .i64 z.bits)).set 7 (.int .i64 z.lo)).set 8 (.int .i64 z.hi)
                  generalize ((((W4.setCell ⟨q, 1, none⟩ (.int .i64 9)).setCell ⟨q, 5, none⟩ (.int .u32 z.ip)).setCell ⟨q, 6, none⟩ (.int .i64 z.bits)).setCell ⟨q, 7, none⟩ (.int .i64 z.lo)).setCell ⟨q, 8, none⟩ (.int .i64 z.hi) = W5 at *
                  clear HC4
                  have HFX : Hid (CondOfE (x :: ⟨#[105, 110]⟩ :: y :: t) (.returned (.tuple #[.agg #[.int .i64 (n : Int), .int .i64 9, .int .u64 0, .int .u64 0, .string ⟨#[]⟩, .int .u32 z.ip, .int .i64 z.bits, .int .i64 z.lo, .int .i64 z.hi], .int .i64 3]))) := condOfE_in HX.out (by omega) hz.out.1 (hz.out.2.1 rfl).1 (hz.out.2.1 rfl).2
                  obtain ⟨x0, x1, x2, x3, x4, x5, x6, x7, x8, xz0, xz1, xz2, xz3, xz4, xz5, xz6, xz7, xz8⟩ := row9 HC5.out.res
                  obtain ⟨d0, d1, d2, d3, d4, d5, d6, d7, d8, dz0, dz1, dz2, dz3, dz4, dz5, dz6, dz7, dz8⟩ := row9 HC5.out.cnd
                  obtain ⟨y0, y1, y2, y3, y4, y5, y6, y7, y8, _⟩ := row9 (store9 HC5.out.res (.int .i64 (n : Int)) (.int .i64 9) (.int .u64 0) (.int .u64 0) (.string ⟨#[]⟩) (.int .u32 z.ip) (.int .i64 z.bits) (.int .i64 z.lo) (.int .i64 z.hi))
                  have HBS := Lib.hid (below_store9 HC5.out.bel (Nat.le_refl w.heap.size) (.int .i64 (n : Int)) (.int .i64 9) (.int .u64 0) (.int .u64 0) (.string ⟨#[]⟩) (.int .u32 z.ip) (.int .i64 z.bits) (.int .i64 z.lo) (.int .i64 z.hi))
                  have HF : Hid (CondOfE _ (.returned (.tuple #[.agg #[.int .i64 (n : Int), .int .i64 9, .int .u64 0, .int .u64 0, .string ⟨#[]⟩, .int .u32 z.ip, .int .i64 z.bits, .int .i64 z.lo, .int .i64 z.hi], .int .i64 3]))) := HFX
                  go_wp2_with fail
                  try simp only [Exit.inBlock, Exit.then]
                  refine bodyPost_ret (by simp [results, Tryz.results49, go_sem, y0, y1, y2, y3, y4, y5, y6, y7, y8]; try rfl) rfl ?_
                  exact ⟨HF.out, HBS.out⟩
              · have tI : (s.toList == [105, 110]) = false := tl_ne hI
                have HNX := Lib.hid (And.intro HNA.out (And.intro HNL.out hI))
                clear hI
                have HON : Hid (∀ k, 1 ≤ k → k ≤ 6 → signB k = s → opS s (k + 1) = k) := fun k h1 h6 h => by
                  have hne : s ≠ ByteArray.empty := fun e => by
                    rw [e] at h
                    have h8 := congrArg ByteArray.size h
                    have h7 : k = 1 ∨ k = 2 ∨ k = 3 ∨ k = 4 ∨ k = 5 ∨ k = 6 := by omega
                    rcases h7 with rfl | rfl | rfl | rfl | rfl | rfl <;> cases h8
                  rw [opS, if_pos ⟨h, hne⟩]
                have HOE : Hid (∀ k, ¬ signB k = s → opS s (k + 1) = opS s k) := fun k h1 => by rw [opS, if_neg (fun h => h1 h.1)]
                have HO7 : Hid (∀ j : Nat, 1 ≤ j → j ≤ 6 → bL s = signW j → opS s 7 = j) := fun j => opS_sign
                have HOV : Hid (opS s 7 ≠ 0 → 1 ≤ opS s 7 ∧ opS s 7 ≤ 6 ∧ bL s = signW (opS s 7)) := fun h => by
                  obtain ⟨h1, h2⟩ := opS_val s 7 h
                  exact ⟨by omega, by omega, (congrArg bL h1).symm.trans (by simp [bL, signB])⟩
                have HO1 : Hid (opS s 1 = 0) := by show _ = _; simp [opS]
                have HSC : Hid (∀ k, k < 7 → signsArr[k]? = some (.string (signB k))) := fun k h => signCell k h
                have HC3 : Hid (CO w (W2.alloc (.cells signsArr 128)) q #[.int .i64 (n : Int), .int .i64 0, .int .u64 0, .int .u64 0, .string ⟨#[]⟩, .int .u32 0, .int .i64 0, .int .i64 0, .int .i64 0]) := HC2.out.below ((Below.refl _ _).alloc (Nat.le_refl _) _)
                have hnb := heap_alloc_new W2 (.cells signsArr 128)
                have hqn := HC2.out.hqW
                unfold signsArr at hnb HC3
                clear HNA HNL HC2
                go_upto_region 34 with fail
                clear tA tL tI
                generalize W2.alloc (.cells #[.string ⟨#[]⟩, .string ⟨#[61, 61]⟩, .string ⟨#[33, 61]⟩, .string ⟨#[60]⟩, .string ⟨#[60, 61]⟩, .string ⟨#[62]⟩, .string ⟨#[62, 61]⟩] 128) = W3 at *
                generalize W2.heap.size = nb at *
                obtain ⟨SG, hSG⟩ : ∃ SG : Nat → ByteArray, SG = signB := ⟨_, rfl⟩
                obtain ⟨OP, hOP⟩ : ∃ OP : Nat → Nat, OP = opS s := ⟨_, rfl⟩
                obtain ⟨SA, hSA⟩ : ∃ SA : Array Value, SA = signsArr := ⟨_, rfl⟩
                have HNB : Hid (W3.heap[nb]? = some (.cells SA 128 (0, 0))) := by rw [hSA]; exact hnb
                rw [← hSG, ← hOP] at HON HOE
                rw [← hOP] at HO7 HOV HO1
                rw [← hSG, ← hSA] at HSC
                have HC4 : Hid (CO w W3 q #[.int .i64 (n : Int), .int .i64 ((OP 1 : Nat) : Int), .int .u64 0, .int .u64 0, .string ⟨#[]⟩, .int .u32 0, .int .i64 0, .int .i64 0, .int .i64 0]) := by rw [HO1.out]; exact HC3.out
                clear hSG hOP hSA hnb HO1 HC3
                go_wp2_with fail
                go_loopw [15] (fun iv wr => ∃ k : Nat, 1 ≤ k ∧ k ≤ 7 ∧ iv = .int .i64 k ∧ Hid (CO w wr q #[.int .i64 (n : Int), .int .i64 ((OP k : Nat) : Int), .int .u64 0, .int .u64 0, .string ⟨#[]⟩, .int .u32 0, .int .i64 0, .int .i64 0, .int .i64 0]) ∧ Hid (wr.heap[nb]? = some (.cells SA 128 (0, 0)))) (fun iv _ => 7 - (intOf iv).toNat)
                case atStart => exact ⟨1, by omega, by omega, rfl, HC4, HNB⟩
                case round =>
                  clear HC4 HNB
                  obtain ⟨k, hk1, hk, rfl, HC5, HNB5⟩ := hrel
                  by_cases hk7 : k < 7
                  · have z1 : (k : Int) < 7 := by omega
                    have z0 : (0 : Int) ≤ (k : Int) := by omega
                    have HON1 := Lib.hid (HON.out k hk1 (by omega))
                    have HOE1 := Lib.hid (HOE.out k)
                    have sc : wr.cell? ⟨nb, k, none⟩ = some (.string (SG k)) := (cell_of_row _ _ _ _ _ _ HNB5.out).trans (HSC.out k hk7)
                    have c1 : wr.cell? ⟨g, og + 1, none⟩ = some (.string s) := HWC.out wr HC5.out.bel 1 s rfl
                    clear HON HOE HO7 HOV HSC
                    generalize SG k = Y at *
                    by_cases hY : Y = s
                    · subst hY
                      have HQ := Lib.hid (fun m => HC5.out.drewN m)
                      have HQN : Hid (∀ m, (wr.drewN m).heap[nb]? = some (.cells SA 128 (0, 0))) := fun m => HNB5.out
                      go_upto_region 37 with fail
                      go_quiet (fail)
                      have HQ1 := Lib.hid (HQ.out nq)
                      have HQ2 := Lib.hid (HQN.out nq)
                      clear HQ HQN HC5 HNB5 sc c1
                      generalize wr.drewN nq = Wq at *
                      have HC6 : Hid (CO w (Wq.setCell ⟨q, 1, none⟩ (.int .i64 (k : Int))) q #[.int .i64 (n : Int), .int .i64 ((OP (k + 1) : Nat) : Int), .int .u64 0, .int .u64 0, .string ⟨#[]⟩, .int .u32 0, .int .i64 0, .int .i64 0, .int .i64 0]) := by
                        rw [HON1.out rfl]; exact HQ1.out.set 1 (.int .i64 (k : Int))
                      have HN6 : Hid ((Wq.setCell ⟨q, 1, none⟩ (.int .i64 (k : Int))).heap[nb]? = some (.cells SA 128 (0, 0))) := (heap_setCell_other Wq ⟨q, 1, none⟩ nb _ (fun e => by simp at e; omega)).trans HQ2.out
                      obtain ⟨d0, d1, d2, d3, d4, d5, d6, d7, d8, dz0, dz1, dz2, dz3, dz4, dz5, dz6, dz7, dz8⟩ := row9 HQ1.out.cnd
                      go_wp2_with fail
                      go_roundw
                      case rel => exact ⟨k + 1, by omega, by omega, by go_num, HC6, HN6⟩
                      case measure => simp [intOf]; omega
                    · have z3 : (Y.toList == s.toList) = false := beq_eq_false_iff_ne.2 (fun e => hY (by rw [tl_eq, tl_eq] at e; exact ba_ext e))
                      have HC6 : Hid (∀ m, CO w (wr.drewN m) q #[.int .i64 (n : Int), .int .i64 ((OP (k + 1) : Nat) : Int), .int .u64 0, .int .u64 0, .string ⟨#[]⟩, .int .u32 0, .int .i64 0, .int .i64 0, .int .i64 0]) := by
                        rw [HOE1.out hY]; exact fun m => HC5.out.drewN m
                      have HN6 : Hid (∀ m, (wr.drewN m).heap[nb]? = some (.cells SA 128 (0, 0))) := fun m => HNB5.out
                      clear hY
                      go_upto_region 37 with fail
                      go_quiet (fail)
                      go_wp2_with fail
                      go_roundw
                      case rel => exact ⟨k + 1, by omega, by omega, by go_num, HC6.out _, HN6.out _⟩
                      case measure => simp [intOf]; omega
                  · obtain rfl : k = 7 := by omega
                    have HO7' := Lib.hid HO7.out
                    clear HON HOE HO7 HSC HNB5
                    generalize OP 7 = O7 at *
                    have k2 : wr.cell? ⟨g, og + 2, none⟩ = some (.string y) := HWC.out wr HC5.out.bel 2 y rfl
                    go_upto_region 40 with (go_at_call 48; refine cargs (by simp) ((HFG.out y _).mono ?_); rintro e w6 ⟨⟨v, okv, rfl, hv, hfv⟩, hb6⟩; have HC6 := Lib.hid (HC5.out.below hb6); have HFV := Lib.hid hfv; clear hb6 hfv)
                    clear k2 HC5
                    obtain ⟨c0, c1, c2, c3, c4, c5, c6, c7, c8, cz0, cz1, cz2, cz3, cz4, cz5, cz6, cz7, cz8⟩ := row9 HC6.out.cnd
                    by_cases hO : O7 = 0
                    · subst hO
                      have hre : _ := HC6.out.res
                      have hbe : _ := HC6.out.bel
                      obtain ⟨x0, x1, x2, x3, x4, x5, x6, x7, x8, xz0, xz1, xz2, xz3, xz4, xz5, xz6, xz7, xz8⟩ := row9 hre
                      obtain ⟨y0, y1, y2, y3, y4, y5, y6, y7, y8, _⟩ := row9 (store9 hre (.int .i64 0) (.int .i64 0) (.int .u64 0) (.int .u64 0) (.string ⟨#[]⟩) (.int .u32 0) (.int .i64 0) (.int .i64 0) (.int .i64 0))
                      have HBS := Lib.hid (below_store9 hbe (Nat.le_refl w.heap.size) (.int .i64 0) (.int .i64 0) (.int .u64 0) (.int .u64 0) (.string ⟨#[]⟩) (.int .u32 0) (.int .i64 0) (.int .i64 0) (.int .i64 0))
                      have HF := Lib.hid (HZE.out (.inl ⟨rfl, rfl, fun c0 r hrd hw => by
                        rcases (HFD.out c0 r hrd hw).2 with ⟨h3, h4, h5, h6⟩ | ⟨h3, h4, h5, h6⟩ | ⟨h3, h4, h5, h6⟩ | ⟨h3, h4, h5, h6⟩
                        · exact HNX.out.1 h4
                        · exact HNX.out.2.1 h4
                        · exact HNX.out.2.2 h4
                        · have := HO7'.out c0.op.toNat (by omega) (by omega) h4
                          omega
                      ⟩))
                      clear hre hbe
                      go_wp2_with fail
                      try simp only [Exit.inBlock, Exit.then]
                      refine bodyPost_ret (by simp [results, Tryz.results49, go_sem, y0, y1, y2, y3, y4, y5, y6, y7, y8]; try rfl) rfl ?_
                      exact ⟨HF.out, HBS.out⟩
                    · have u1 : ((O7 : Int) == 0) = false := by simp; omega
                      have u2 : ¬ (O7 : Int) = 0 := by omega
                      have HV3 := Lib.hid (HOV.out hO)
                      have hO6 := (HOV.out hO).2.1
                      clear hO HOV HO7'
                      cases okv with
                      | false =>
                        have hre : _ := HC6.out.res
                        have hbe : _ := HC6.out.bel
                        obtain ⟨x0, x1, x2, x3, x4, x5, x6, x7, x8, xz0, xz1, xz2, xz3, xz4, xz5, xz6, xz7, xz8⟩ := row9 hre
                        obtain ⟨y0, y1, y2, y3, y4, y5, y6, y7, y8, _⟩ := row9 (store9 hre (.int .i64 0) (.int .i64 0) (.int .u64 0) (.int .u64 0) (.string ⟨#[]⟩) (.int .u32 0) (.int .i64 0) (.int .i64 0) (.int .i64 0))
                        have HBS := Lib.hid (below_store9 hbe (Nat.le_refl w.heap.size) (.int .i64 0) (.int .i64 0) (.int .u64 0) (.int .u64 0) (.string ⟨#[]⟩) (.int .u32 0) (.int .i64 0) (.int .i64 0) (.int .i64 0))
                        have HF := Lib.hid (HZE.out (.inl ⟨rfl, rfl, fun c0 r hrd hw => by
                          rcases (HFD.out c0 r hrd hw).2 with ⟨h3, h4, h5, h6⟩ | ⟨h3, h4, h5, h6⟩ | ⟨h3, h4, h5, h6⟩ | ⟨h3, h4, h5, h6⟩
                          · exact HNX.out.1 h4
                          · exact HNX.out.2.1 h4
                          · exact HNX.out.2.2 h4
                          · have hvv := hrd.v
                            have := (HFV.out.2 c0.v.toNat (by omega) h5).2
                            cases this
                        ⟩))
                        clear hre hbe
                        go_wp2_with fail
                        try simp only [Exit.inBlock, Exit.then]
                        refine bodyPost_ret (by simp [results, Tryz.results49, go_sem, y0, y1, y2, y3, y4, y5, y6, y7, y8]; try rfl) rfl ?_
                        exact ⟨HF.out, HBS.out⟩
                      | true =>
                        go_upto_region 43 with fail
                        have HC7 : Hid (CO w (w6.setCell ⟨q, 2, none⟩ (.int .u64 (v : Int))) q #[.int .i64 (n : Int), .int .i64 (O7 : Int), .int .u64 (v : Int), .int .u64 0, .string ⟨#[]⟩, .int .u32 0, .int .i64 0, .int .i64 0, .int .i64 0]) := HC6.out.set 2 (.int .u64 (v : Int))
                        generalize w6.setCell ⟨q, 2, none⟩ (.int .u64 (v : Int)) = W7 at *
                        clear c0 c1 c2 c3 c4 c5 c6 c7 c8 cz0 cz1 cz2 cz3 cz4 cz5 cz6 cz7 cz8
                        clear HC6
                        have HFX : Hid (CondOfE (x :: s :: y :: t) (.returned (.tuple #[.agg #[.int .i64 (n : Int), .int .i64 (O7 : Int), .int .u64 (v : Int), .int .u64 0, .string ⟨#[]⟩, .int .u32 0, .int .i64 0, .int .i64 0, .int .i64 0], .int .i64 3]))) := condOfE_cmp HX.out (by omega) ⟨HV3.out.1, HV3.out.2.1⟩ HV3.out.2.2 (HFV.out.1 rfl) hv
                        obtain ⟨x0, x1, x2, x3, x4, x5, x6, x7, x8, xz0, xz1, xz2, xz3, xz4, xz5, xz6, xz7, xz8⟩ := row9 HC7.out.res
                        obtain ⟨d0, d1, d2, d3, d4, d5, d6, d7, d8, dz0, dz1, dz2, dz3, dz4, dz5, dz6, dz7, dz8⟩ := row9 HC7.out.cnd
                        obtain ⟨y0, y1, y2, y3, y4, y5, y6, y7, y8, _⟩ := row9 (store9 HC7.out.res (.int .i64 (n : Int)) (.int .i64 (O7 : Int)) (.int .u64 (v : Int)) (.int .u64 0) (.string ⟨#[]⟩) (.int .u32 0) (.int .i64 0) (.int .i64 0) (.int .i64 0))
                        have HBS := Lib.hid (below_store9 HC7.out.bel (Nat.le_refl w.heap.size) (.int .i64 (n : Int)) (.int .i64 (O7 : Int)) (.int .u64 (v : Int)) (.int .u64 0) (.string ⟨#[]⟩) (.int .u32 0) (.int .i64 0) (.int .i64 0) (.int .i64 0))
                        have HF : Hid (CondOfE _ (.returned (.tuple #[.agg #[.int .i64 (n : Int), .int .i64 (O7 : Int), .int .u64 (v : Int), .int .u64 0, .string ⟨#[]⟩, .int .u32 0, .int .i64 0, .int .i64 0, .int .i64 0], .int .i64 3]))) := HFX
                        go_wp2_with fail
                        try simp only [Exit.inBlock, Exit.then]
                        refine bodyPost_ret (by simp [results, Tryz.results49, go_sem, y0, y1, y2, y3, y4, y5, y6, y7, y8]; try rfl) rfl ?_
                        exact ⟨HF.out, HBS.out⟩
end Go.Proofs.YtmgngapkgcofnaaGreatDoor
