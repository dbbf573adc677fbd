/- The maker of a program: half, ret, away, need: the walks. -/
import Derived.Test.YtmgngapkgcofnabMaker
import Derived.Deep.RegionLaw
import Derived.Deep.AppendLies
namespace Go.Proofs.Ytmgngapkgcofnab
open Go.RowKit Go.PlainAid

theorem MakerAt.lt {w : World} {m : Nat} {l : List Ins} {op : List Int} (h : MakerAt w m l op) : m < w.heap.size := by
  obtain ⟨lv, ov, hm, _⟩ := h.rep
  rcases Nat.lt_or_ge m w.heap.size with h1 | h1
  · exact h1
  · simp [Array.getElem?_eq_none h1] at hm
theorem MakerAt.via {w w' : World} {m H : Nat} {l : List Ins} {op : List Int} (h : MakerAt w m l op) (hb : Below H w w') (hH : w.heap.size ≤ H) : MakerAt w' m l op := by
  have hms := h.lt
  obtain ⟨lv, ov, hm, hL, hO⟩ := h.rep
  have hg : w.grownBy w' none := ⟨hb.os, hb.tape, hb.output, hb.size, fun k hk _ => hb.block k (by omega)⟩
  exact ⟨lv, ov, (hb.block m (by omega)).trans hm, hL.kept hg (by cases hv : lv.ownBlock <;> simp), hO.kept hg (by cases hv : ov.ownBlock <;> simp)⟩

set_option linter.unusedSimpArgs false in
set_option maxHeartbeats 2000000 in
theorem half_any (m : Nat) (l : List Ins) (op : List Int) (a hi : Nat) (w : World) (h : MakerAt w m l op) (hl : l.length ≤ 100000) (ha : a < 4) (hh : hi < 2) :
    Calls Try.prog 23 #[.pointer (some ⟨m, 0, none⟩), .int .i64 a, .int .i64 hi] w fun e w' => e = .returned (.tuple #[]) ∧ MakerAt w' m (l ++ [Ins.mk 1 0 0 ((8 + 8 * a + 4 * hi : Nat) : Int)]) op ∧ Bel m w w' := by
  have HA : Hid (Calls Try.prog 11 #[.pointer (some ⟨m, 0, none⟩), .int .i64 1, .int .i64 0, .int .i64 0, .int .u32 ((8 + 8 * a + 4 * hi : Nat) : Int)] w fun e w' => e = .returned (.tuple #[]) ∧ MakerAt w' m (l ++ [Ins.mk 1 0 0 ((8 + 8 * a + 4 * hi : Nat) : Int)]) op ∧ Bel m w w') := add_any m l op 1 0 0 _ w h hl
  have x1 : (a : Int) < 4 := by omega
  have x2 : (hi : Int) < 2 := by omega
  have x3 : (0 : Int) ≤ (a : Int) := by omega
  have x4 : (0 : Int) ≤ (hi : Int) := by omega
  clear h
  go_enter Try.func23, Try.ntmps23
  go_wp2_with (go_at_call 11; refine cargs (by simp [Act.eval]; try omega) (HA.out.mono ?_); rintro e w1 ⟨rfl, hM, hb⟩; have HM := Lib.hid hM; clear hM)
  go_returns
  exact ⟨rfl, HM.out, hb⟩

def retK (k e : Int) : Int := if k = 1 then 2147418112 else if k = 2 then 327680 + e else 0
set_option linter.unusedSimpArgs false in
set_option maxRecDepth 100000 in
set_option maxHeartbeats 2000000 in
theorem ret_any (m : Nat) (l : List Ins) (op : List Int) (k e : Int) (w : World) (h : MakerAt w m l op) (hl : l.length ≤ 100000) (he : k = 2 → 0 ≤ e ∧ e < 65536) :
    Calls Try.prog 12 #[.pointer (some ⟨m, 0, none⟩), .agg #[.int .i64 k, .int .i64 e]] w fun e' w' => e' = .returned (.tuple #[]) ∧ MakerAt w' m (l ++ [Ins.mk 8 0 0 (retK k e)]) op ∧ Bel m w w' := by
  have hbx : ∀ o : Obj, Below w.heap.size w (w.alloc o) := fun o => (Below.refl _ _).alloc (Nat.le_refl _) _
  have hms := h.lt
  have HA : Hid (∀ o : Obj, Calls Try.prog 11 #[.pointer (some ⟨m, 0, none⟩), .int .i64 8, .int .i64 0, .int .i64 0, .int .u32 (retK k e)] (w.alloc o) fun e' w' => e' = .returned (.tuple #[]) ∧ MakerAt w' m (l ++ [Ins.mk 8 0 0 (retK k e)]) op ∧ Bel m w w') := fun o =>
    (add_any m l op 8 0 0 _ (w.alloc o) (h.via (hbx o) (Nat.le_refl _)) hl).mono fun e' w' ⟨h1, h2, h3⟩ => ⟨h1, h2, (Bel.of_below (hbx o) (Nat.le_of_lt hms)).trans h3⟩
  clear h hbx
  by_cases k1 : k = 1
  · subst k1
    have hk : retK 1 e = 2147418112 := rfl
    rw [hk] at HA ⊢
    clear hk he
    go_enter Try.func12, Try.ntmps12
    go_wp2_with (go_at_call 11; refine cargs (by simp [Act.eval]) ((HA.out _).mono ?_); rintro e w1 ⟨rfl, hM, hb⟩; have HM := Lib.hid hM; clear hM)
    go_returns
    exact ⟨rfl, HM.out, hb⟩
  · by_cases k2 : k = 2
    · subst k2
      obtain ⟨e0, e1⟩ := he rfl
      obtain ⟨n, rfl⟩ : ∃ n : Nat, e = n := ⟨e.toNat, by omega⟩
      have hk : retK 2 n = ((327680 + n : Nat) : Int) := by unfold retK; rw [if_neg (by omega), if_pos rfl]; omega
      rw [hk] at HA ⊢
      have hor : bits .or .u32 327680 (n : Int) = ((327680 + n : Nat) : Int) := by
        rw [show (327680 : Int) = ((327680 : Nat) : Int) from rfl, u32_or_nat _ _ (by omega) (by omega), nat_join 16 _ _ (by omega) (by omega)]
      have x1 : (0 : Int) ≤ (n : Int) := by omega
      have x2 : (n : Int) < 65536 := by omega
      generalize (327680 + n : Nat) = K at *
      clear hk he
      go_enter Try.func12, Try.ntmps12
      go_wp2_with (go_at_call 11; refine cargs (by simp [Act.eval]) ((HA.out _).mono ?_); rintro e w1 ⟨rfl, hM, hb⟩; have HM := Lib.hid hM; clear hM)
      go_returns
      exact ⟨rfl, HM.out, hb⟩
    · have hk : retK k e = 0 := by unfold retK; rw [if_neg k1, if_neg k2]
      rw [hk] at HA ⊢
      clear hk he
      go_enter Try.func12, Try.ntmps12
      go_wp2_with (go_at_call 11; refine cargs (by simp [Act.eval]) ((HA.out _).mono ?_); rintro e w1 ⟨rfl, hM, hb⟩; have HM := Lib.hid hM; clear hM)
      go_returns
      exact ⟨rfl, HM.out, hb⟩

theorem intInfo : (Try.prog.info? 3).map (fun i => (i.zero, i.size, i.bytes)) = some (some (.int .i64 0), 1, 8) := by kernel_rfl
theorem int_cell1 (W : World) (b : Nat) (t : TypeId) (v : Value) (hc : W.heap[b]? = some (.cells #[v] t (0, 0))) :
    ∀ (j : Nat) (u : Value), [v][j]? = some u → W.cell? ((⟨b, 0, none⟩ : Addr).add j) = some u := by
  intro j u hu
  match j, hu with
  | 0, hu => simp at hu; subst hu; simp [Addr.add, World.cell?, hc]
set_option linter.unusedSimpArgs false in
set_option maxRecDepth 100000 in
set_option maxHeartbeats 4000000 in
theorem away_any (m : Nat) (l : List Ins) (op : List Int) (w : World) (h : MakerAt w m l op) (hl : l.length ≤ 100000) (ho : op.length ≤ 100000) :
    Calls Try.prog 22 #[.pointer (some ⟨m, 0, none⟩)] w fun e w' => e = .returned (.tuple #[]) ∧ MakerAt w' m (l ++ [Ins.mk 3 0 0 0]) (op ++ [(l.length : Int)]) ∧ Bel m w w' := by
  have hms := h.lt
  obtain ⟨lv, ov, hm, hL, hO⟩ := h.rep
  obtain ⟨AL, cL, rfl⟩ := own_form2 hL
  obtain ⟨AO, cO, rfl⟩ := own_form2 hO
  obtain ⟨i0, hi, hz0, hz1, hz2⟩ := info_parts intInfo
  have c0 : w.cell? ⟨m, 0, none⟩ = some (.slice AL l.length cL) := by
    rw [cell_of_row w _ _ _ _ _ hm]; rfl
  have c1 : w.cell? ⟨m, 1, none⟩ = some (.slice AO op.length cO) := by
    rw [cell_of_row w _ _ _ _ _ hm]; rfl
  have hsz : (op.map (Value.int .i64)).length = op.length := by simp
  have HLI : Hid (w.drew.ownsRow (m + 1) 68 4 (.slice AL l.length cL) l.length (flat l)) := hL.drew
  have HOI : Hid (w.drew.ownsRow (m + 1) 3 1 (.slice AO op.length cO) op.length (op.map (Value.int .i64))) := hO.drew
  have HMB : Hid (∀ o w1, (w.drew.alloc o).grownBy w1 (Value.slice AO op.length cO).ownBlock → w1.heap[m]? = some (.cells #[.slice AL l.length cL, .slice AO op.length cO] 52 (0, 0))) := fun o w1 hg => (hg.block m (by simp; exact Nat.lt_succ_of_lt hms) (own_not hO)).trans ((heap_alloc_old w.drew o hms).trans hm)
  have HOK : Hid (∀ o w1, (w.drew.alloc o).grownBy w1 (Value.slice AO op.length cO).ownBlock → w1.ownsRow (m + 1) 68 4 (.slice AL l.length cL) l.length (flat l)) := fun o w1 hg => (hL.drew.alloc o).kept hg (own_apart hL hO (by decide))
  have HBL : Hid (∀ o w1, (w.drew.alloc o).grownBy w1 (Value.slice AO op.length cO).ownBlock → Bel m w w1) := fun o w1 hg => Bel.grown (w := w) hO (Or.inr rfl) hms o ⟨hg.os, hg.tape, hg.output, hg.size, hg.block⟩
  clear hL hO hm h
  go_enter Try.func22, Try.ntmps22
  go_wp2_with fail
  go_region_law (refine step_append_lies _ rfl (.tmp 6) (.tmp 12) _ rfl (m + 1) 3 i0 _ 1 8 Try.underlying50 hi hz0 hz1 hz2 rfl (by omega) (.slice AO op.length cO) op.length (op.map (Value.int .i64)) (by simp [Act.eval]) (HOI.out.alloc _) ⟨w.heap.size, 0, none⟩ 1 1 [.int .i64 (l.length : Int)] (by simp [Act.eval]) rfl (int_cell1 _ _ _ _ (heap_alloc_new _ _)) (by simp [Value.oneCell']) (by omega) (by unfold maxLen; omega) (by omega) (by simp; omega) _ rfl ?_; intro g cap w1 hown3 hgrow hat hlt2; have hmb := HMB.out _ _ hgrow; have c2 : w1.cell? ⟨m, 1, none⟩ = some (.slice AO op.length cO) := (cell_of_row w1 _ _ _ _ _ hmb).trans rfl; have f2 := frozen_of_row w1 m 1 _ _ hmb; have HB := Lib.hid (HBL.out _ _ hgrow); have HO2 := Lib.hid (HOK.out _ _ hgrow); have HMM := Lib.hid hmb; have H3 := Lib.hid hown3; clear hown3 hgrow hmb)
  all_goals
    have H4 : w1.ownsRow (m + 1) 3 1 (.slice (some ⟨g, 0, none⟩) (op.length + 1) cap) (op ++ [(l.length : Int)]).length ((op ++ [(l.length : Int)]).map (Value.int .i64)) := by
      rw [List.map_append, List.length_append]; exact H3.out
    have HA := Lib.hid (add_any m l (op ++ [(l.length : Int)]) 3 0 0 0 _ (maker_set1 HMM.out HO2.out H4) hl)
    have HB2 : Hid (Bel m w (w1.setCell ⟨m, 1, none⟩ (.slice (some ⟨g, 0, none⟩) (op.length + 1) cap))) := HB.out.set HMM.out _ _
    clear H4 hat hlt2
    go_wp2_with (go_at_call 11; refine cargs (by simp [Act.eval]) (HA.out.mono ?_); rintro e w2 ⟨rfl, hM, hb⟩; have HM := Lib.hid hM; clear hM)
    go_returns
    exact ⟨rfl, HM.out, HB2.out.trans hb⟩

set_option linter.unusedSimpArgs false in
set_option maxHeartbeats 2000000 in
theorem need_any (m : Nat) (l : List Ins) (op : List Int) (o k : Int) (w : World) (h : MakerAt w m l op) (hl : l.length < 100000) (ho : op.length ≤ 100000) :
    Calls Try.prog 13 #[.pointer (some ⟨m, 0, none⟩), .int .i64 o, .int .u32 k] w fun e w' => e = .returned (.tuple #[]) ∧ MakerAt w' m (l ++ [Ins.mk o 1 0 k, Ins.mk 3 0 0 0]) (op ++ [((l.length + 1 : Nat) : Int)]) ∧ Bel m w w' := by
  have HA := Lib.hid (add_any m l op o 1 0 k w h (by omega))
  have HB : Hid (∀ w1, MakerAt w1 m (l ++ [Ins.mk o 1 0 k]) op → Calls Try.prog 22 #[.pointer (some ⟨m, 0, none⟩)] w1 fun e w' => e = .returned (.tuple #[]) ∧ MakerAt w' m (l ++ [Ins.mk o 1 0 k, Ins.mk 3 0 0 0]) (op ++ [((l.length + 1 : Nat) : Int)]) ∧ Bel m w1 w') := fun w1 h1 => by
    have := away_any m (l ++ [Ins.mk o 1 0 k]) op w1 h1 (by simp; omega) ho
    simp only [List.append_assoc, List.length_append, List.length_cons, List.length_nil, List.cons_append, List.nil_append] at this
    exact this
  clear h
  go_enter Try.func13, Try.ntmps13
  go_wp2_with (first
    | (go_at_call 11; refine cargs (by simp [Act.eval]) (HA.out.mono ?_); rintro e w1 ⟨rfl, hM, hb⟩; have HM := Lib.hid hM; clear hM)
    | (go_at_call 22; refine cargs (by simp [Act.eval]) ((HB.out _ HM.out).mono ?_); rintro e w2 ⟨rfl, hM2, hb2⟩; have HM2 := Lib.hid hM2; clear hM2))
  go_returns
  exact ⟨rfl, HM2.out, hb.trans hb2⟩

end Go.Proofs.Ytmgngapkgcofnab
