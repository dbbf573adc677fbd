/- policy.Parse: the walk. Printed by genparsep.py. -/
import Derived.Test.YtmgngapkgcofnabGreatDoorP44
namespace Go.Proofs.YtmgngapkgcofnabGreatDoor
open Go.RowKit
theorem prow3 {w : World} {b : Nat} {t : TypeId} {a0 a1 a2 : Value} (h : w.heap[b]? = some (.cells #[a0, a1, a2] t (0, 0))) :
  w.cell? ⟨b, 0, none⟩ = some a0 ∧ w.cell? ⟨b, 1, none⟩ = some a1 ∧ w.cell? ⟨b, 2, none⟩ = some a2 ∧ w.frozen? ⟨b, 0, none⟩ = false ∧ w.frozen? ⟨b, 1, none⟩ = false ∧ w.frozen? ⟨b, 2, none⟩ = false :=
 ⟨(cell_of_row _ _ _ _ _ _ h).trans rfl, (cell_of_row _ _ _ _ _ _ h).trans rfl, (cell_of_row _ _ _ _ _ _ h).trans rfl, frozen_of_row _ _ _ _ _ h, frozen_of_row _ _ _ _ _ h, frozen_of_row _ _ _ _ _ h⟩
theorem words_new (w : World) (ws : List ByteArray) : WordsAt ((w.alloc (.cells (ws.map Value.string).toArray 9)).alloc (.cells #[.slice (some ⟨w.heap.size, 0, none⟩) ws.length ws.length, .bool false] 188)) (w.heap.size + 1 + 1) (w.heap.size + 1) ws false := by
 have e1 : (w.alloc (.cells (ws.map Value.string).toArray 9)).heap.size = w.heap.size + 1 := by simp
 have h1 := heap_alloc_new (w.alloc (.cells (ws.map Value.string).toArray 9)) (.cells #[.slice (some ⟨w.heap.size, 0, none⟩) ws.length ws.length, .bool false] 188); rw [e1] at h1; refine ⟨by omega, _, _, h1, .inr ⟨w.heap.size, 0, rfl, by omega, by omega, fun i x hx => ?_⟩, Nat.le_refl _⟩
 have hb : Below (w.alloc (.cells (ws.map Value.string).toArray 9)).heap.size (w.alloc (.cells (ws.map Value.string).toArray 9)) ((w.alloc (.cells (ws.map Value.string).toArray 9)).alloc (.cells #[.slice (some ⟨w.heap.size, 0, none⟩) ws.length ws.length, .bool false] 188)) := (Below.refl _ _).alloc (Nat.le_refl _) _
 rw [hb.cell (p := ⟨w.heap.size, _, none⟩) (by simp), cell_of_row _ _ _ _ _ _ (heap_alloc_new _ _), Nat.zero_add]; simp [hx]
theorem own_mono {w : World} {base base' n s : Nat} {e : TypeId} {v : Value} {xs : List Value} (h : w.ownsRow base e s v n xs) (hb : base' ≤ base) : w.ownsRow base' e s v n xs := by
 refine ⟨h.1, ?_⟩; rcases h.2 with hn | ⟨g, cap, cur, h1, h2, h3⟩
 ·exact .inl hn
 ·exact .inr ⟨g, cap, cur, h1, Nat.le_trans hb h2, h3⟩
theorem PS.fin {w W : World} {lines : List ByteArray} {rs : List RuleD} {k e : Int} {AO : Option Addr} {cO : Nat} {xs : List Value} (h : PS w W lines rs k e AO cO xs) (c0 c1 c2 : Value) :
  (((W.setCell ⟨w.heap.size, 0, none⟩ c0).setCell ⟨w.heap.size, 1, none⟩ c1).setCell ⟨w.heap.size, 2, none⟩ c2).ownsRow w.heap.size 41 4 (.slice AO rs.length cO) rs.length xs ∧ RulesOwnB (((W.setCell ⟨w.heap.size, 0, none⟩ c0).setCell ⟨w.heap.size, 1, none⟩ c1).setCell ⟨w.heap.size, 2, none⟩ c2) w.heap.size rs xs := by
 have hother : ∀ g, g ≠ w.heap.size → (((W.setCell ⟨w.heap.size, 0, none⟩ c0).setCell ⟨w.heap.size, 1, none⟩ c1).setCell ⟨w.heap.size, 2, none⟩ c2).heap[g]? = W.heap[g]? := fun g hg =>
  (heap_setCell_other _ ⟨w.heap.size, 2, none⟩ g _ hg).trans ((heap_setCell_other _ ⟨w.heap.size, 1, none⟩ g _ hg).trans (heap_setCell_other W ⟨w.heap.size, 0, none⟩ g _ hg))
 refine ⟨own_mono (own_at h.own (fun g cur hbg hgc => (hother g (by omega)).trans hgc)) (by omega), fun k r hr => ?_⟩; obtain ⟨A, c, h1, h2, h3⟩ := h.rul k r hr; refine ⟨A, c, h1.kept (fun i cs fr hi => (hother i (fun e => ?_)).trans hi), h2.mono (by omega), h3⟩; subst e; rw [h.res] at hi; simp only [Option.some.injEq, Obj.cells.injEq] at hi; exact absurd hi.2.1 (by decide)
def RuleV (w : World) (H b : Nat) (ws : List ByteArray) (v : Value) (w' : World) : Prop :=
 ∃ (r : RuleD) (A : Option Addr) (c j : Nat) (bad' : Bool), v = .agg #[.int .i64 r.nr, .slice A r.conds.length c, .int .i64 r.kind, .int .i64 r.errno] ∧ CondsOwn w' (.slice A r.conds.length c) r.conds ∧ WordsAt w' H b (ws.drop j) bad' ∧ w.grownBy w' (some b) ∧ r.conds.length ≤ ws.length ∧ (∀ B : Nat, (∀ x ∈ ws, x.size ≤ B) → ∀ c ∈ r.conds, c.glob.size ≤ B) ∧ CondsFrom w.heap.size (.slice A r.conds.length c) ∧
  (∀ r0 : RuleD, RuleRd r0 → r0.errno ≤ 255 → ws.map bL = ruleW r0 → r = r0 ∧ bad' = false ∧ ws.drop j = [])
theorem ruleV_of {w w0 : World} {f : FuncId} {args : Array Value} {H b : Nat} {ws : List ByteArray} (h : Calls Tryz.prog f args w0 (RuleA w H b ws false)) : Calls Tryz.prog f args w0 fun e w' => ∃ v, e = .returned v ∧ RuleV w H b ws v w' :=
 h.mono fun _ _ ⟨r, A, c, j, bad', h1, h2, h3, h4, h5, h6, h7, h8⟩ => ⟨_, h1, r, A, c, j, bad', rfl, h2, h3, h4, h5, h6, h7, fun r0 => h8 r0 rfl⟩
theorem words_kept {w w' : World} {H b : Nat} {ws : List ByteArray} {bad : Bool} (h : WordsAt w H b ws bad) (hk : ∀ (i : Nat) (ob : Obj), w.heap[i]? = some ob → (∀ cur, ob ≠ .cells cur 41 (0, 0)) → w'.heap[i]? = some ob) :
  ∃ A c, w'.heap[b]? = some (.cells #[.slice A ws.length c, .bool bad] 188 (0, 0)) := by
 obtain ⟨_, A, c, h1, _⟩ := h; exact ⟨A, c, hk _ _ h1 (fun cur e => by simp only [Obj.cells.injEq] at e; exact absurd e.2.1 (by decide))⟩
def PLoop (s : ByteArray) (w : World) (lines : List ByteArray) (i : Nat) (wr : World) : Prop :=
 ∃ (rs : List RuleD) (k e : Int) (AO : Option Addr) (cO : Nat) (xs : List Value), Hid (PS w wr lines rs k e AO cO xs) ∧ Hid (rs.length = i - 1 ∧ rs.length ≤ 12 ∧ (∀ r ∈ rs, r.conds.length ≤ 100000 ∧ ∀ c ∈ r.conds, c.glob.size ≤ 100000)) ∧
  Hid (∀ p0 : PolD, PolOk p0 → polF p0 = 0 → bL s = polT p0 → (1 ≤ i → k = p0.kind ∧ e = p0.errno) ∧ rs = p0.rules.take (i - 1))
def PMid (s : ByteArray) (w : World) (lines : List ByteArray) (i b : Nat) (W : World) (T : List ByteArray) (bad : Bool) (rs : List RuleD) (k e : Int) (AO : Option Addr) (cO : Nat) (xs : List Value) : Prop :=
 PS w W lines rs k e AO cO xs ∧ (∃ A c, W.heap[b]? = some (.cells #[.slice A T.length c, .bool bad] 188 (0, 0))) ∧ (rs.length = i ∧ (∀ r ∈ rs, r.conds.length ≤ 100000 ∧ ∀ c ∈ r.conds, c.glob.size ≤ 100000)) ∧
  (∀ p0 : PolD, PolOk p0 → polF p0 = 0 → bL s = polT p0 → bad = false ∧ T = [] ∧ (k = p0.kind ∧ e = p0.errno) ∧ rs = p0.rules.take i)
set_option linter.unusedSimpArgs false in
set_option maxRecDepth 100000 in
set_option maxHeartbeats 4000000 in
theorem parse_any_pol (HN : NumSaid) (s : ByteArray) (w : World) (hs : s.size ≤ 1000000) (hG : Grd w) (htab : Lib.TabIs Tryz.prog w "internal/strconv.uint64pow10" .u64 Lib.pow10Tab) :
  Calls Tryz.prog 37 #[.string s] w (ParseA s w) := by
 have HTB := Lib.hid (tab_below htab); have hb0 : ∀ o, Below w.heap.size w (w.alloc o) := fun o => (Below.refl _ _).alloc (Nat.le_refl _) o
 by_cases h8 : 8000 < s.size
 ·have t1 : (8000 : Int) < (s.size : Int) := by omega
  have HB0 := Lib.hid hb0; have HZ : Hid (∀ W, W = w.alloc (.cells #[.slice none 0 0, .int .i64 0, .int .i64 0] 26) → W.heap[w.heap.size]? = some (.cells #[.slice none 0 0, .int .i64 0, .int .i64 0] 26 (0, 0)) ∧ Below w.heap.size w W) := fun W h => by subst h; exact ⟨heap_alloc_new _ _, hb0 _⟩
  clear hb0; go_enter Tryz.func37, Tryz.ntmps37; go_upto_region 2 with fail; obtain ⟨hz, hbw⟩ := HZ.out _ rfl; have HBW := Lib.hid hbw; obtain ⟨y0, y1, y2⟩ := store3 hz (.slice none 0 0) (.int .i64 0) (.int .i64 0); obtain ⟨c0, c1, c2, d0, d1, d2⟩ := prow3 hz; clear hbw hz; generalize w.alloc (.cells #[.slice none 0 0, .int .i64 0, .int .i64 0] 26) = W0 at *
  have HBS := Lib.hid (below_store3 HBW.out (Nat.le_refl w.heap.size) (.slice none 0 0) (.int .i64 0) (.int .i64 0))
  go_wp2_with fail
  try simp only [Exit.inBlock, Exit.then]
  refine bodyPost_ret (by simp [results, Tryz.results37, go_sem, y0, y1, y2]; try rfl) rfl ?_; exact ⟨HBS.out, .inl ⟨h8, rfl⟩⟩
 ·have t1 : ¬ (8000 : Int) < (s.size : Int) := by omega
  have h80 : s.size ≤ 8000 := by omega
  have hG1 : Grd ((w.alloc (.cells #[.slice none 0 0, .int .i64 0, .int .i64 0] 26)).alloc (.cells #[.slice none 0 0, .int .i64 0, .int .i64 0] 26)) := hG.below ((hb0 _).alloc (by simp) _) (Nat.le_refl _); have HSP := Lib.hid (split_any s 10 _ (by omega) hG1)
  have HPS : Hid (∀ lines : List ByteArray, PS w (((w.alloc (.cells #[.slice none 0 0, .int .i64 0, .int .i64 0] 26)).alloc (.cells #[.slice none 0 0, .int .i64 0, .int .i64 0] 26)).alloc (.cells (lines.map Value.string).toArray 9)) lines [] 0 0 none 0 []) := fun lines => by
   have e1 : (w.alloc (.cells #[.slice none 0 0, .int .i64 0, .int .i64 0] 26)).heap.size = w.heap.size + 1 := by simp
   have e2 : ((w.alloc (.cells #[.slice none 0 0, .int .i64 0, .int .i64 0] 26)).alloc (.cells #[.slice none 0 0, .int .i64 0, .int .i64 0] 26)).heap.size = w.heap.size + 2 := by simp
   have b1 : ∀ (W : World) (o : Obj), Below W.heap.size W (W.alloc o) := fun W o => (Below.refl _ _).alloc (Nat.le_refl _) o; refine ⟨((hb0 _).alloc (by simp) _).alloc (by simp; omega) _, ?_, ?_, ?_, World.ownsRow_nil _ _ _ _, fun k r h => by simp at h⟩
   ·exact ((b1 _ _).block _ (by omega)).trans (((b1 _ _).block _ (by omega)).trans (heap_alloc_new _ _))
   ·have := heap_alloc_new (w.alloc (.cells #[.slice none 0 0, .int .i64 0, .int .i64 0] 26)) (.cells #[.slice none 0 0, .int .i64 0, .int .i64 0] 26); rw [e1] at this; exact ((b1 _ _).block _ (by omega)).trans this
   ·have := heap_alloc_new ((w.alloc (.cells #[.slice none 0 0, .int .i64 0, .int .i64 0] 26)).alloc (.cells #[.slice none 0 0, .int .i64 0, .int .i64 0] 26)) (.cells (lines.map Value.string).toArray 9); rw [e2] at this; exact this
  have hw2 : ((w.alloc (.cells #[.slice none 0 0, .int .i64 0, .int .i64 0] 26)).alloc (.cells #[.slice none 0 0, .int .i64 0, .int .i64 0] 26)).heap.size = w.heap.size + 2 := by simp
  have HGR := Lib.hid hG; clear hG1 hb0 hG htab h8; go_enter Tryz.func37, Tryz.ntmps37
  go_upto_region 5 with (go_at_call 85; refine cargs (by simp [Act.eval]) (HSP.out.mono ?_); rintro e w1 ⟨lines, hcut, rfl, rfl, hsz, hll, hne⟩; have HCUT := Lib.hid hcut; have HLS := Lib.hid hsz; have HLN := Lib.hid hne; clear hcut hsz hne)
  have HP0 := Lib.hid (HPS.out lines); clear HSP HPS hw2; generalize ((w.alloc (.cells #[.slice none 0 0, .int .i64 0, .int .i64 0] 26)).alloc (.cells #[.slice none 0 0, .int .i64 0, .int .i64 0] 26)).alloc (.cells (lines.map Value.string).toArray 9) = W0 at *
  have hl0 : 0 < lines.length := by
   cases lines with
   | nil => exact absurd rfl HLN.out
   | cons _ _ => simp
  have z1 : (0 : Int) ≤ (lines.length : Int) - 1 := by omega
  have z2 : ((lines.length : Int) - 1).toNat = lines.length - 1 := by omega
  have z3 : wrap64 ((lines.length : Int) - 1) = (lines.length : Int) - 1 := IntWalk.wrap64_in _ (by omega); go_upto_region 6 with fail; have HPL0 : Hid (PLoop s w lines 0 W0) := ⟨[], 0, 0, none, 0, [], HP0.out, ⟨rfl, by simp, by simp⟩, fun p0 _ _ _ => ⟨fun h => absurd h (by omega), rfl⟩⟩
  have HLEN : Hid (lines.length = (lines.length - 1) + 1) := by show _ = _; omega
  have hln : lines.length - 1 ≤ 8001 := by omega
  clear z1 z2 z3 HP0 HLN hl0; generalize lines.length - 1 = n at *
  go_wp2_with fail
  go_loopw [24] (fun iv wr => ∃ i : Nat, i ≤ n ∧ iv = .int .i64 i ∧ PLoop s w lines i wr) (fun iv _ => n - (intOf iv).toNat)
  case atStart => exact ⟨0, by omega, rfl, HPL0.out⟩
  case round =>
   clear HPL0; obtain ⟨i, hi, rfl, rs, k, e, AO, cO, xs, HP, HR, HF⟩ := hrel; obtain ⟨wo, rfl⟩ : ∃ wo : World, wo = wr := ⟨_, rfl⟩
   by_cases hin : i < n
   ·have x1 : (i : Int) < (n : Int) := by omega
    have x2 : (0 : Int) ≤ (i : Int) := by omega
    have hil : i < lines.length := by have := HLEN.out; omega
    have hli : lines[i]? = some lines[i] := by simp
    have l0 : wo.cell? ⟨w.heap.size + 2, i, none⟩ = some (.string lines[i]) := by
     rw [cell_of_row _ _ _ _ _ _ HP.out.lin]; simp [hil]
    have hxs := HLS.out lines[i] (by simp); have hbig := HP.out.big; have hbel := HP.out.bel; have HSP := Lib.hid (split_any lines[i] 32 wo (by omega) (HGR.out.below hbel (Nat.le_refl _)))
    have HLF : Hid (∀ p0 : PolD, PolOk p0 → polF p0 = 0 → bL s = polT p0 → (i = 0 → cutW 32 (bL lines[i]) = wElse :: (actW p0.kind p0.errno ++ []) ∧ ActRd p0.kind p0.errno ∧ p0.errno ≤ 255) ∧ (∀ j, i = j + 1 → ∃ r, p0.rules[j]? = some r ∧ cutW 32 (bL lines[i]) = ruleW r ∧ RuleRd r ∧ r.errno ≤ 255)) := fun p0 h1 h2 h3 => by
     obtain ⟨q1, q2, q3, q4⟩ := lines_fwd HCUT.out h1 h2 h3; have q0 := HLEN.out; refine ⟨fun h => ?_, fun j h => ?_⟩
     ·subst h; exact ⟨q2 _ hli, q3⟩
     ·subst h; exact q4 j _ hli (by omega)
    clear hli hbel; generalize lines[i] = X at *
    go_upto_region 9 with (go_at_call 85; refine cargs (by simp [Act.eval]) (HSP.out.mono ?_); rintro e w1 ⟨ws, hcut2, rfl, rfl, hsz2, hwl, hne2⟩; have HC2 := Lib.hid hcut2; have HSZ2 := Lib.hid hsz2; clear hcut2 hsz2 hne2)
    have HW2 := Lib.hid (words_new wo ws); have HP2 : Hid (PS w ((wo.alloc (.cells (ws.map Value.string).toArray 9)).alloc (.cells #[.slice (some ⟨wo.heap.size, 0, none⟩) ws.length ws.length, .bool false] 188)) lines rs k e AO cO xs) := HP.out.below (((Below.refl _ _).alloc (Nat.le_refl _) _).alloc (by simp) _)
    have hsz3 : ((wo.alloc (.cells (ws.map Value.string).toArray 9)).alloc (.cells #[.slice (some ⟨wo.heap.size, 0, none⟩) ws.length ws.length, .bool false] 188)).heap.size = wo.heap.size + 1 + 1 := by simp
    clear HSP HP l0; generalize (wo.alloc (.cells (ws.map Value.string).toArray 9)).alloc (.cells #[.slice (some ⟨wo.heap.size, 0, none⟩) ws.length ws.length, .bool false] 188) = W2 at *
    have hbb : w.heap.size + 3 ≤ wo.heap.size + 1 := by omega
    generalize wo.heap.size + 1 = b at *
    have HWB : Hid (ws.length ≤ 100000 ∧ (∀ x ∈ ws, x.size ≤ 8000)) := ⟨by omega, fun x hx => by have := HSZ2.out x hx; omega⟩
    clear HSZ2
    by_cases hi0 : i = 0
    ·have t2 : ((i : Int) == 0) = true := by rw [hi0]; rfl
     have HI0 := Lib.hid hi0; clear hi0
     have HRS : Hid (rs.length = i ∧ rs = []) := by
      have := HR.out.1; have hi0 := HI0.out; exact ⟨by omega, List.eq_nil_of_length_eq_zero (by omega)⟩
     have HNX := Lib.hid (next_any (b + 1) b ws false W2 HW2.out (by have := HWB.out.1; omega))
     have HAC := Lib.hid (fun (W : World) (bad1 : Bool) (hW : WordsAt W (b + 1) b ws.tail bad1) (hp : PS w W lines rs k e AO cO xs) (hsz : b + 1 ≤ W.heap.size) => action_any HN w (b + 1) b ws.tail bad1 W HGR.out hp.bel (by omega) hsz hW (by have := HWB.out.1; simp only [List.length_tail]; omega) (tail_mem (fun x hx => by have := HWB.out.2 x hx; omega)))
     have HFA : Hid (∀ (k' e' : Int) (j : Nat) (bad' : Bool), (∀ (k0 e0 : Int) (r : List (List UInt8)), (false || ws.isEmpty) = false → ActRd k0 e0 → e0 ≤ 255 → ws.tail.map bL = actW k0 e0 ++ r → k' = k0 ∧ e' = e0 ∧ bad' = false ∧ (ws.tail.drop j).map bL = r) → ∀ p0 : PolD, PolOk p0 → polF p0 = 0 → bL s = polT p0 → bad' = false ∧ ws.tail.drop j = [] ∧ (k' = p0.kind ∧ e' = p0.errno) ∧ rs = p0.rules.take i) := fun k' e' j bad' hh p0 h1 h2 h3 => by
      obtain ⟨g1, g2, g3⟩ := (HLF.out p0 h1 h2 h3).1 HI0.out; rw [← HC2.out] at g1
      cases ws with
      | nil => simp at g1
      | cons y t =>
       simp only [List.map_cons, List.cons.injEq] at g1; obtain ⟨a1, a2, a3, a4⟩ := hh p0.kind p0.errno [] rfl g2 g3 g1.2; refine ⟨a3, ?_, ⟨a1, a2⟩, by rw [HRS.out.2, HI0.out]; rfl⟩
       cases hd : (y :: t).tail.drop j with
       | nil => rfl
       | cons _ _ => rw [hd] at a4; simp at a4
     have hwc := HW2.out; obtain ⟨_, Aw, cw, hwb, _⟩ := hwc; have HWBL := Lib.hid hwb; clear hwb; generalize (false || ws.isEmpty) = bad1 at *
     generalize ws.headD ByteArray.empty = wd0 at *
     generalize ws.tail = T1 at *
     go_upto_region 11 with (go_at_call 86; refine cargs (by simp [Act.eval]) (HNX.out.mono ?_); rintro e w3 ⟨rfl, hw3, hg3⟩; have HW3 := Lib.hid hw3; have HP3 := Lib.hid (HP2.out.words hbb hg3 HWBL.out); have hs3 : b + 1 ≤ w3.heap.size := (by have := hg3.size; omega); clear hw3 hg3)
     have HAC3 := Lib.hid (HAC.out w3 bad1 HW3.out HP3.out hs3)
     have HWBL3 : Hid (∃ cur, w3.heap[b]? = some (.cells cur 188 (0, 0))) := by
      obtain ⟨_, A3, c3, h3, _⟩ := HW3.out; exact ⟨_, h3⟩
     clear HNX HAC HP2 HW2 HWBL hsz3
     go_upto_region 13 with (go_at_call 87; refine cargs (by simp [Act.eval]) (HAC3.out.mono ?_); rintro e w4 ⟨k7, e7, j7, bad7, rfl, hw4, hg4, hf4⟩; have HW4 := Lib.hid hw4; have HP4 := Lib.hid (HWBL3.out.elim fun cur hc => HP3.out.words hbb hg4 hc); have HF4 := Lib.hid (HFA.out k7 e7 j7 bad7 hf4); obtain ⟨q0, q1, q2, qz0, qz1, qz2⟩ := prow3 (HWBL3.out.elim fun cur hc => (HP3.out.words hbb hg4 hc).pol); clear hw4 hg4 hf4)
     have HM : Hid (PMid s w lines i b ((w4.setCell ⟨w.heap.size + 1, 1, none⟩ (.int .i64 k7)).setCell ⟨w.heap.size + 1, 2, none⟩ (.int .i64 e7)) (T1.drop j7) bad7 rs k7 e7 AO cO xs) := by
      refine ⟨HP4.out.setElse k7 e7, ?_, ⟨HRS.out.1, HR.out.2.2⟩, HF4.out⟩; obtain ⟨_, A4, c4, h4, _⟩ := HW4.out; refine ⟨A4, c4, (heap_setCell_other _ ⟨w.heap.size + 1, 2, none⟩ b _ (by simp only; omega)).trans ((heap_setCell_other w4 ⟨w.heap.size + 1, 1, none⟩ b _ (by simp only; omega)).trans h4)⟩
     generalize (w4.setCell ⟨w.heap.size + 1, 1, none⟩ (.int .i64 k7)).setCell ⟨w.heap.size + 1, 2, none⟩ (.int .i64 e7) = W7 at *
     clear HW3 HP3 HAC3 HWBL3 HW4 HP4 HF4 q0 q1 q2 qz0 qz1 qz2 HFA HRS HF HR HLF; generalize T1.drop j7 = T7 at *
     obtain ⟨rs7, hrs7⟩ : ∃ rs7, rs7 = rs := ⟨_, rfl⟩
     obtain ⟨AO7, hAO7⟩ : ∃ AO7, AO7 = AO := ⟨_, rfl⟩
     obtain ⟨cO7, hcO7⟩ : ∃ cO7, cO7 = cO := ⟨_, rfl⟩
     obtain ⟨xs7, hxs7⟩ : ∃ xs7, xs7 = xs := ⟨_, rfl⟩
     rw [← hrs7, ← hAO7, ← hcO7, ← hxs7] at HM; clear hrs7 hAO7 hcO7 hxs7; obtain ⟨p0, p1, p2, _, _, _⟩ := prow3 HM.out.1.pol; obtain ⟨A7, c7, hb7⟩ := HM.out.2.1; obtain ⟨b0, b1, _, _⟩ := row2 hb7; clear hb7
     cases hbd : bad7 with
     | true =>
      subst hbd; obtain ⟨y0, y1, y2⟩ := store3 HM.out.1.res (.slice none 0 0) (.int .i64 0) (.int .i64 0); obtain ⟨r0, r1, r2, rz0, rz1, rz2⟩ := prow3 HM.out.1.res; have HBS := Lib.hid (below_store3 HM.out.1.bel (Nat.le_refl w.heap.size) (.slice none 0 0) (.int .i64 0) (.int .i64 0))
      have HNO : Hid (ReadP (bL s) none) := fun p0 h1 h2 h3 => by
       obtain ⟨q1, q2, q3, q4⟩ := HM.out.2.2.2 p0 h1 h2 h3; cases q1
      clear HM
      go_wp2_with fail
      try simp only [Exit.inBlock, Exit.then]
      refine bodyPost_ret (by simp [results, Tryz.results37, go_sem, y0, y1, y2]; try rfl) rfl ?_; exact ⟨HBS.out, .inr (.inl ⟨h80, HNO.out, rfl⟩)⟩
     | false =>
      subst hbd
      cases hT7 : T7 with
      | cons y7 t7 =>
       subst hT7; have z7 : (0 : Int) < ((y7 :: t7).length : Int) := by simp only [List.length_cons]; omega
       obtain ⟨y0, y1, y2⟩ := store3 HM.out.1.res (.slice none 0 0) (.int .i64 0) (.int .i64 0); obtain ⟨r0, r1, r2, rz0, rz1, rz2⟩ := prow3 HM.out.1.res; have HBS := Lib.hid (below_store3 HM.out.1.bel (Nat.le_refl w.heap.size) (.slice none 0 0) (.int .i64 0) (.int .i64 0))
       have HNO : Hid (ReadP (bL s) none) := fun p0 h1 h2 h3 => by
        obtain ⟨q1, q2, q3, q4⟩ := HM.out.2.2.2 p0 h1 h2 h3; cases q2
       clear HM
       go_wp2_with fail
       try simp only [Exit.inBlock, Exit.then]
       refine bodyPost_ret (by simp [results, Tryz.results37, go_sem, y0, y1, y2]; try rfl) rfl ?_; exact ⟨HBS.out, .inr (.inl ⟨h80, HNO.out, rfl⟩)⟩
      | nil =>
       subst hT7
       by_cases h12 : 12 < rs7.length
       ·have z8 : (12 : Int) < (rs7.length : Int) := by omega
        obtain ⟨y0, y1, y2⟩ := store3 HM.out.1.res (.slice none 0 0) (.int .i64 0) (.int .i64 0); obtain ⟨r0, r1, r2, rz0, rz1, rz2⟩ := prow3 HM.out.1.res; have HBS := Lib.hid (below_store3 HM.out.1.bel (Nat.le_refl w.heap.size) (.slice none 0 0) (.int .i64 0) (.int .i64 0))
        have HNO : Hid (ReadP (bL s) none) := fun p0 h1 h2 h3 => by
         obtain ⟨q1, q2, q3, q4⟩ := HM.out.2.2.2 p0 h1 h2 h3; obtain ⟨h12', _⟩ := polF_zero h2; rw [q4] at h12; simp only [List.length_take] at h12; omega
        clear HM
        go_wp2_with fail
        try simp only [Exit.inBlock, Exit.then]
        refine bodyPost_ret (by simp [results, Tryz.results37, go_sem, y0, y1, y2]; try rfl) rfl ?_; exact ⟨HBS.out, .inr (.inl ⟨h80, HNO.out, rfl⟩)⟩
       ·have z8 : ¬ (12 : Int) < (rs7.length : Int) := by omega
        have HPL : Hid (PLoop s w lines (i + 1) W7) := ⟨rs7, k7, e7, AO7, cO7, xs7, HM.out.1, ⟨HM.out.2.2.1.1, by omega, HM.out.2.2.1.2⟩, fun p0 h1 h2 h3 => by
         obtain ⟨_, _, q3, q4⟩ := HM.out.2.2.2 p0 h1 h2 h3; exact ⟨fun _ => q3, q4⟩⟩
        clear HM
        go_wp2_with fail; go_roundw
        case rel => exact ⟨i + 1, by omega, by go_num, HPL.out⟩
        case measure => simp [intOf]; omega
    ·have t2 : ((i : Int) == 0) = false := by simp; omega
     have HRL : Hid (rs.length = i - 1) := HR.out.1; have hr12 : rs.length ≤ 12 := HR.out.2.1; have HI0 : Hid (1 ≤ i) := by show _ ≤ _; omega
     have HRU := Lib.hid (fun (W : World) (hW : WordsAt W (b + 1) b ws false) (hp : PS w W lines rs k e AO cO xs) (hsz : b + 1 ≤ W.heap.size) => rule_any HN w (b + 1) b ws false W HGR.out hp.bel (by omega) hsz hW HWB.out.1 (fun x hx => by have := HWB.out.2 x hx; omega))
     have HFA : Hid (∀ (r : RuleD) (j : Nat) (bad' : Bool), (∀ r0 : RuleD, RuleRd r0 → r0.errno ≤ 255 → ws.map bL = ruleW r0 → r = r0 ∧ bad' = false ∧ ws.drop j = []) → ∀ p0 : PolD, PolOk p0 → polF p0 = 0 → bL s = polT p0 → bad' = false ∧ ws.drop j = [] ∧ (k = p0.kind ∧ e = p0.errno) ∧ rs ++ [r] = p0.rules.take i) := fun r j bad' hh p0 h1 h2 h3 => by
      have hi0 := HI0.out; obtain ⟨r0, g0, g1, g2, g3⟩ := (HLF.out p0 h1 h2 h3).2 (i - 1) (by omega); rw [← HC2.out] at g1; obtain ⟨a1, a2, a3⟩ := hh r0 g2 g3 g1; obtain ⟨f1, f2⟩ := HF.out p0 h1 h2 h3; refine ⟨a2, a3, f1 hi0, ?_⟩; rw [f2, a1, ← take_next g0, show i - 1 + 1 = i from by omega]
     have HGA : Hid (∀ r : RuleD, r.conds.length ≤ ws.length → (∀ B : Nat, (∀ x ∈ ws, x.size ≤ B) → ∀ c ∈ r.conds, c.glob.size ≤ B) → ∀ q ∈ rs ++ [r], q.conds.length ≤ 100000 ∧ ∀ c ∈ q.conds, c.glob.size ≤ 100000) := fun r h1 h2 q hq => by
      rcases List.mem_append.1 hq with hq | hq
      ·exact HR.out.2.2 q hq
      ·obtain rfl := List.mem_singleton.1 hq; exact ⟨by have := HWB.out.1; omega, fun c hc => by have := h2 8000 HWB.out.2 c hc; omega⟩
     have HWD : Hid (WordsAt W2.drew (b + 1) b ws false) := HW2.out; have HPD : Hid (PS w W2.drew lines rs k e AO cO xs) := HP2.out.below ((Below.refl _ _).drew); have hszd : b + 1 ≤ W2.drew.heap.size := by show b + 1 ≤ W2.heap.size; omega
     have HWBL : Hid (∃ cur, W2.drew.heap[b]? = some (.cells cur 188 (0, 0))) := by
      obtain ⟨_, A3, c3, h3, _⟩ := HW2.out; exact ⟨_, h3⟩
     obtain ⟨q0, q1, q2, qz0, qz1, qz2⟩ := prow3 HP2.out.pol; clear HF HR HLF HW2 hi0; go_upto_region 12 with fail
     go_region_law (first
      | (refine step_call rfl 88 Tryz.func88 (by kernel_rfl) (by kernel_rfl) #[.tmp 42] _ rfl #[.pointer (some ⟨b, 0, none⟩)] (by simp [Act.eval, Act.put]) (RuleV W2.drew (b + 1) b ws) (ruleV_of (HRU.out _ HWD.out HPD.out hszd)) ?_; rintro v w3 ⟨r, A3, c3, j3, bad7, rfl, hco, hw3, hg3, hle, hgb, hcf, hfw⟩; have HCO := Lib.hid hco; have HW3 := Lib.hid hw3; have HP3 := Lib.hid (HWBL.out.elim fun cur hc => HPD.out.words hbb hg3 hc); have HGL := Lib.hid (HGA.out r hle hgb); have HCF := Lib.hid (CondsFrom.mono hcf (show w.heap.size + 3 ≤ W2.drew.heap.size by omega)); have HFW := Lib.hid (HFA.out r j3 bad7 hfw); obtain ⟨e0, e1, e2, ez0, ez1, ez2⟩ := prow3 (HWBL.out.elim fun cur hc => (HPD.out.words hbb hg3 hc).pol); have hq8 : w.heap.size + 1 < w3.heap.size := (by have := hg3.size; omega); clear hco hw3 hg3 hle hgb hcf hfw)
      | (refine step_append_rule rfl (.tmp 41) (.tmp 44) rfl (w.heap.size + 3) w3.heap.size rs.length (.slice AO rs.length cO) xs r A3 c3 (by simp [Act.eval, Act.put]) (by simp [Act.eval, Act.put]) (HP3.out.own.alloc _) (heap_alloc_new _ _) (by omega) (by have := HP3.out.big; simp; omega) ?_; intro g9 cap9 w9 ho9 hg9; have HP9 := Lib.hid (HP3.out.append ho9 hg9 HCO.out HCF.out); obtain ⟨n0, n1, n2, nz0, nz1, nz2⟩ := prow3 ((HP3.out.keptOwn hg9).2.2 _ _ HP3.out.pol (fun cur e => by simp only [Obj.cells.injEq] at e; exact absurd e.2.1 (by decide))); have HW9 := Lib.hid (words_kept HW3.out (HP3.out.keptOwn hg9).2.2); clear ho9 hg9))
     all_goals
      have HM : Hid (PMid s w lines i b (w9.setCell ⟨w.heap.size + 1, 0, none⟩ (.slice (some ⟨g9, 0, none⟩) (rs.length + 1) cap9)) (ws.drop j3) bad7 (rs ++ [r]) k e (some ⟨g9, 0, none⟩) cap9 (xs ++ ruleV r A3 c3)) := by
       refine ⟨HP9.out, ?_, ⟨by have := HI0.out; have := HRL.out; simp only [List.length_append, List.length_cons, List.length_nil]; omega, HGL.out⟩, HFW.out⟩; obtain ⟨A4, c4, h4⟩ := HW9.out; exact ⟨A4, c4, (heap_setCell_other w9 ⟨w.heap.size + 1, 0, none⟩ b _ (by simp only; omega)).trans h4⟩
      clear HP9 HW9 HGL HFW HCF HCO HW3 HP3 HWD HPD HRU HFA HGA e0 e1 e2 ez0 ez1 ez2 n0 n1 n2 nz0 nz1 nz2 q0 q1 q2 qz0 qz1 qz2 hq8 hszd; generalize w9.setCell ⟨w.heap.size + 1, 0, none⟩ (.slice (some ⟨g9, 0, none⟩) (rs.length + 1) cap9) = W7 at *
      generalize ws.drop j3 = T7 at *
      generalize rs ++ [r] = rs7 at *
      generalize xs ++ ruleV r A3 c3 = xs7 at *
      obtain ⟨k7, hk7⟩ : ∃ k7, k7 = k := ⟨_, rfl⟩
      obtain ⟨e7, he7⟩ : ∃ e7, e7 = e := ⟨_, rfl⟩
      rw [← hk7, ← he7] at HM; clear hk7 he7; obtain ⟨AO7, hAO7⟩ : ∃ AO7 : Option Addr, AO7 = some ⟨g9, 0, none⟩ := ⟨_, rfl⟩
      obtain ⟨cO7, hcO7⟩ : ∃ cO7, cO7 = cap9 := ⟨_, rfl⟩
      rw [← hAO7, ← hcO7] at HM; clear hAO7 hcO7; obtain ⟨p0, p1, p2, _, _, _⟩ := prow3 HM.out.1.pol; obtain ⟨A7, c7, hb7⟩ := HM.out.2.1; obtain ⟨b0, b1, _, _⟩ := row2 hb7; clear hb7
      cases hbd : bad7 with
      | true =>
       subst hbd; obtain ⟨y0, y1, y2⟩ := store3 HM.out.1.res (.slice none 0 0) (.int .i64 0) (.int .i64 0); obtain ⟨r0, r1, r2, rz0, rz1, rz2⟩ := prow3 HM.out.1.res; have HBS := Lib.hid (below_store3 HM.out.1.bel (Nat.le_refl w.heap.size) (.slice none 0 0) (.int .i64 0) (.int .i64 0))
       have HNO : Hid (ReadP (bL s) none) := fun p0 h1 h2 h3 => by
        obtain ⟨q1, q2, q3, q4⟩ := HM.out.2.2.2 p0 h1 h2 h3; cases q1
       clear HM
       go_wp2_with fail
       try simp only [Exit.inBlock, Exit.then]
       refine bodyPost_ret (by simp [results, Tryz.results37, go_sem, y0, y1, y2]; try rfl) rfl ?_; exact ⟨HBS.out, .inr (.inl ⟨h80, HNO.out, rfl⟩)⟩
      | false =>
       subst hbd
       cases hT7 : T7 with
       | cons y7 t7 =>
        subst hT7; have z7 : (0 : Int) < ((y7 :: t7).length : Int) := by simp only [List.length_cons]; omega
        obtain ⟨y0, y1, y2⟩ := store3 HM.out.1.res (.slice none 0 0) (.int .i64 0) (.int .i64 0); obtain ⟨r0, r1, r2, rz0, rz1, rz2⟩ := prow3 HM.out.1.res; have HBS := Lib.hid (below_store3 HM.out.1.bel (Nat.le_refl w.heap.size) (.slice none 0 0) (.int .i64 0) (.int .i64 0))
        have HNO : Hid (ReadP (bL s) none) := fun p0 h1 h2 h3 => by
         obtain ⟨q1, q2, q3, q4⟩ := HM.out.2.2.2 p0 h1 h2 h3; cases q2
        clear HM
        go_wp2_with fail
        try simp only [Exit.inBlock, Exit.then]
        refine bodyPost_ret (by simp [results, Tryz.results37, go_sem, y0, y1, y2]; try rfl) rfl ?_; exact ⟨HBS.out, .inr (.inl ⟨h80, HNO.out, rfl⟩)⟩
       | nil =>
        subst hT7
        by_cases h12 : 12 < rs7.length
        ·have z8 : (12 : Int) < (rs7.length : Int) := by omega
         obtain ⟨y0, y1, y2⟩ := store3 HM.out.1.res (.slice none 0 0) (.int .i64 0) (.int .i64 0); obtain ⟨r0, r1, r2, rz0, rz1, rz2⟩ := prow3 HM.out.1.res; have HBS := Lib.hid (below_store3 HM.out.1.bel (Nat.le_refl w.heap.size) (.slice none 0 0) (.int .i64 0) (.int .i64 0))
         have HNO : Hid (ReadP (bL s) none) := fun p0 h1 h2 h3 => by
          obtain ⟨q1, q2, q3, q4⟩ := HM.out.2.2.2 p0 h1 h2 h3; obtain ⟨h12', _⟩ := polF_zero h2; rw [q4] at h12; simp only [List.length_take] at h12; omega
         clear HM
         go_wp2_with fail
         try simp only [Exit.inBlock, Exit.then]
         refine bodyPost_ret (by simp [results, Tryz.results37, go_sem, y0, y1, y2]; try rfl) rfl ?_; exact ⟨HBS.out, .inr (.inl ⟨h80, HNO.out, rfl⟩)⟩
        ·have z8 : ¬ (12 : Int) < (rs7.length : Int) := by omega
         have HPL : Hid (PLoop s w lines (i + 1) W7) := ⟨rs7, k7, e7, AO7, cO7, xs7, HM.out.1, ⟨HM.out.2.2.1.1, by omega, HM.out.2.2.1.2⟩, fun p0 h1 h2 h3 => by
          obtain ⟨_, _, q3, q4⟩ := HM.out.2.2.2 p0 h1 h2 h3; exact ⟨fun _ => q3, q4⟩⟩
         clear HM
         go_wp2_with fail; go_roundw
         case rel => exact ⟨i + 1, by omega, by go_num, HPL.out⟩
         case measure => simp [intOf]; omega
   ·obtain rfl : i = n := by omega
    have HTX := Lib.hid (polText_any (.agg #[.slice AO rs.length cO, .int .i64 k, .int .i64 e]) ⟨rs, k, e⟩ wo ⟨AO, cO, rfl, rulesSl_own HP.out.own HP.out.rul.own⟩ (fun r hr c hc => (HR.out.2.2 r hr).2 c hc) (by have := HR.out.2.1; simp only; omega) (fun r hr => (HR.out.2.2 r hr).1) (HTB.out wo HP.out.bel))
    have HNO : Hid ((polF ⟨rs, k, e⟩ = 0 → bL s ≠ polT ⟨rs, k, e⟩) → ReadP (bL s) none) := fun hne p0 h1 h2 h3 => by
     obtain ⟨f1, f2⟩ := HF.out p0 h1 h2 h3; obtain ⟨g1, _⟩ := lines_fwd HCUT.out h1 h2 h3; have g2 := HLEN.out; obtain ⟨f3, f4⟩ := f1 (by omega); rw [show i - 1 = p0.rules.length from by omega, List.take_length] at f2
     have hp : (⟨rs, k, e⟩ : PolD) = p0 := by
      obtain ⟨r0, k0, e0⟩ := p0; simp only at f2 f3 f4; rw [f2, f3, f4]
     rw [hp] at hne; exact hne h2 h3
    have HOK : Hid (PolOk ⟨rs, k, e⟩) := fun r hr c hc => by
     obtain ⟨q, hq⟩ := List.getElem?_of_mem hr; obtain ⟨A, c', h1, _⟩ := HP.out.rul q r hq; exact h1.1 c hc
    obtain ⟨p0, p1, p2, _, _, _⟩ := prow3 HP.out.pol
    by_cases hf : polF ⟨rs, k, e⟩ = 0
    ·have HTX2 : Hid (Calls Tryz.prog 36 #[.agg #[.slice AO rs.length cO, .int .i64 k, .int .i64 e]] wo fun e' w' => e' = .returned (.tuple #[.string ⟨(polT ⟨rs, k, e⟩).toArray⟩, .nilIface]) ∧ Below wo.heap.size wo w') := HTX.out.mono fun _ _ ⟨h1, h2⟩ => ⟨by rw [h1, hf]; rfl, h2⟩
     have HEQ : Hid ((⟨(polT ⟨rs, k, e⟩).toArray⟩ : ByteArray) = s ↔ bL s = polT ⟨rs, k, e⟩) := ⟨fun h => by rw [← h]; unfold bL; simp, fun h => (bL_inj h).symm⟩
     have HPF := Lib.hid hf; clear HTX hf HF HR; obtain ⟨Y, hY⟩ : ∃ Y : ByteArray, Y = ⟨(polT ⟨rs, k, e⟩).toArray⟩ := ⟨_, rfl⟩
     rw [← hY] at HTX2 HEQ; clear hY
     by_cases hs : Y = s
     ·subst hs; have HRD : Hid (ReadP (bL Y) (some ⟨rs, k, e⟩)) := ⟨HOK.out, HPF.out, HEQ.out.1 rfl⟩
      clear HEQ HNO HOK HPF
      go_upto_region 17 with (go_at_call 36; refine cargs (by simp [Act.eval]) (HTX2.out.mono ?_); rintro e' w5 ⟨rfl, hb5⟩; have HP5 := Lib.hid (HP.out.below hb5); clear hb5)
      obtain ⟨q0, q1, q2, _, _, _⟩ := prow3 HP5.out.pol; obtain ⟨r0, r1, r2, rz0, rz1, rz2⟩ := prow3 HP5.out.res; obtain ⟨y0, y1, y2⟩ := store3 HP5.out.res (.slice AO rs.length cO) (.int .i64 k) (.int .i64 e); have HBS := Lib.hid (below_store3 HP5.out.bel (Nat.le_refl w.heap.size) (.slice AO rs.length cO) (.int .i64 k) (.int .i64 e))
      have HOR := Lib.hid (HP5.out.fin (.slice AO rs.length cO) (.int .i64 k) (.int .i64 e)); clear HP HP5 HTX2 p0 p1 p2
      go_wp2_with fail
      try simp only [Exit.inBlock, Exit.then]
      refine bodyPost_ret (by simp [results, Tryz.results37, go_sem, y0, y1, y2]; try rfl) rfl ?_; exact ⟨HBS.out, .inr (.inr ⟨h80, ⟨rs, k, e⟩, AO, cO, xs, HRD.out, rfl, HOR.out.1, HOR.out.2⟩)⟩
     ·have HNN : Hid (ReadP (bL s) none) := HNO.out (fun _ h => hs (HEQ.out.2 h)); have z9 : (Y.toList == s.toList) = false := beq_eq_false_iff_ne.2 (fun e' => hs (by rw [tl_eq, tl_eq] at e'; exact ba_ext e')); clear HEQ HNO HOK HPF hs
      go_upto_region 17 with (go_at_call 36; refine cargs (by simp [Act.eval]) (HTX2.out.mono ?_); rintro e' w5 ⟨rfl, hb5⟩; have HP5 := Lib.hid (HP.out.below hb5); clear hb5)
      obtain ⟨r0, r1, r2, rz0, rz1, rz2⟩ := prow3 HP5.out.res; obtain ⟨y0, y1, y2⟩ := store3 HP5.out.res (.slice none 0 0) (.int .i64 0) (.int .i64 0); have HBS := Lib.hid (below_store3 HP5.out.bel (Nat.le_refl w.heap.size) (.slice none 0 0) (.int .i64 0) (.int .i64 0)); clear HP HP5 HTX2 p0 p1 p2
      go_wp2_with fail
      try simp only [Exit.inBlock, Exit.then]
      refine bodyPost_ret (by simp [results, Tryz.results37, go_sem, y0, y1, y2]; try rfl) rfl ?_; exact ⟨HBS.out, .inr (.inl ⟨h80, HNN.out, rfl⟩)⟩
    ·have HNN : Hid (ReadP (bL s) none) := HNO.out (fun h => absurd h hf); have HTX2 : Hid (Calls Tryz.prog 36 #[.agg #[.slice AO rs.length cO, .int .i64 k, .int .i64 e]] wo fun e' w' => e' = .returned (.tuple #[.string ⟨([] : List UInt8).toArray⟩, .iface 105 (.int .i64 (polF ⟨rs, k, e⟩))]) ∧ Below wo.heap.size wo w') := HTX.out.mono fun _ _ ⟨h1, h2⟩ => ⟨by rw [h1, if_neg hf, errV_pos hf], h2⟩
     clear HTX hf HF HR HNO HOK; generalize polF ⟨rs, k, e⟩ = pf at *
     go_upto_region 17 with (go_at_call 36; refine cargs (by simp [Act.eval]) (HTX2.out.mono ?_); rintro e' w5 ⟨rfl, hb5⟩; have HP5 := Lib.hid (HP.out.below hb5); clear hb5)
     obtain ⟨r0, r1, r2, rz0, rz1, rz2⟩ := prow3 HP5.out.res; obtain ⟨y0, y1, y2⟩ := store3 HP5.out.res (.slice none 0 0) (.int .i64 0) (.int .i64 0); have HBS := Lib.hid (below_store3 HP5.out.bel (Nat.le_refl w.heap.size) (.slice none 0 0) (.int .i64 0) (.int .i64 0)); clear HP HP5 HTX2 p0 p1 p2
     go_wp2_with fail
     try simp only [Exit.inBlock, Exit.then]
     refine bodyPost_ret (by simp [results, Tryz.results37, go_sem, y0, y1, y2]; try rfl) rfl ?_; exact ⟨HBS.out, .inr (.inl ⟨h80, HNN.out, rfl⟩)⟩
end Go.Proofs.YtmgngapkgcofnabGreatDoor
