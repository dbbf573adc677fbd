/- TopEnds, in plain words: a call ends within 86 steps; one line is written of it. -/
import Derived.Test.YtmgngapkgcofnabGreatDoorWardTopJ
namespace Go.Proofs.YtmgngapkgcofnabGreatDoor
open Go.RowKit Go.PlainAid
def didsS (p : PolD) (S : WardS) (l : List ActD) : Nat → WardS
 | 0 => S
 | k + 1 => match l[k]? with
  | some a => didS p (didsS p S l k) a
  | none => didsS p S l k
theorem didsS_at {p : PolD} {S : WardS} {l : List ActD} {k : Nat} {a : ActD} (h : l[k]? = some a) : didsS p S l (k + 1) = didS p (didsS p S l k) a := by rw [didsS, h]
theorem good_dids {p : PolD} (hf : polF p = 0) {S : WardS} {L : Nat} (h : GoodS S L) (l : List ActD) : ∀ k, GoodS (didsS p S l k) (L + 90 * k)
 | 0 => h
 | k + 1 => by
  rw [didsS]; split
  ·exact (good_did hf (good_dids hf h l k) _).mono (by omega)
  ·exact (good_dids hf h l k).mono (by omega)
def doneB (S : WardS) (n : Nat) : Prop := (S.t n).phase = 0 ∨ (S.t n).phase = 6
instance (S : WardS) (n : Nat) : Decidable (doneB S n) := by unfold doneB; infer_instance
def mineN (n : Nat) (l : List EntD) : Nat := l.countP fun e => decide (e.thr = n)
def Seen (n : Nat) (c : CallD) (L0 : List EntD) (S : WardS) : Prop :=
 ∃ ext, S.log = L0 ++ ext ∧ (∀ e ∈ ext, e.thr = n → e.call = c) ∧ (doneB S n → mineN n ext = 1) ∧ (¬ doneB S n → (S.t n).asked = c ∧ mineN n ext = 0)
def Aside (n : Nat) (S S' : WardS) : Prop := S'.t n = S.t n ∧ ∃ ext, S'.log = S.log ++ ext ∧ ∀ e ∈ ext, e.thr ≠ n
theorem Aside.refl (n : Nat) (S : WardS) : Aside n S S := ⟨rfl, [], by simp, fun _ h => by cases h⟩
theorem Aside.trans {n : Nat} {S S' S'' : WardS} (h : Aside n S S') (k : Aside n S' S'') : Aside n S S'' := by
 obtain ⟨h1, x, h2, h3⟩ := h; obtain ⟨k1, y, k2, k3⟩ := k; refine ⟨k1.trans h1, x ++ y, by rw [k2, h2, List.append_assoc], fun e he => ?_⟩; rcases List.mem_append.1 he with he | he
 ·exact h3 e he
 ·exact k3 e he
structure EndR (n : Nat) (c : CallD) (L0 : List EntD) (M : Nat) (S : WardS) (k : Nat) : Prop where
 good : GoodS S (M + 91 * k)
 left : leftT (S.t n) + k ≤ 86 ∨ doneB S n
 seen : Seen n c L0 S
theorem logCells_get : ∀ (l : List EntD) (j : Nat) (e : EntD) (i : Nat), l[j]? = some e → i < 21 → (logCells l)[j * 21 + i]? = (entCells e)[i]?
 | [], j, e, i, h, _ => by simp at h
 | x :: r, 0, e, i, h, hi => by
  simp only [List.getElem?_cons_zero, Option.some.injEq] at h; subst h; have e1 : logCells (x :: r) = entCells x ++ logCells r := by unfold logCells; rw [List.flatMap_cons]
  rw [e1, List.getElem?_append_left (by rw [entCells_len]; omega)]; simp
 | x :: r, j + 1, e, i, h, hi => by
  simp only [List.getElem?_cons_succ] at h; have e1 : logCells (x :: r) = entCells x ++ logCells r := by unfold logCells; rw [List.flatMap_cons]
  rw [e1, List.getElem?_append_right (by rw [entCells_len]; omega), entCells_len, show (j + 1) * 21 + i - 21 = j * 21 + i from by omega]; exact logCells_get r j e i h hi
theorem logSl_at {w : World} {H : Nat} {A : Option Addr} {c : Nat} {l : List EntD} (h : LogSl w H (.slice A l.length c) l) {j : Nat} {e : EntD} (hj : l[j]? = some e) :
  ∃ b, A = some ⟨b, 0, none⟩ ∧ w.cell? ⟨b, j * 21 + 0, none⟩ = some (.int .i64 e.kind) ∧ w.cell? ⟨b, j * 21 + 1, none⟩ = some (.int .i64 e.thr) ∧ w.cell? ⟨b, j * 21 + 2, none⟩ = some (.int .u32 e.call.arch) ∧ w.cell? ⟨b, j * 21 + 3, none⟩ = some (.int .u32 e.call.nr) ∧ w.cell? ⟨b, j * 21 + 4, none⟩ = some (.int .u64 e.call.a0) ∧ w.cell? ⟨b, j * 21 + 5, none⟩ = some (.int .u64 e.call.a1) ∧ w.cell? ⟨b, j * 21 + 6, none⟩ = some (.int .u64 e.call.a2) ∧ w.cell? ⟨b, j * 21 + 7, none⟩ = some (.int .u64 e.call.a3) := by
 have hr := Reads.of_own h
 have hlt : j < l.length := by
  rcases Nat.lt_or_ge j l.length with h1 | h1
  ·exact h1
  ·rw [List.getElem?_eq_none h1] at hj; cases hj
 obtain ⟨ad, ha, _, hc⟩ := hr.2 (by omega); rcases h.2 with ⟨h1, _⟩ | ⟨g, cap, cur, hv, _⟩
 ·rw [ha] at h1; simp at h1
 ·rw [ha] at hv; simp only [Value.slice.injEq, Option.some.injEq] at hv; obtain ⟨rfl, _⟩ := hv
  have key : ∀ i u, i < 21 → (entCells e)[i]? = some u → w.cell? ⟨g, j * 21 + i, none⟩ = some u := fun i u hi hu => by
   have := hc (j * 21 + i) u ((logCells_get l j e i hj hi).trans hu); rw [show (⟨g, 0, none⟩ : Addr).add (j * 21 + i) = ⟨g, j * 21 + i, none⟩ from by unfold Addr.add; split <;> simp] at this; exact this
  exact ⟨g, ha, key 0 _ (by omega) rfl, key 1 _ (by omega) rfl, key 2 _ (by omega) rfl, key 3 _ (by omega) rfl, key 4 _ (by omega) rfl, key 5 _ (by omega) rfl, key 6 _ (by omega) rfl, key 7 _ (by omega) rfl⟩
end Go.Proofs.YtmgngapkgcofnabGreatDoor
namespace Go.Proofs.YtmgngapkgcofnabGreatDoor
open Go.RowKit Go.PlainAid
theorem putN_sl (S : MemS) (a : Nat) (f : Nat → Int) (k : Nat) : (putN S a f k).sl = S.sl := by
 induction k with
 | zero => rfl
 | succ k ih => rw [putN]; exact ih
def cntSl (S : MemS) : Nat → Nat
 | 0 => 0
 | k + 1 => cntSl S k + if (S.sl k).isSome then 1 else 0
theorem cntSl_le (S : MemS) : ∀ k, cntSl S k ≤ k := by
 intro k
 induction k with
 | zero => exact Nat.le_refl _
 | succ k ih => simp only [cntSl]; split <;> omega
set_option linter.unusedSimpArgs false in
set_option maxRecDepth 100000 in
set_option maxHeartbeats 2000000 in
theorem memSealed_any (m : Nat) (B : Nat → Prop) (S : MemS) (w : World) (h : MemAt w B m S) :
  Calls Tryz.prog 31 #[.pointer (some ⟨m, 0, none⟩)] w fun e w' => e = .returned (.int .i64 (cntSl S 4)) ∧ w = w' := by
 obtain ⟨C, sp, hblk, hC, hse⟩ := h.rep; have c0 : w.cell? ⟨m, 528, none⟩ = some (ptrV (sp 0)) := by rw [hblk.cell (i := 528) (by omega), hC _ (by omega)]; exact congrArg some (memCell_seal (i := 0) (by omega))
 have c1 : w.cell? ⟨m, 529, none⟩ = some (ptrV (sp 1)) := by rw [hblk.cell (i := 529) (by omega), hC _ (by omega)]; exact congrArg some (memCell_seal (i := 1) (by omega))
 have c2 : w.cell? ⟨m, 530, none⟩ = some (ptrV (sp 2)) := by rw [hblk.cell (i := 530) (by omega), hC _ (by omega)]; exact congrArg some (memCell_seal (i := 2) (by omega))
 have c3 : w.cell? ⟨m, 531, none⟩ = some (ptrV (sp 3)) := by rw [hblk.cell (i := 531) (by omega), hC _ (by omega)]; exact congrArg some (memCell_seal (i := 3) (by omega))
 have HI : Hid (∀ (w : World) (k : Nat), k < 4 → (Instr.index 159 (.agg #[ptrV (sp 0), ptrV (sp 1), ptrV (sp 2), ptrV (sp 3)]) (.int .i64 k)).run Tryz.prog w = .ok (ptrV (sp k)) w) := fun w k hk => run_index4 w sp k hk
 have HSE : Hid (∀ k, k < 4 → (sp k).isSome = (S.sl k).isSome) := by
  intro k hk; have := hse k hk; unfold SealAt at this; split at this
  ·rename_i e1 e2; rw [e1, e2]; rfl
  ·rename_i e1 e2; rw [e1, e2]; rfl
  ·exact this.elim
 clear hblk hC hse h; generalize ptrV (sp 0) = P0 at *
 generalize ptrV (sp 1) = P1 at *
 generalize ptrV (sp 2) = P2 at *
 generalize ptrV (sp 3) = P3 at *
 have hle := Lib.hid (cntSl_le S); go_enter Tryz.func31, Tryz.ntmps31
 go_wp2_with fail
 go_loop [3, 10] (fun nv iv => ∃ k : Nat, k ≤ 4 ∧ iv = .int .i64 k ∧ nv = .int .i64 (cntSl S k)) (fun _ iv => 4 - (intOf iv).toNat)
 case atStart => exact ⟨0, Nat.zero_le _, rfl, rfl⟩
 case round =>
  obtain ⟨k, hk, rfl, rfl⟩ := hrel
  by_cases hlt : k < 4
  ·have x1 : (k : Int) < 4 := by omega
   have x2 : (0 : Int) ≤ (k : Int) := by omega
   have hix := fun w : World => HI.out w k hlt; have hl := hle.out k; have hse := HSE.out k hlt
   cases hsp : sp k with
   | none =>
    rw [hsp] at hix hse; have hc : Hid (cntSl S (k + 1) = cntSl S k) := by show _ = _; rw [cntSl, ← hse]; rfl
    clear hse hsp; simp only [ptrV, Option.map_none] at hix; generalize cntSl S k = N at *
    go_wp2_with fail; go_round
    case rel => exact ⟨k + 1, by omega, by go_num, by rw [hc.out]⟩
    case measure => simp [intOf]; omega
   | some g =>
    rw [hsp] at hix hse; have hc : Hid (cntSl S (k + 1) = cntSl S k + 1) := by show _ = _; rw [cntSl, ← hse]; rfl
    clear hse hsp; simp only [ptrV, Option.map_some] at hix; generalize cntSl S k = N at *
    go_wp2_with fail; go_round
    case rel => exact ⟨k + 1, by omega, by go_num, by rw [hc.out]; go_num⟩
    case measure => simp [intOf]; omega
  ·obtain rfl : k = 4 := by omega
   go_wp2_with fail; go_ret; exact ⟨rfl, rfl⟩
theorem deepN_no {cs : List CondD} : ∀ {n : Nat}, deepN cs n = false → ∀ k, k < n → ∀ x, cs[k]? = some x → ¬ 7 < x.op
 | 0, _, k, hk, _, _ => by omega
 | n + 1, h, k, hk, x, hx => by
  rw [deepN, Bool.or_eq_false_iff] at h
  by_cases e : k = n
  ·subst e; have h2 := h.2; rw [hx] at h2; exact of_decide_eq_false h2
  ·exact deepN_no h.1 k (by omega) x hx
theorem seen_flat {cs : List CondD} {v : ValsD} (h : deepN cs cs.length = false) : seenB v cs = true := by
 unfold seenB; rw [List.all_eq_true]; intro x hx; obtain ⟨k, hk⟩ := List.getElem?_of_mem hx; have hlt : k < cs.length := (List.getElem?_eq_some_iff.1 hk).1; have := deepN_no h k hlt x hk; unfold seenC; rw [if_neg (by omega), if_neg (by omega)]
theorem pick_law (c : CallD) (v : ValsD) (k e : Int) (hk : k ≠ 4) : ∀ (rs : List RuleD) (i : Nat), (∀ r ∈ rs, r.kind ≠ 4) →
  ((pickJ c k e i rs).1 ≠ 4 → pickD c v k e rs = ((pickJ c k e i rs).1, (pickJ c k e i rs).2.1) ∧ (pickJ c k e i rs).2.2 = 0) ∧
  ((pickJ c k e i rs).1 = 4 → ∃ j : Nat, (pickJ c k e i rs).2.2 = ((i + j : Nat) : Int) ∧ j < rs.length ∧ pickD c v k e (rs.drop j) = pickD c v k e rs) ∧ (pickD c v k e rs).1 ≠ 4
 | [], i, _ => by
  refine ⟨fun _ => ⟨rfl, rfl⟩, fun h => absurd h hk, hk⟩
 | r :: rs, i, hr => by
  obtain ⟨h1, h2, h3⟩ := pick_law c v k e hk rs (i + 1) (fun x hx => hr x (by simp [hx])); have hr0 := hr r (by simp); unfold pickJ
  by_cases hf : fitB c r = true
  ·rw [if_pos hf]
   by_cases hd : deepN r.conds r.conds.length = true
   ·rw [if_pos hd]; refine ⟨fun h => absurd rfl h, fun _ => ⟨0, by simp, by simp, rfl⟩, ?_⟩; unfold pickD; split
    ·exact hr0
    ·exact h3
   ·have hs := seen_flat (v := v) (Bool.eq_false_iff.2 hd); rw [if_neg hd]; unfold pickD; rw [hf, hs]; exact ⟨fun _ => ⟨rfl, rfl⟩, fun h => absurd h hr0, hr0⟩
  ·rw [if_neg hf]; have hf' := Bool.eq_false_iff.2 hf
   have e1 : pickD c v k e (r :: rs) = pickD c v k e rs := by
    rw [pickD, hf']; rfl
   rw [e1]; refine ⟨h1, fun h => ?_, h3⟩; obtain ⟨j, k1, k2, k3⟩ := h2 h; refine ⟨j + 1, by rw [k1]; congr 1; omega, by simp; omega, ?_⟩; rw [List.drop_succ_cons, k3]
theorem judge_tells {p : PolD} (hf : polF p = 0) (c : CallD) (v : ValsD) (h : (judgeF p c).1 ≠ 4) : decideF p c v = ((judgeF p c).1, (judgeF p c).2.1) ∧ (judgeF p c).2.2 = 0 := by
 obtain ⟨hk, hr⟩ := pol_kinds hf; unfold judgeF decideF at *
 split
 ·rename_i ha; rw [if_pos ha] at h; exact (pick_law c v p.kind p.errno hk p.rules 0 hr).1 h
 ·exact ⟨rfl, rfl⟩
end Go.Proofs.YtmgngapkgcofnabGreatDoor
namespace Go.Proofs.YtmgngapkgcofnabGreatDoor
open Go.RowKit Go.PlainAid
def slotA (k : Nat) : Nat := 512 + 64 * k
theorem freeS_sl (M : MemS) (a k : Nat) (hk : k < 4) : (freeS M a).sl k = if a = slotA k then none else M.sl k := by
 unfold freeS freeB slotA
 by_cases h : a % 64 = 0 ∧ 512 ≤ a ∧ a < 768
 ·rw [decide_eq_true h, Bool.true_and]
  by_cases e : a = 512 + 64 * k
  ·rw [if_pos e, show a / 64 - 8 = k from by omega]
   by_cases hs : (M.sl k).isSome = true
   ·rw [if_pos hs]; exact if_pos rfl
   ·rw [if_neg hs]
    simpa using hs
  ·rw [if_neg e]; split
   ·exact if_neg (by omega)
   ·rfl
 ·rw [decide_eq_false h, Bool.false_and, if_neg (by simp), if_neg (by omega)]
theorem freesS_sl : ∀ (l : List Nat) (M : MemS) (k : Nat), k < 4 → (freesS M l).sl k = if slotA k ∈ l then none else M.sl k
 | [], M, k, _ => by simp [freesS]
 | a :: r, M, k, hk => by
  rw [freesS, freesS_sl r _ k hk, freeS_sl M a k hk]
  by_cases h1 : slotA k ∈ r
  ·simp [h1]
  ·by_cases h2 : a = slotA k
   ·simp [h2]
   ·have h3 : ¬ slotA k = a := fun e => h2 e.symm; simp [h1, h2, h3]
def OwnsS (S : WardS) : Prop := ∀ k, k < 4 → S.m.sl k ≠ none → ∃ n, n < 3 ∧ slotA k ∈ (S.t n).seals
def inL (l : List Nat) (k : Nat) : Nat := if slotA k ∈ l then 1 else 0
theorem inL_sum : ∀ l : List Nat, inL l 0 + inL l 1 + inL l 2 + inL l 3 ≤ l.length
 | [] => by simp [inL]
 | a :: r => by
  have ih := inL_sum r
  have key : ∀ k, inL (a :: r) k ≤ inL r k + (if slotA k = a then 1 else 0) := fun k => by
   unfold inL
   by_cases h1 : slotA k ∈ r
   ·simp [h1]
   ·by_cases h2 : slotA k = a
    ·simp [h2]
    ·simp [h1, h2]
  have k0 := key 0; have k1 := key 1; have k2 := key 2; have k3 := key 3
  have hs : (if slotA 0 = a then 1 else 0) + (if slotA 1 = a then 1 else 0) + (if slotA 2 = a then 1 else 0) + (if slotA 3 = a then 1 else 0) ≤ 1 := by
   unfold slotA
   repeat' split
   all_goals omega
  rw [List.length_cons]; omega
theorem cnt_owned {S : WardS} (h : OwnsS S) : cntSl S.m 4 ≤ (S.t 0).seals.length + (S.t 1).seals.length + (S.t 2).seals.length := by
 have a0 := inL_sum (S.t 0).seals; have a1 := inL_sum (S.t 1).seals; have a2 := inL_sum (S.t 2).seals
 have key : ∀ k, k < 4 → (if (S.m.sl k).isSome then 1 else 0) ≤ inL (S.t 0).seals k + inL (S.t 1).seals k + inL (S.t 2).seals k := fun k hk => by
  split
  ·rename_i hs; obtain ⟨n, hn, hm⟩ := h k hk (fun e => by rw [e] at hs; simp at hs); unfold inL; have h3 : n = 0 ∨ n = 1 ∨ n = 2 := by omega
   rcases h3 with rfl | rfl | rfl
   ·rw [if_pos hm]; omega
   ·rw [if_pos hm]; omega
   ·rw [if_pos hm]; omega
  ·omega
 have k0 := key 0 (by omega); have k1 := key 1 (by omega); have k2 := key 2 (by omega); have k3 := key 3 (by omega); simp only [cntSl]; omega
theorem owns_same {S S' : WardS} (h : OwnsS S) (hm : S'.m.sl = S.m.sl) (ht : ∀ k, (S'.t k).seals = (S.t k).seals) : OwnsS S' := fun k hk hs => by
 rw [hm] at hs; obtain ⟨n, hn, hm⟩ := h k hk hs; exact ⟨n, hn, by rw [ht]; exact hm⟩
theorem owns_ends {S : WardS} (h : OwnsS S) (n : Nat) (kind errno : Int) (v : ValsD) : OwnsS (endsS S n kind errno v) := fun k hk hs => by
 have e : (endsS S n kind errno v).m = freesS S.m (S.t n).seals := rfl; rw [e, freesS_sl _ _ k hk] at hs; split at hs
 ·exact absurd rfl hs
 ·rename_i hno; obtain ⟨j, hj, hm⟩ := h k hk hs; have hjn : j ≠ n := fun e => hno (by rw [← e]; exact hm); exact ⟨j, hj, by show slotA k ∈ ((endsS S n kind errno v).t j).seals; rw [show (endsS S n kind errno v).t j = S.t j from if_neg hjn]; exact hm⟩
theorem owns_setT {S : WardS} (h : OwnsS S) {n : Nat} {T : ThrS} (hT : T.seals = (S.t n).seals) : OwnsS (S.setT n T) :=
 owns_same h rfl fun k => by
  show (if k = n then T else S.t k).seals = _; split
  ·rename_i e; rw [e]; exact hT
  ·rfl
theorem sealX_cases (M : MemS) (s : ByteArray) : ((sealX M s).2 ≠ 0 ∧ sealS M s = M) ∨ ∃ i, i < 4 ∧ sealX M s = (((slotA i : Nat) : Int), 0) ∧ sealS M s = M.sealAt i (bt s) ∧ (M.sl i).isSome = false ∧ s.size ≤ 64 := by
 unfold sealX sealS; split
 ·exact .inl ⟨by simp, rfl⟩
 ·split
  ·rename_i i hi; obtain ⟨h1, h2, h3⟩ := ffF_lt hi; exact .inr ⟨i, by omega, by unfold slotA; rw [show (8 + i) * 64 = 512 + 64 * i from by omega], rfl, h3, by omega⟩
  ·exact .inl ⟨by simp, rfl⟩
theorem owns_seal {S : WardS} (h : OwnsS S) {n : Nat} (hn : n < 3) {i : Nat} {f : Nat → Int} {T : ThrS} (hT : T.seals = (S.t n).seals ++ [slotA i]) : OwnsS ((S.setM (S.m.sealAt i f)).setT n T) := fun k hk hs => by
 have e : ∀ j, ((S.setM (S.m.sealAt i f)).setT n T).t j = if j = n then T else S.t j := fun _ => rfl
 by_cases hki : k = i
 ·exact ⟨n, hn, by rw [e, if_pos rfl, hT, hki]; simp⟩
 ·have hs2 : S.m.sl k ≠ none := by
   have : ((S.setM (S.m.sealAt i f)).setT n T).m.sl k = S.m.sl k := if_neg hki; rw [this] at hs; exact hs
  obtain ⟨j, hj, hm⟩ := h k hk hs2; refine ⟨j, hj, ?_⟩; rw [e]; split
  ·rename_i ej; rw [hT, ← ej]; exact List.mem_append_left _ hm
  ·exact hm
theorem cntN_isP {nr : Int} {a : Nat} (ha : a < 4) (h : isP nr a) : cntN nr a = 1 + cntN nr (a + 1) := by
 unfold cntN; rw [show 4 - a = (4 - (a + 1)) + 1 from by omega, cntK, if_pos h]
theorem cnt_ptr (nr : Int) (a : Nat) (ha : a ≤ 4) : cntN nr (ptrN nr a) = cntN nr a ∧ (ptrN nr a < 4 → isP nr (ptrN nr a)) := by
 rcases ptrN_cnt nr a ha with ⟨h1, h2⟩ | ⟨h1, h2, h3⟩
 ·rw [h1, h2]; exact ⟨rfl, fun h => by omega⟩
 ·exact ⟨by rw [cntN_isP h1 h2, h3], fun _ => h2⟩
theorem owns_sealK {n : Nat} (hn : n < 3) : ∀ (k a : Nat) (S : WardS), OwnsS S → a ≤ 4 → (a < 4 → isP (S.t n).now.nr a) → (S.t n).seals.length + cntN (S.t n).now.nr a ≤ 2 → OwnsS (sealK S n a k) ∧ ((sealK S n a k).t n).seals.length ≤ 2
 | 0, a, S, h, _, _, hl => by
  refine ⟨owns_setT h rfl, ?_⟩; show ((S.setT n { S.t n with phase := 5 }).t n).seals.length ≤ 2; rw [show (S.setT n { S.t n with phase := 5 }).t n = { S.t n with phase := 5 } from if_pos rfl]; show (S.t n).seals.length ≤ 2; omega
 | k + 1, a, S, h, ha, hip, hl => by
  rw [sealK]; split
  ·exact owns_sealK hn 0 a S h ha hip hl
  ·rename_i h4; rcases sealX_cases S.m (sealText (kindN (S.t n).now.nr a) ((S.t n).vals.at_ a)) with ⟨hx, hs⟩ | ⟨i, hi, hx, hs, _, _⟩
   ·split; rename_i x f hxf; rw [hxf] at hx; rw [if_pos hx, hs]; refine ⟨owns_ends (owns_same h rfl fun _ => rfl) _ _ _ _, ?_⟩; show ((endsS _ n 2 12 zeroVals).t n).seals.length ≤ 2; rw [show (endsS (S.setM S.m) n 2 12 zeroVals).t n = if (2 : Int) = 3 then ThrS.dead else ThrS.zero from if_pos rfl]; split <;> simp [ThrS.dead, ThrS.zero]
   ·rw [hx, hs]; simp only; rw [if_neg (by simp)]
    have e : ((S.setM (S.m.sealAt i (bt (sealText (kindN (S.t n).now.nr a) ((S.t n).vals.at_ a))))).setT n { S.t n with seals := (S.t n).seals ++ [((slotA i : Nat) : Int).toNat], now := (S.t n).now.setArg a ((slotA i : Nat) : Int) }).t n = { S.t n with seals := (S.t n).seals ++ [((slotA i : Nat) : Int).toNat], now := (S.t n).now.setArg a ((slotA i : Nat) : Int) } := if_pos rfl
    have enr : ((S.t n).now.setArg a ((slotA i : Nat) : Int)).nr = (S.t n).now.nr := setArg_nr _ _ _; obtain ⟨q1, q2⟩ := cnt_ptr (S.t n).now.nr (a + 1) (by omega); have q3 := cntN_isP (by omega) (hip (by omega))
    have q4 : ptrN (S.t n).now.nr (a + 1) ≤ 4 := by
     rcases ptrN_cnt (S.t n).now.nr (a + 1) (by omega) with ⟨q, _⟩ | ⟨q, _⟩ <;> omega
    refine owns_sealK hn k _ _ (owns_seal h hn (by simp)) q4 ?_ ?_
    ·rw [e]; show _ → isP ((S.t n).now.setArg a ((slotA i : Nat) : Int)).nr _; rw [enr]; exact q2
    ·rw [e]; show ((S.t n).seals ++ [_]).length + cntN ((S.t n).now.setArg a ((slotA i : Nat) : Int)).nr _ ≤ 2; rw [enr, List.length_append, q1]; simp only [List.length_cons, List.length_nil]; omega
structure SafeO (S : WardS) : Prop where
 own : OwnsS S
 two : ∀ n, (S.t n).seals.length ≤ 2
theorem safeO_new : SafeO WardS.new := ⟨fun k _ h => absurd rfl h, fun _ => by simp [WardS.new, ThrS.zero]⟩
theorem safeO_setM {S : WardS} (h : SafeO S) {M : MemS} (hm : M.sl = S.m.sl) : SafeO (S.setM M) := ⟨owns_same h.own hm fun _ => rfl, h.two⟩
theorem safeO_setT {S : WardS} (h : SafeO S) {n : Nat} {T : ThrS} (hT : T.seals = (S.t n).seals) : SafeO (S.setT n T) := by
 refine ⟨owns_setT h.own hT, fun k => ?_⟩; show (if k = n then T else S.t k).seals.length ≤ 2; split
 ·rw [hT]; exact h.two n
 ·exact h.two k
theorem safeO_ends {S : WardS} (h : SafeO S) (n : Nat) (kind errno : Int) (v : ValsD) : SafeO (endsS S n kind errno v) := by
 refine ⟨owns_ends h.own n kind errno v, fun k => ?_⟩; show (if k = n then (if kind = 3 then ThrS.dead else ThrS.zero) else S.t k).seals.length ≤ 2; split
 ·split <;> simp [ThrS.dead, ThrS.zero]
 ·exact h.two k
theorem safeO_does {S : WardS} (h : SafeO S) (n : Nat) (a : Int × Int) : SafeO (doesS S n a) := by
 unfold doesS; split
 ·exact h
 ·split <;> exact safeO_ends h _ _ _ _
theorem safeO_step {p : PolD} (_hf : polF p = 0) {S : WardS} (h : SafeO S) {n : Nat} (hn : n < 3) (hg : GoodT (S.t n)) : SafeO (stepT p S n) := by
 unfold stepT; split
 ·unfold filterS; split
  ·exact safeO_setT h rfl
  ·split
   ·exact safeO_setT h rfl
   ·exact safeO_does h _ _
 ·split
  ·unfold snapS; split
   ·exact safeO_ends h _ _ _ _
   ·split
    ·split
     ·exact safeO_setT h rfl
     ·split
      ·exact safeO_ends h _ _ _ _
      ·exact safeO_setT h rfl
    ·split
     ·exact safeO_setT h rfl
     ·split
      ·refine safeO_ends (safeO_setT h ?_) _ _ _ _; rfl
      ·exact safeO_setT h rfl
  ·split
   ·unfold judgeS; split
    ·exact safeO_setT h rfl
    ·exact safeO_does h _ _
   ·split
    ·rename_i h4; obtain ⟨s1, _⟩ := hg.sea (by omega); obtain ⟨q1, q2⟩ := cnt_ptr (S.t n).now.nr 0 (by omega)
     have q4 : ptrN (S.t n).now.nr 0 ≤ 4 := by
      rcases ptrN_cnt (S.t n).now.nr 0 (by omega) with ⟨q, _⟩ | ⟨q, _⟩ <;> omega
     obtain ⟨k1, k2⟩ := owns_sealK hn 5 (ptrN (S.t n).now.nr 0) S h.own q4 q2 (by rw [s1, q1]; have := cntN_two (S.t n).now.nr; simpa using this); refine ⟨k1, fun k => ?_⟩
     by_cases e : k = n
     ·rw [e]; exact k2
     ·have hgo := goes_seal S n h4 5 (ptrN (S.t n).now.nr 0) S (fun _ _ => rfl) rfl rfl; show ((sealStep S n).t k).seals.length ≤ 2; rw [show (sealStep S n).t k = S.t k from hgo.1 k e]; exact h.two k
    ·split
     ·unfold execS; split
      ·exact safeO_ends h _ _ _ _
      ·split; split
       ·exact safeO_ends h _ _ _ _
       ·exact safeO_ends h _ _ _ _
     ·exact h
theorem safeO_steps {p : PolD} (hf : polF p = 0) {S : WardS} {L : Nat} (h : SafeO S) (hG : GoodS S L) (n : Int) : ∀ k, SafeO (stepsS p S n k)
 | 0 => h
 | k + 1 => by
  have ih := safeO_steps hf h hG n k; rw [stepsS]; unfold stepS; split
  ·exact ih
  ·exact safeO_step hf ih (by omega) ((good_steps hf hG n k).thr _)
theorem mapS_sl (M : MemS) (n : Int) (wr : Bool) : (mapS M n wr).sl = M.sl := by unfold mapS; split <;> rfl
theorem unmapS_sl (M : MemS) (n : Int) : (unmapS M n).sl = M.sl := by unfold unmapS; split <;> rfl
theorem putS_sl (M : MemS) (a : Nat) (s : ByteArray) : (putS M a s).sl = M.sl := by
 unfold putS; split
 ·exact putN_sl _ _ _ _
 ·rfl
theorem safeO_did {p : PolD} (hf : polF p = 0) {S : WardS} {L : Nat} (h : SafeO S) (hG : GoodS S L) (a : ActD) : SafeO (didS p S a) := by
 unfold didS; split
 ·exact safeO_setM h (mapS_sl _ _ _)
 ·split
  ·exact safeO_setM h (unmapS_sl _ _)
  ·split
   ·exact safeO_setM h (putS_sl _ _ _)
   ·split
    ·unfold enterS; split
     ·rename_i he; refine safeO_setT h ?_
      have h0 : (S.t a.n.toNat).phase = 0 := by
       unfold enterE at he; split at he
       ·omega
       ·split at he
        ·assumption
        ·split at he <;> omega
      exact ((hG.thr _).sea (by omega)).1.symm
     ·exact h
    ·split
     ·exact safeO_steps hf h hG _ _
     ·exact safeO_steps hf h hG _ 1
theorem sealed_le {S : WardS} (h : SafeO S) (hg : ∀ k, GoodT (S.t k)) : cntSl S.m 4 ≤ (if (S.t 0).phase = 5 then 2 else 0) + (if (S.t 1).phase = 5 then 2 else 0) + (if (S.t 2).phase = 5 then 2 else 0) := by
 have h0 := cnt_owned h.own
 have key : ∀ n, (S.t n).seals.length ≤ (if (S.t n).phase = 5 then 2 else 0) := fun n => by
  split
  ·exact h.two n
  ·rename_i e; rw [((hg n).sea e).1]; simp
 have k0 := key 0; have k1 := key 1; have k2 := key 2; omega
end Go.Proofs.YtmgngapkgcofnabGreatDoor
namespace Go.Proofs.YtmgngapkgcofnabGreatDoor
open Go.RowKit Go.PlainAid
theorem bt_of (l : List UInt8) (j : Nat) (h : j < l.length) : bt ⟨l.toArray⟩ j = (l[j].toNat : Int) := by
 rw [bt_list ⟨l.toArray⟩ j h]
theorem bnum_of (l : List UInt8) (j : Nat) (h : j < l.length) : bnum ⟨l.toArray⟩ j = l[j].toNat := by
 unfold bnum; rw [bt_of l j h]; exact Int.toNat_natCast _
theorem ofNat_n {n : Nat} (h : n < 256) : (UInt8.ofNat n).toNat = n := by simp; omega
theorem readA_bytes (ip p : Nat) (hip : ip < 4294967296) (hp : p < 65536) : readA ⟨(bytesA ip p).toArray⟩ = some (ip, p) := by
 have hl : (bytesA ip p).length = 16 := rfl; have e2 : bnum ⟨(bytesA ip p).toArray⟩ 2 = p / 256 := by rw [bnum_of _ 2 (by rw [hl]; omega)]; exact ofNat_n (by omega)
 have e3 : bnum ⟨(bytesA ip p).toArray⟩ 3 = p % 256 := by rw [bnum_of _ 3 (by rw [hl]; omega)]; exact ofNat_n (by omega)
 have e4 : bnum ⟨(bytesA ip p).toArray⟩ 4 = ip / 16777216 := by rw [bnum_of _ 4 (by rw [hl]; omega)]; exact ofNat_n (by omega)
 have e5 : bnum ⟨(bytesA ip p).toArray⟩ 5 = ip / 65536 % 256 := by rw [bnum_of _ 5 (by rw [hl]; omega)]; exact ofNat_n (by omega)
 have e6 : bnum ⟨(bytesA ip p).toArray⟩ 6 = ip / 256 % 256 := by rw [bnum_of _ 6 (by rw [hl]; omega)]; exact ofNat_n (by omega)
 have e7 : bnum ⟨(bytesA ip p).toArray⟩ 7 = ip % 256 := by rw [bnum_of _ 7 (by rw [hl]; omega)]; exact ofNat_n (by omega)
 have hI : ipOf ⟨(bytesA ip p).toArray⟩ = ip := by
  unfold ipOf; rw [e4, e5, e6, e7]; simp only [ipJ, List.foldl_cons, List.foldl_nil]; omega
 have hP : portOf ⟨(bytesA ip p).toArray⟩ = p := by unfold portOf; rw [e2, e3]; omega
 unfold readA; rw [hI, hP, if_pos ⟨by rw [bsz, hl], rfl⟩]
theorem back_text (s : ByteArray) : strOfNums ((List.range s.size).map (bt s)) = s := by
 have h : (strOfNums ((List.range s.size).map (bt s))).data.toList = s.data.toList := by
  rw [strOfNums_data]; apply List.ext_getElem
  ·simp
  ·intro i h1 h2; have hi : i < s.size := by simpa using h2
   simp only [List.getElem_map, List.getElem_range]; unfold bt; rw [dif_pos hi]; simp; rfl
 have h2 : (strOfNums ((List.range s.size).map (bt s))).data = s.data := Array.toList_inj.1 h; cases s
 cases hs : strOfNums _
 rw [hs] at h2; simp only at h2; rw [h2]
theorem readL_range {f : Nat → Option Int} {a : Nat} {g : Nat → Int} : ∀ n, (∀ k, k < n → f ((a + k) % 18446744073709551616) = some (g k)) → readL f a n = some ((List.range n).map g) := by
 intro n
 induction n with
 | zero => intro _; rfl
 | succ n ih =>
  intro h; rw [readL, ih (fun k hk => h k (by omega)), h n (by omega), List.range_succ, List.map_append]; rfl
theorem byte_sealed {S : MemS} {i : Nat} (hi : i < 4) {s : ByteArray} (h : S.sl i = some (bt s)) {k : Nat} (hk : k < 64) : byteS S ((slotA i + k) % 18446744073709551616) = some (bt s k) := by
 unfold byteS slotA; rw [show (512 + 64 * i + k) % 18446744073709551616 = 512 + 64 * i + k from by omega, if_neg (by omega), if_pos (by omega), show (512 + 64 * i + k) / 64 - 8 = i from by omega, h]; simp only [Option.map_some]; rw [show (512 + 64 * i + k) % 64 = k from by omega]
theorem value_addr {S : MemS} {i : Nat} (hi : i < 4) {ip port : Nat} (hip : ip < 4294967296) (hp : port < 65536) (h : S.sl i = some (bt (bytesOfL (bytesA ip port)))) : valueF S 3 (slotA i) = (0, ⟨⟨#[]⟩, (ip : Int), (port : Int)⟩) := by
 have hs : (bytesOfL (bytesA ip port)).size = 16 := rfl; have hr : readL (byteS S) (slotA i) 16 = some ((List.range 16).map (bt (bytesOfL (bytesA ip port)))) := readL_range 16 (fun k hk => byte_sealed hi h (by omega))
 have hb : strOfNums ((List.range 16).map (bt (bytesOfL (bytesA ip port)))) = bytesOfL (bytesA ip port) := by
  have := back_text (bytesOfL (bytesA ip port)); rw [hs] at this; exact this
 have hg : getF S (slotA i) = (0, bytesOfL (bytesA ip port)) := by
  unfold getF; rw [hr]; simp only; rw [hb]
 unfold valueF; rw [if_neg (by decide), hg]; simp only [ne_eq, not_true_eq_false, if_false]; have := readA_bytes ip port hip hp; rw [show bytesOfL (bytesA ip port) = ⟨(bytesA ip port).toArray⟩ from rfl, this]
theorem readT_text {f : Nat → Option Int} {a : Nat} {g : Nat → Int} (n : Nat) (hf : ∀ k, k ≤ n → f ((a + k) % 18446744073709551616) = some (g k)) (hnz : ∀ k, k < n → g k ≠ 0) (hz : g n = 0) (hn : n ≤ 40) :
  ∀ (m j : Nat), j + m = 41 → j ≤ n → readT f a m ((List.range j).map g) = (0, strOfNums ((List.range n).map g))
 | 0, j, h1, h2 => by omega
 | m + 1, j, h1, h2 => by
  rw [readT, show ((List.range j).map g).length = j from by simp, hf j h2]; simp only
  by_cases e : j = n
  ·subst e; rw [if_pos hz]
  ·rw [if_neg (hnz j (by omega)), if_neg (by omega)]; rw [show (List.range j).map g ++ [g j] = (List.range (j + 1)).map g from by rw [List.range_succ, List.map_append]; rfl]; exact readT_text n hf hnz hz hn m (j + 1) (by omega) (by omega)
theorem bt_get {s : ByteArray} {k : Nat} {b : UInt8} (h : s.data.toList[k]? = some b) : bt s k = (b.toNat : Int) := by
 have hk : k < s.data.toList.length := by
  rcases Nat.lt_or_ge k s.data.toList.length with h1 | h1
  ·exact h1
  ·rw [List.getElem?_eq_none h1] at h; cases h
 rw [bt_list s k hk]; rw [List.getElem?_eq_getElem hk] at h; rw [Option.some.inj h]
theorem nul_list (s : ByteArray) : (s ++ (⟨#[0]⟩ : ByteArray)).data.toList = s.data.toList ++ [0] := by simp
theorem value_path {S : MemS} {i : Nat} (hi : i < 4) {s : ByteArray} (hs : s.size ≤ 40) (hnz : ∀ b ∈ s.data.toList, b ≠ 0) (h : S.sl i = some (bt (s ++ ⟨#[0]⟩))) : valueF S 2 (slotA i) = (0, ⟨s, 0, 0⟩) := by
 have hlen : s.data.toList.length = s.size := by simp
 have hat : ∀ k, k < s.size → ∃ b, b ∈ s.data.toList ∧ s.data.toList[k]? = some b ∧ (s ++ (⟨#[0]⟩ : ByteArray)).data.toList[k]? = some b := fun k hk => by
  have hk2 : k < s.data.toList.length := by omega
  refine ⟨s.data.toList[k], List.getElem_mem hk2, List.getElem?_eq_getElem hk2, ?_⟩; rw [nul_list, List.getElem?_append_left hk2, List.getElem?_eq_getElem hk2]
 have hlow : ∀ k, k < s.size → bt (s ++ ⟨#[0]⟩) k = bt s k := fun k hk => by
  obtain ⟨b, _, h1, h2⟩ := hat k hk; rw [bt_get h1, bt_get h2]
 have hend : bt (s ++ ⟨#[0]⟩) s.size = 0 := by
  have : (s ++ (⟨#[0]⟩ : ByteArray)).data.toList[s.size]? = some 0 := by
   rw [nul_list, List.getElem?_append_right (by omega), show s.size - s.data.toList.length = 0 from by omega]; rfl
  rw [bt_get this]; rfl
 have hne : ∀ k, k < s.size → bt (s ++ ⟨#[0]⟩) k ≠ 0 := fun k hk => by
  obtain ⟨b, hb, _, h2⟩ := hat k hk; rw [bt_get h2]; intro e; apply hnz b hb; have : b.toNat = 0 := by omega
  exact UInt8.toNat_inj.1 (by rw [this]; rfl)
 have ht := readT_text (f := byteS S) (a := slotA i) (g := bt (s ++ ⟨#[0]⟩)) s.size (fun k hk => byte_sealed hi h (by omega)) hne hend hs 41 0 (by omega) (by omega); have hb : (List.range s.size).map (bt (s ++ ⟨#[0]⟩)) = (List.range s.size).map (bt s) := List.map_congr_left fun k hk => hlow k (List.mem_range.1 hk); rw [hb, back_text] at ht; unfold valueF textF; rw [if_pos rfl]
 have ht2 : readT (byteS S) (slotA i) 41 [] = (0, s) := ht; rw [ht2]
end Go.Proofs.YtmgngapkgcofnabGreatDoor
namespace Go.Proofs.YtmgngapkgcofnabGreatDoor
open Go.RowKit Go.PlainAid
theorem ptrK_skip (nr : Int) : ∀ (k a j : Nat), a ≤ j → j < ptrK nr a k → ¬ isP nr j
 | 0, a, j, h1, h2 => by unfold ptrK at h2; omega
 | k + 1, a, j, h1, h2 => by
  by_cases h : isP nr a
  ·have : ptrK nr a (k + 1) = a := by unfold ptrK; rw [if_neg (by unfold isP at h; omega)]
   omega
  ·have e1 : ptrK nr a (k + 1) = ptrK nr (a + 1) k := by rw [ptrK, if_pos (by unfold isP at h; omega)]
   rw [e1] at h2
   by_cases e : j = a
   ·rw [e]; exact h
   ·exact ptrK_skip nr k (a + 1) j (by omega) h2
theorem ptrN_skip (nr : Int) {a j : Nat} (h1 : a ≤ j) (h2 : j < ptrN nr a) : ¬ isP nr j := ptrK_skip nr _ a j h1 h2
structure ValOk (kind : Int) (x : ValD) : Prop where
 path : kind = 2 → x.ip = 0 ∧ x.port = 0 ∧ x.path.size ≤ 40 ∧ ∀ b ∈ x.path.data.toList, b ≠ 0
 addr : kind = 3 → x.path = ⟨#[]⟩ ∧ (0 ≤ x.ip ∧ x.ip < 4294967296) ∧ 0 ≤ x.port ∧ x.port ≤ 65535
def SealedT (M : MemS) (T : ThrS) : Prop := ∀ a, a < 4 →
 (isP T.now.nr a → ∃ i, i < 4 ∧ T.now.arg a = ((slotA i : Nat) : Int) ∧ slotA i ∈ T.seals ∧ M.sl i = some (bt (sealText (kindN T.now.nr a) (T.vals.at_ a))) ∧ ValOk (kindN T.now.nr a) (T.vals.at_ a)) ∧ (¬ isP T.now.nr a → T.vals.at_ a = zeroVal)
theorem value_at {M : MemS} {T : ThrS} (h : SealedT M T) {a : Nat} (ha : a < 4) (hp : isP T.now.nr a) : valueF M (kindN T.now.nr a) (T.now.arg a).toNat = (0, T.vals.at_ a) := by
 obtain ⟨i, hi, h1, _, h2, h3⟩ := (h a ha).1 hp; rw [h1, Int.toNat_natCast]; generalize T.vals.at_ a = x at *
 rcases hp with hk | hk
 ·rw [hk] at h2 h3 ⊢; obtain ⟨k1, k2, k3, k4⟩ := h3.path rfl; have e : sealText 2 x = x.path ++ ⟨#[0]⟩ := by unfold sealText; rw [if_neg (by decide)]
  rw [e] at h2; rw [value_path hi k3 k4 h2]; cases x; simp only at k1 k2 ⊢; rw [k1, k2]
 ·rw [hk] at h2 h3 ⊢; obtain ⟨k1, k2, k3, k4⟩ := h3.addr rfl; have e : sealText 3 x = bytesOfL (bytesA x.ip.toNat x.port.toNat) := by unfold sealText; rw [if_pos rfl, if_pos ⟨k3, k4⟩]
  rw [e] at h2; rw [value_addr hi (by omega) (by omega) h2]; cases x; simp only at k1 k2 k3 k4 ⊢; rw [k1, Int.toNat_of_nonneg k2.1, Int.toNat_of_nonneg k3]
theorem at_set (v : ValsD) (i j : Nat) (x : ValD) (hi : i < 4) (hj : j < 4) : (v.set i x).at_ j = if j = i then x else v.at_ j := by
 have h1 : i = 0 ∨ i = 1 ∨ i = 2 ∨ i = 3 := by omega
 have h2 : j = 0 ∨ j = 1 ∨ j = 2 ∨ j = 3 := by omega
 rcases h1 with rfl | rfl | rfl | rfl <;> rcases h2 with rfl | rfl | rfl | rfl <;> rfl
theorem vals_ext {v u : ValsD} (h : ∀ j, j < 4 → v.at_ j = u.at_ j) : v = u := by
 have h0 := h 0 (by omega); have h1 := h 1 (by omega); have h2 := h 2 (by omega); have h3 := h 3 (by omega)
 cases v; cases u
 simp only [ValsD.at_] at h0 h1 h2 h3; simp_all
theorem leads_judged {M : MemS} {T : ThrS} (h : SealedT M T) : ∀ (k a : Nat) (v : ValsD), a ≤ 4 → 4 ≤ a + k → (a < 4 → isP T.now.nr a) → (∀ j, j < 4 → v.at_ j = if j < a then T.vals.at_ j else zeroVal) → leadsK M T.now v a k = (0, T.vals)
 | 0, a, v, h1, h2, _, hv => by
  rw [leadsK]; rw [vals_ext (fun j hj => (hv j hj).trans (if_pos (by omega)))]
 | k + 1, a, v, h1, h2, hp, hv => by
  rw [leadsK]; split
  ·rw [vals_ext (fun j hj => (hv j hj).trans (if_pos (by omega)))]
  ·rename_i h4; rw [value_at h (by omega) (hp (by omega))]; simp only [ne_eq, not_true_eq_false, if_false]; obtain ⟨q1, q2⟩ := cnt_ptr T.now.nr (a + 1) (by omega); obtain ⟨r1, r2, _⟩ := ptrN_le T.now.nr (a + 1) (by omega); refine leads_judged h k _ _ r2 (by omega) q2 (fun j hj => ?_); rw [at_set v a j _ (by omega) hj]
   by_cases e : j = a
   ·rw [if_pos e, if_pos (by omega), e]
   ·rw [if_neg e, hv j hj]
    by_cases hja : j < a
    ·rw [if_pos hja, if_pos (by omega)]
    ·rw [if_neg hja]
     by_cases hjp : j < ptrN T.now.nr (a + 1)
     ·rw [if_pos hjp]; exact ((h j hj).2 (ptrN_skip T.now.nr (by omega) hjp)).symm
     ·rw [if_neg hjp]
theorem exec_judged {M : MemS} {T : ThrS} (h : SealedT M T) : leadsK M T.now zeroVals (ptrN T.now.nr 0) 5 = (0, T.vals) := by
 obtain ⟨q1, q2⟩ := cnt_ptr T.now.nr 0 (by omega); obtain ⟨r1, r2, _⟩ := ptrN_le T.now.nr 0 (by omega); refine leads_judged h 5 _ _ r2 (by omega) q2 (fun j hj => ?_)
 have hz : zeroVals.at_ j = zeroVal := by
  have h2 : j = 0 ∨ j = 1 ∨ j = 2 ∨ j = 3 := by omega
  rcases h2 with rfl | rfl | rfl | rfl <;> rfl
 rw [hz]; split
 ·rename_i hlt; exact ((h j hj).2 (ptrN_skip T.now.nr (by omega) hlt)).symm
 ·rfl
end Go.Proofs.YtmgngapkgcofnabGreatDoor
namespace Go.Proofs.YtmgngapkgcofnabGreatDoor
open Go.RowKit Go.PlainAid
theorem arg_set (c : CallD) (i j : Nat) (x : Int) (hi : i < 4) (hj : j < 4) : (c.setArg i x).arg j = if j = i then x else c.arg j := by
 have h1 : i = 0 ∨ i = 1 ∨ i = 2 ∨ i = 3 := by omega
 have h2 : j = 0 ∨ j = 1 ∨ j = 2 ∨ j = 3 := by omega
 rcases h1 with rfl | rfl | rfl | rfl <;> rcases h2 with rfl | rfl | rfl | rfl <;> rfl
def ReadT (T : ThrS) : Prop := ∀ j, j < 4 → (isP T.now.nr j → ValOk (kindN T.now.nr j) (T.vals.at_ j)) ∧ (¬ isP T.now.nr j → T.vals.at_ j = zeroVal)
def PartT (M : MemS) (T : ThrS) (a : Nat) : Prop := ∀ j, j < 4 → j < a → isP T.now.nr j → ∃ i, i < 4 ∧ T.now.arg j = ((slotA i : Nat) : Int) ∧ slotA i ∈ T.seals ∧ M.sl i = some (bt (sealText (kindN T.now.nr j) (T.vals.at_ j)))
theorem part_seal {M : MemS} {T : ThrS} {a i : Nat} (h : PartT M T a) (ha : a < 4) (hi : i < 4) (hfree : (M.sl i).isSome = false) :
  PartT (M.sealAt i (bt (sealText (kindN T.now.nr a) (T.vals.at_ a)))) { T with seals := T.seals ++ [slotA i], now := T.now.setArg a ((slotA i : Nat) : Int) } (ptrN T.now.nr (a + 1)) := by
 intro j hj hja hp; have hnr : (T.now.setArg a ((slotA i : Nat) : Int)).nr = T.now.nr := setArg_nr _ _ _; simp only at hp ⊢; rw [hnr] at hp ⊢
 by_cases e : j = a
 ·subst e; exact ⟨i, hi, by rw [arg_set _ _ _ _ hj hj, if_pos rfl], by simp, if_pos rfl⟩
 ·by_cases hlt : j < a
  ·obtain ⟨q, h1, h2, h3, h4⟩ := h j hj hlt hp; have hqi : q ≠ i := fun e2 => by rw [e2] at h4; rw [h4] at hfree; simp at hfree
   exact ⟨q, h1, by rw [arg_set _ _ _ _ ha hj, if_neg e]; exact h2, List.mem_append_left _ h3, (if_neg hqi).trans h4⟩
  ·exact absurd hp (ptrN_skip T.now.nr (by omega) hja)
theorem sealed_of_part {M : MemS} {T : ThrS} (h : PartT M T 4) (hr : ReadT T) : SealedT M T := fun a ha =>
 ⟨fun hp => by
  obtain ⟨i, h1, h2, h3, h4⟩ := h a ha ha hp; exact ⟨i, h1, h2, h3, h4, (hr a ha).1 hp⟩, (hr a ha).2⟩
theorem sealed_K {n : Nat} : ∀ (k a : Nat) (S : WardS), a ≤ 4 → 4 ≤ a + k → (a < 4 → isP (S.t n).now.nr a) → PartT S.m (S.t n) a → ReadT (S.t n) →
  (((sealK S n a k).t n).phase = 5 ∧ ((sealK S n a k).t n).asked = (S.t n).asked ∧ ((sealK S n a k).t n).vals = (S.t n).vals ∧ SealedT (sealK S n a k).m ((sealK S n a k).t n) ∧ (sealK S n a k).log = S.log) ∨
  (∃ S0 : WardS, sealK S n a k = endsS S0 n 2 12 zeroVals ∧ S0.log = S.log)
 | 0, a, S, h1, h2, _, hpt, hr => by
  left; rw [sealK]; have e : (setPh S n 5).t n = { S.t n with phase := 5 } := if_pos rfl; rw [e]; obtain rfl : a = 4 := by omega
  exact ⟨rfl, rfl, rfl, sealed_of_part hpt hr, rfl⟩
 | k + 1, a, S, h1, h2, hip, hpt, hr => by
  rw [sealK]; split
  ·left; have e : (setPh S n 5).t n = { S.t n with phase := 5 } := if_pos rfl; rw [e]; obtain rfl : a = 4 := by omega
   exact ⟨rfl, rfl, rfl, sealed_of_part hpt hr, rfl⟩
  ·rename_i h4; rcases sealX_cases S.m (sealText (kindN (S.t n).now.nr a) ((S.t n).vals.at_ a)) with ⟨hx, hs⟩ | ⟨i, hi, hx, hs, hfree, _⟩
   ·right; split; rename_i x f hxf; rw [hxf] at hx; rw [if_pos hx, hs]; exact ⟨_, rfl, rfl⟩
   ·rw [hx, hs]; simp only; rw [if_neg (by simp), Int.toNat_natCast]; have e : ((S.setM (S.m.sealAt i (bt (sealText (kindN (S.t n).now.nr a) ((S.t n).vals.at_ a))))).setT n { S.t n with seals := (S.t n).seals ++ [slotA i], now := (S.t n).now.setArg a ((slotA i : Nat) : Int) }).t n = { S.t n with seals := (S.t n).seals ++ [slotA i], now := (S.t n).now.setArg a ((slotA i : Nat) : Int) } := if_pos rfl
    have hnr : ((S.t n).now.setArg a ((slotA i : Nat) : Int)).nr = (S.t n).now.nr := setArg_nr _ _ _; obtain ⟨q1, q2⟩ := cnt_ptr (S.t n).now.nr (a + 1) (by omega); obtain ⟨r1, r2, _⟩ := ptrN_le (S.t n).now.nr (a + 1) (by omega)
    have ih := sealed_K (n := n) k (ptrN (S.t n).now.nr (a + 1)) ((S.setM (S.m.sealAt i (bt (sealText (kindN (S.t n).now.nr a) ((S.t n).vals.at_ a))))).setT n { S.t n with seals := (S.t n).seals ++ [slotA i], now := (S.t n).now.setArg a ((slotA i : Nat) : Int) }) r2 (by omega)
     (by rw [e]; show _ → isP ((S.t n).now.setArg a ((slotA i : Nat) : Int)).nr _; rw [hnr]; exact q2)
     (by rw [e]; exact part_seal hpt (by omega) hi hfree)
     (by
      rw [e]; intro j hj; have := hr j hj; show (isP ((S.t n).now.setArg a ((slotA i : Nat) : Int)).nr j → ValOk (kindN ((S.t n).now.setArg a ((slotA i : Nat) : Int)).nr j) ((S.t n).vals.at_ j)) ∧ (¬ isP ((S.t n).now.setArg a ((slotA i : Nat) : Int)).nr j → (S.t n).vals.at_ j = zeroVal)
      rw [hnr]; exact this)
    rw [e] at ih; exact ih
end Go.Proofs.YtmgngapkgcofnabGreatDoor
namespace Go.Proofs.YtmgngapkgcofnabGreatDoor
open Go.RowKit Go.PlainAid
structure SafeT (p : PolD) (M : MemS) (T : ThrS) : Prop where
 v1 : T.phase = 1 → T.vals = zeroVals
 v2 : T.phase = 2 → (∀ j, j < 4 → (isP T.now.nr j → j < T.arg → ValOk (kindN T.now.nr j) (T.vals.at_ j)) ∧ (¬ (isP T.now.nr j ∧ j < T.arg) → T.vals.at_ j = zeroVal)) ∧ (kindN T.now.nr T.arg = 2 → ∀ b ∈ T.buf, 1 ≤ b ∧ b ≤ 255)
 v3 : T.phase = 3 ∨ T.phase = 4 → ReadT T
 v4 : T.phase = 4 → (decideF p T.asked T.vals).1 = 1
 v5 : T.phase = 5 → (∀ v, (decideF p T.asked v).1 = 1) ∨ ((decideF p T.asked T.vals).1 = 1 ∧ SealedT M T)
structure SafeA (p : PolD) (S : WardS) : Prop where
 thr : ∀ n, SafeT p S.m (S.t n)
 live : ∀ n a, a ∈ (S.t n).seals → ∃ i, i < 4 ∧ a = slotA i ∧ S.m.sl i ≠ none
 disj : ∀ n k a, n ≠ k → a ∈ (S.t n).seals → a ∉ (S.t k).seals
 log : ∀ e ∈ S.log, e.kind = 1 → (decideF p e.call e.vals).1 = 1
theorem safeT_mono {p : PolD} {M M' : MemS} {T : ThrS} (h : SafeT p M T) (hm : ∀ i, i < 4 → slotA i ∈ T.seals → M'.sl i = M.sl i) : SafeT p M' T := by
 refine ⟨h.v1, h.v2, h.v3, h.v4, fun e => ?_⟩; rcases h.v5 e with h5 | ⟨h5, h6⟩
 ·exact .inl h5
 ·refine .inr ⟨h5, fun a ha => ⟨fun hp => ?_, (h6 a ha).2⟩⟩; obtain ⟨i, k1, k2, k3, k4, k5⟩ := (h6 a ha).1 hp; exact ⟨i, k1, k2, k3, (hm i k1 k3).trans k4, k5⟩
theorem safeT_rest (p : PolD) (M : MemS) {T : ThrS} (h : T.phase = 0 ∨ T.phase = 6) : SafeT p M T :=
 ⟨fun e => by omega, fun e => by omega, fun e => by omega, fun e => by omega, fun e => by omega⟩
theorem safeA_new (p : PolD) : SafeA p WardS.new :=
 ⟨fun _ => safeT_rest p _ (.inl rfl), fun _ _ h => by simp [WardS.new, ThrS.zero] at h, fun _ _ _ _ h => by simp [WardS.new, ThrS.zero] at h, fun _ h => by simp [WardS.new] at h⟩
theorem safeA_ends {p : PolD} {S : WardS} (h : SafeA p S) (n : Nat) (kind errno : Int) (v : ValsD) (hk : kind = 1 → (decideF p (S.t n).asked v).1 = 1) : SafeA p (endsS S n kind errno v) := by
 have et : ∀ k, (endsS S n kind errno v).t k = if k = n then (if kind = 3 then ThrS.dead else ThrS.zero) else S.t k := fun _ => rfl
 have en : ((endsS S n kind errno v).t n).seals = [] := by rw [et, if_pos rfl]; split <;> rfl
 have em : ∀ i, i < 4 → (endsS S n kind errno v).m.sl i = if slotA i ∈ (S.t n).seals then none else S.m.sl i := fun i hi => freesS_sl _ _ i hi
 refine ⟨fun k => ?_, fun k a ha => ?_, fun k j a hkj ha => ?_, fun e he h1 => ?_⟩
 ·by_cases e : k = n
  ·rw [e]; refine safeT_rest p _ ?_; rw [et, if_pos rfl]; split
   ·exact .inr rfl
   ·exact .inl rfl
  ·rw [et, if_neg e]; exact safeT_mono (h.thr k) fun i hi hm => (em i hi).trans (if_neg (h.disj k n _ e hm))
 ·by_cases e : k = n
  ·rw [e, en] at ha; cases ha
  ·rw [et, if_neg e] at ha; obtain ⟨i, h1, h2, h3⟩ := h.live k a ha; refine ⟨i, h1, h2, ?_⟩; rw [em i h1, if_neg (by rw [← h2]; exact h.disj k n a e ha)]; exact h3
 ·by_cases e : k = n
  ·rw [e, en] at ha; cases ha
  ·rw [et, if_neg e] at ha
   by_cases e2 : j = n
   ·rw [e2, en]; simp
   ·rw [et, if_neg e2]; exact h.disj k j a hkj ha
 ·have el : (endsS S n kind errno v).log = S.log ++ [⟨kind, n, (S.t n).asked, v, errno⟩] := rfl; rw [el] at he; rcases List.mem_append.1 he with he | he
  ·exact h.log e he h1
  ·rw [List.mem_singleton] at he; subst he; exact hk h1
theorem safeA_setT {p : PolD} {S : WardS} (h : SafeA p S) {n : Nat} {T : ThrS} (hs : T.seals = (S.t n).seals) (hT : SafeT p S.m T) : SafeA p (S.setT n T) := by
 have et : ∀ k, (S.setT n T).t k = if k = n then T else S.t k := fun _ => rfl
 have es : ∀ k, ((S.setT n T).t k).seals = (S.t k).seals := fun k => by
  rw [et]; split
  ·rename_i e; rw [e]; exact hs
  ·rfl
 refine ⟨fun k => ?_, fun k a ha => ?_, fun k j a hkj ha => ?_, h.log⟩
 ·rw [et]; split
  ·exact hT
  ·exact h.thr k
 ·rw [es] at ha; exact h.live k a ha
 ·rw [es] at ha ⊢; exact h.disj k j a hkj ha
theorem safeA_setM {p : PolD} {S : WardS} (h : SafeA p S) {M : MemS} (hm : M.sl = S.m.sl) : SafeA p (S.setM M) :=
 ⟨fun k => safeT_mono (h.thr k) fun i _ _ => by show M.sl i = _; rw [hm], fun k a ha => by
  obtain ⟨i, h1, h2, h3⟩ := h.live k a ha; exact ⟨i, h1, h2, by show M.sl i ≠ none; rw [hm]; exact h3⟩, h.disj, h.log⟩
theorem safeA_does {p : PolD} {S : WardS} (h : SafeA p S) (n : Nat) (a : Int × Int) : SafeA p (doesS S n a) := by
 unfold doesS; split
 ·exact h
 ·split
  ·exact safeA_ends h n _ _ _ (fun e => by omega)
  ·exact safeA_ends h n _ _ _ (fun e => by omega)
theorem safeA_exec {p : PolD} {S : WardS} (h : SafeA p S) (n : Nat) (h5 : (S.t n).phase = 5) : SafeA p (execS S n) := by
 unfold execS; split
 ·exact safeA_ends h n _ _ _ (fun e => by omega)
 ·split; rename_i f v hl; split
  ·exact safeA_ends h n _ _ _ (fun e => by omega)
  ·refine safeA_ends h n _ _ _ (fun _ => ?_); rcases (h.thr n).v5 h5 with k | ⟨k1, k2⟩
   ·exact k v
   ·rw [exec_judged k2] at hl; simp only [Prod.mk.injEq] at hl; rw [← hl.2]; exact k1
theorem safeA_filter {p : PolD} (hf : polF p = 0) {S : WardS} (h : SafeA p S) (n : Nat) (hg : GoodT (S.t n)) (h1 : (S.t n).phase = 1) : SafeA p (filterS p S n) := by
 have hv := (h.thr n).v1 h1; obtain ⟨_, hna⟩ := hg.sea (by omega); unfold filterS; split
 ·rename_i h4; obtain ⟨q1, q2, _⟩ := trace_ptr hf h4; refine safeA_setT h rfl ⟨fun e => by simp at e, fun _ => ⟨fun j hj => ⟨fun hp hlt => absurd hp (ptrN_skip _ (Nat.zero_le _) hlt), fun _ => ?_⟩, fun _ b hb => ?_⟩, fun e => by simp at e, fun e => by simp at e, fun e => by simp at e⟩
  ·show (S.t n).vals.at_ j = zeroVal; rw [hv]; have h2 : j = 0 ∨ j = 1 ∨ j = 2 ∨ j = 3 := by omega
   rcases h2 with rfl | rfl | rfl | rfl <;> rfl
  ·have : b ∈ (S.t n).buf := hb; rw [hg.at1 h1] at this; cases this
 ·split
  ·rename_i h4 h5; refine safeA_setT h rfl ⟨fun e => by simp at e, fun e => by simp at e, fun e => by simp at e, fun e => by simp at e, fun _ => .inl fun v => ?_⟩; show (decideF p (S.t n).asked v).1 = 1; rw [← hna]; rw [(judge_tells hf (S.t n).now v (by omega)).1]; exact h5
  ·exact safeA_does h _ _
theorem safeA_judge {p : PolD} {S : WardS} (h : SafeA p S) (n : Nat) (h3 : (S.t n).phase = 3) : SafeA p (judgeS p S n) := by
 have hr := (h.thr n).v3 (.inl h3); unfold judgeS; split
 ·rename_i hd; exact safeA_setT h rfl ⟨fun e => by simp at e, fun e => by simp at e, fun _ => hr, fun _ => hd, fun e => by simp at e⟩
 ·exact safeA_does h _ _
end Go.Proofs.YtmgngapkgcofnabGreatDoor
namespace Go.Proofs.YtmgngapkgcofnabGreatDoor
open Go.RowKit Go.PlainAid
theorem slotA_inj {i j : Nat} (h : slotA i = slotA j) : i = j := by unfold slotA at h; omega
theorem safeA_sealPut {p : PolD} {S : WardS} (h : SafeA p S) {n i : Nat} (h4 : (S.t n).phase = 4) (hi : i < 4) (hfree : (S.m.sl i).isSome = false) (f : Nat → Int) (a : Nat) :
  SafeA p ((S.setM (S.m.sealAt i f)).setT n { S.t n with seals := (S.t n).seals ++ [slotA i], now := (S.t n).now.setArg a ((slotA i : Nat) : Int) }) := by
 have et : ∀ k, ((S.setM (S.m.sealAt i f)).setT n { S.t n with seals := (S.t n).seals ++ [slotA i], now := (S.t n).now.setArg a ((slotA i : Nat) : Int) }).t k = if k = n then { S.t n with seals := (S.t n).seals ++ [slotA i], now := (S.t n).now.setArg a ((slotA i : Nat) : Int) } else S.t k := fun _ => rfl
 have em : ∀ j, ((S.setM (S.m.sealAt i f)).setT n { S.t n with seals := (S.t n).seals ++ [slotA i], now := (S.t n).now.setArg a ((slotA i : Nat) : Int) }).m.sl j = if j = i then some f else S.m.sl j := fun _ => rfl
 have hnr : ((S.t n).now.setArg a ((slotA i : Nat) : Int)).nr = (S.t n).now.nr := setArg_nr _ _ _
 have hno : ∀ k, slotA i ∉ (S.t k).seals := fun k hm => by
  obtain ⟨j, h1, h2, h3⟩ := h.live k _ hm; rw [← slotA_inj h2] at h3
  cases hs : S.m.sl i with
  | none => exact h3 hs
  | some x => rw [hs] at hfree; simp at hfree
 refine ⟨fun k => ?_, fun k b hb => ?_, fun k j b hkj hb => ?_, h.log⟩
 ·rw [et]; split
  ·refine ⟨fun e => ?_, fun e => ?_, fun _ => ?_, fun _ => (h.thr n).v4 h4, fun e => ?_⟩
   ·simp only at e; omega
   ·simp only at e; omega
   ·intro j hj; have := (h.thr n).v3 (.inr h4) j hj; show (isP ((S.t n).now.setArg a ((slotA i : Nat) : Int)).nr j → ValOk (kindN ((S.t n).now.setArg a ((slotA i : Nat) : Int)).nr j) ((S.t n).vals.at_ j)) ∧ (¬ isP ((S.t n).now.setArg a ((slotA i : Nat) : Int)).nr j → (S.t n).vals.at_ j = zeroVal)
    rw [hnr]; exact this
   ·simp only at e; omega
  ·exact safeT_mono (h.thr k) fun j hj hm => (em j).trans (if_neg fun e => hno k (by rw [← e]; exact hm))
 ·have hold : ∀ b, (∃ j, j < 4 ∧ b = slotA j ∧ S.m.sl j ≠ none) → ∃ j, j < 4 ∧ b = slotA j ∧ ((S.setM (S.m.sealAt i f)).setT n { S.t n with seals := (S.t n).seals ++ [slotA i], now := (S.t n).now.setArg a ((slotA i : Nat) : Int) }).m.sl j ≠ none := fun b hb2 => by
   obtain ⟨j, h1, h2, h3⟩ := hb2; refine ⟨j, h1, h2, ?_⟩; rw [em]; split
   ·simp
   ·exact h3
  rw [et] at hb; split at hb
  ·rcases List.mem_append.1 hb with hb | hb
   ·exact hold b (h.live n b hb)
   ·rw [List.mem_singleton] at hb; exact ⟨i, hi, hb, by rw [em, if_pos rfl]; simp⟩
  ·exact hold b (h.live k b hb)
 ·rw [et] at hb ⊢
  by_cases e : k = n
  ·rw [if_pos e] at hb; have hjn : j ≠ n := fun e2 => hkj (e.trans e2.symm); rw [if_neg hjn]; rcases List.mem_append.1 hb with hb | hb
   ·exact h.disj n j b (fun e2 => hjn e2.symm) hb
   ·rw [List.mem_singleton] at hb; rw [hb]; exact hno j
  ·rw [if_neg e] at hb
   by_cases e2 : j = n
   ·rw [if_pos e2]; intro hm; rcases List.mem_append.1 hm with hm | hm
    ·exact h.disj k n b e hb hm
    ·rw [List.mem_singleton] at hm; rw [hm] at hb; exact hno k hb
   ·rw [if_neg e2]; exact h.disj k j b hkj hb
theorem safeA_ph5 {p : PolD} {S : WardS} (h : SafeA p S) {n : Nat} (h4 : (S.t n).phase = 4) (hs : SealedT S.m (S.t n)) : SafeA p (setPh S n 5) :=
 safeA_setT h rfl ⟨fun e => by simp at e, fun e => by simp at e, fun e => by simp at e, fun e => by simp at e, fun _ => .inr ⟨(h.thr n).v4 h4, hs⟩⟩
theorem safeA_sealK {p : PolD} {n : Nat} : ∀ (k a : Nat) (S : WardS), SafeA p S → (S.t n).phase = 4 → a ≤ 4 → 4 ≤ a + k → (a < 4 → isP (S.t n).now.nr a) → PartT S.m (S.t n) a → SafeA p (sealK S n a k)
 | 0, a, S, h, h4, h1, h2, _, hpt => by
  rw [sealK]; obtain rfl : a = 4 := by omega
  exact safeA_ph5 h h4 (sealed_of_part hpt ((h.thr n).v3 (.inr h4)))
 | k + 1, a, S, h, h4, h1, h2, hip, hpt => by
  rw [sealK]; split
  ·obtain rfl : a = 4 := by omega
   exact safeA_ph5 h h4 (sealed_of_part hpt ((h.thr n).v3 (.inr h4)))
  ·rename_i hlt; rcases sealX_cases S.m (sealText (kindN (S.t n).now.nr a) ((S.t n).vals.at_ a)) with ⟨hx, hs⟩ | ⟨i, hi, hx, hs, hfree, _⟩
   ·split; rename_i x f hxf; rw [hxf] at hx; rw [if_pos hx, hs]; exact safeA_ends (safeA_setM h rfl) n _ _ _ (fun e => by omega)
   ·rw [hx, hs]; simp only; rw [if_neg (by simp), Int.toNat_natCast]; have e : ((S.setM (S.m.sealAt i (bt (sealText (kindN (S.t n).now.nr a) ((S.t n).vals.at_ a))))).setT n { S.t n with seals := (S.t n).seals ++ [slotA i], now := (S.t n).now.setArg a ((slotA i : Nat) : Int) }).t n = { S.t n with seals := (S.t n).seals ++ [slotA i], now := (S.t n).now.setArg a ((slotA i : Nat) : Int) } := if_pos rfl
    have hnr : ((S.t n).now.setArg a ((slotA i : Nat) : Int)).nr = (S.t n).now.nr := setArg_nr _ _ _; obtain ⟨q1, q2⟩ := cnt_ptr (S.t n).now.nr (a + 1) (by omega); obtain ⟨r1, r2, _⟩ := ptrN_le (S.t n).now.nr (a + 1) (by omega)
    exact safeA_sealK (n := n) k (ptrN (S.t n).now.nr (a + 1)) _ (safeA_sealPut h h4 hi hfree _ a) (by rw [e]; exact h4) r2 (by omega)
     (by rw [e]; show _ → isP ((S.t n).now.setArg a ((slotA i : Nat) : Int)).nr _; rw [hnr]; exact q2)
     (by rw [e]; exact part_seal hpt (by omega) hi hfree)
theorem safeA_seal {p : PolD} {S : WardS} (h : SafeA p S) (n : Nat) (h4 : (S.t n).phase = 4) : SafeA p (sealStep S n) := by
 obtain ⟨q1, q2⟩ := cnt_ptr (S.t n).now.nr 0 (by omega); obtain ⟨r1, r2, _⟩ := ptrN_le (S.t n).now.nr 0 (by omega); exact safeA_sealK 5 _ S h h4 r2 (by omega) q2 (fun j hj hlt hp => absurd hp (ptrN_skip _ (Nat.zero_le _) hlt))
end Go.Proofs.YtmgngapkgcofnabGreatDoor
namespace Go.Proofs.YtmgngapkgcofnabGreatDoor
open Go.RowKit Go.PlainAid
theorem safeT_further {p : PolD} {M : MemS} {T : ThrS} (h : SafeT p M T) (hg : GoodT T) (h2 : T.phase = 2) {x : ValD} (hx : ValOk (kindN T.now.nr T.arg) x) : SafeT p M (furtherT { T with vals := T.vals.set T.arg x }) := by
 obtain ⟨b1, b2, _⟩ := hg.at2 h2; obtain ⟨k1, _⟩ := h.v2 h2; obtain ⟨r1, r2, _⟩ := ptrN_le T.now.nr (T.arg + 1) (by omega)
 have hf : furtherT { T with vals := T.vals.set T.arg x } = { T with vals := T.vals.set T.arg x, buf := [], arg := ptrN T.now.nr (T.arg + 1), phase := if ptrN T.now.nr (T.arg + 1) = 4 then 3 else 2 } := by
  unfold furtherT; simp only [h2]
 have hval : ∀ j, j < 4 → (isP T.now.nr j → j < ptrN T.now.nr (T.arg + 1) → ValOk (kindN T.now.nr j) ((T.vals.set T.arg x).at_ j)) ∧ (¬ (isP T.now.nr j ∧ j < ptrN T.now.nr (T.arg + 1)) → (T.vals.set T.arg x).at_ j = zeroVal) := fun j hj => by
  rw [at_set _ _ _ _ b1 hj]; refine ⟨fun hp hlt => ?_, fun hn => ?_⟩
  ·by_cases e : j = T.arg
   ·rw [if_pos e, e]; exact hx
   ·rw [if_neg e]
    by_cases hja : j < T.arg
    ·exact (k1 j hj).1 hp hja
    ·exact absurd hp (ptrN_skip _ (by omega) hlt)
  ·by_cases e : j = T.arg
   ·exact absurd ⟨by rw [e]; exact b2, by omega⟩ hn
   ·rw [if_neg e]; exact (k1 j hj).2 fun hh => hn ⟨hh.1, by omega⟩
 rw [hf]
 by_cases h4 : ptrN T.now.nr (T.arg + 1) = 4
 ·rw [if_pos h4]; refine ⟨fun e => by simp at e, fun e => by simp at e, fun _ j hj => ?_, fun e => by simp at e, fun e => by simp at e⟩; have := hval j hj; rw [h4] at this; exact ⟨fun hp => this.1 hp hj, fun hp => this.2 fun hh => hp hh.1⟩
 ·rw [if_neg h4]; exact ⟨fun e => by simp at e, fun _ => ⟨hval, fun _ b hb => by cases hb⟩, fun e => by simp at e, fun e => by simp at e, fun e => by simp at e⟩
theorem valOk_path {buf : List Int} (hl : buf.length ≤ 40) (hb : ∀ b ∈ buf, 1 ≤ b ∧ b ≤ 255) : ValOk 2 ⟨strOfNums buf, 0, 0⟩ := by
 refine ⟨fun _ => ⟨rfl, rfl, ?_, fun b hm => ?_⟩, fun e => by omega⟩
 ·show (strOfNums buf).size ≤ 40; rw [strOfNums_size]; exact hl
 ·have hm2 : b ∈ (strOfNums buf).data.toList := hm; rw [strOfNums_data] at hm2; obtain ⟨y, hy, rfl⟩ := List.mem_map.1 hm2; have := hb y hy; intro e; have h3 : (UInt8.ofNat y.toNat).toNat = 0 := by rw [e]; rfl
  rw [ofNat_n (by omega)] at h3; omega
theorem valOk_addr {s : ByteArray} {ip port : Nat} (h : readA s = some (ip, port)) : ValOk 3 ⟨⟨#[]⟩, (ip : Int), (port : Int)⟩ := by
 unfold readA at h; split at h
 ·simp only [Option.some.injEq, Prod.mk.injEq] at h; obtain ⟨rfl, rfl⟩ := h; have h1 := ipOf_lt s; have h2 := portOf_lt s; exact ⟨fun e => by omega, fun _ => ⟨rfl, ⟨by simp, by show ((ipOf s : Nat) : Int) < _; omega⟩, by simp, by show ((portOf s : Nat) : Int) ≤ _; omega⟩⟩
 ·cases h
theorem safeA_snap {p : PolD} {S : WardS} (h : SafeA p S) (hok : S.m.ok) (n : Nat) (hg : GoodT (S.t n)) (h2 : (S.t n).phase = 2) : SafeA p (snapS S n) := by
 obtain ⟨b1, b2, b3⟩ := hg.at2 h2; obtain ⟨k1, k2⟩ := (h.thr n).v2 h2; have hz : (S.t n).vals.at_ (S.t n).arg = zeroVal := (k1 _ b1).2 fun hh => by omega
 have hmore : ∀ b, (kindN (S.t n).now.nr (S.t n).arg = 2 → 1 ≤ b ∧ b ≤ 255) → SafeT p S.m { S.t n with buf := (S.t n).buf ++ [b] } := fun b hb =>
  ⟨fun e => by have : (S.t n).phase = 1 := e; omega, fun _ => ⟨k1, fun hk c hc => by
   rcases List.mem_append.1 hc with hc | hc
   ·exact k2 hk c hc
   ·rw [List.mem_singleton] at hc; rw [hc]; exact hb hk⟩, fun e => by have : (S.t n).phase = 3 ∨ (S.t n).phase = 4 := e; omega, fun e => by have : (S.t n).phase = 4 := e; omega, fun e => by have : (S.t n).phase = 5 := e; omega⟩
 unfold snapS; split
 ·exact safeA_ends h n _ _ _ (fun e => by omega)
 ·rename_i b hb; have hby := byteS_byte hok hb; split
  ·rename_i hk; split
   ·rw [hz]; have hv := valOk_path b3 (k2 hk); rw [← hk] at hv; exact safeA_setT h rfl (safeT_further (h.thr n) hg h2 hv)
   ·split
    ·exact safeA_ends h n _ _ _ (fun e => by omega)
    ·rename_i hb0 _; exact safeA_setT h rfl (hmore b fun _ => by omega)
  ·rename_i hk; split
   ·exact safeA_setT h rfl (hmore b fun e => absurd e hk)
   ·split
    ·exact safeA_ends (safeA_setT (n := n) (T := { S.t n with buf := (S.t n).buf ++ [b] }) h rfl (hmore b fun e => absurd e hk)) n _ _ _ (fun e => by omega)
    ·rename_i ip port hr; rw [hz]; have hk3 : kindN (S.t n).now.nr (S.t n).arg = 3 := b2.resolve_left hk; have hv := valOk_addr hr; rw [← hk3] at hv; exact safeA_setT h rfl (safeT_further (h.thr n) hg h2 hv)
theorem safeA_step {p : PolD} (hf : polF p = 0) {S : WardS} (h : SafeA p S) (hok : S.m.ok) (n : Nat) (hg : GoodT (S.t n)) : SafeA p (stepT p S n) := by
 unfold stepT; split
 ·exact safeA_filter hf h n hg (by assumption)
 ·split
  ·exact safeA_snap h hok n hg (by assumption)
  ·split
   ·exact safeA_judge h n (by assumption)
   ·split
    ·exact safeA_seal h n (by assumption)
    ·split
     ·exact safeA_exec h n (by assumption)
     ·exact h
theorem safeA_enter {p : PolD} {S : WardS} (h : SafeA p S) (hG : ∀ k, GoodT (S.t k)) (n : Int) (c : CallD) : SafeA p (enterS S n c) := by
 unfold enterS; split
 ·rename_i he
  have h0 : (S.t n.toNat).phase = 0 := by
   unfold enterE at he; split at he
   ·omega
   ·split at he
    ·assumption
    ·split at he <;> omega
  refine safeA_setT h ?_ ⟨fun _ => rfl, fun e => by simp at e, fun e => by simp at e, fun e => by simp at e, fun e => by simp at e⟩; exact ((hG _).sea (by omega)).1.symm
 ·exact h
end Go.Proofs.YtmgngapkgcofnabGreatDoor
namespace Go.Proofs.YtmgngapkgcofnabGreatDoor
open Go.RowKit Go.PlainAid
theorem mapS_okS {M : MemS} (h : M.ok) (n : Int) (wr : Bool) : (mapS M n wr).ok := by
 unfold mapS; split
 ·exact h
 ·exact map_ok h _ _
theorem unmapS_okS {M : MemS} (h : M.ok) (n : Int) : (unmapS M n).ok := by
 unfold unmapS; split
 ·exact unmap_ok h _
 ·exact h
theorem putN_okS {M : MemS} (h : M.ok) (a : Nat) {f : Nat → Int} (hf : ∀ k, 0 ≤ f k ∧ f k ≤ 255) : ∀ k, (putN M a f k).ok
 | 0 => h
 | k + 1 => by rw [putN]; exact poke_ok (putN_okS h a hf k) _ (hf k).1 (hf k).2
theorem putS_okS {M : MemS} (h : M.ok) (a : Nat) (s : ByteArray) : (putS M a s).ok := by
 unfold putS; split
 ·exact putN_okS h a (bt_range s) _
 ·exact h
theorem freesS_ok : ∀ (l : List Nat) {M : MemS}, M.ok → (freesS M l).ok
 | [], _, h => h
 | a :: r, M, h => by
  rw [freesS]; refine freesS_ok r ?_; unfold freeS; split
  ·exact free_ok h _
  ·exact h
theorem ends_ok {S : WardS} (h : S.m.ok) (n : Nat) (kind errno : Int) (v : ValsD) : (endsS S n kind errno v).m.ok := freesS_ok _ h
theorem does_ok {S : WardS} (h : S.m.ok) (n : Nat) (a : Int × Int) : (doesS S n a).m.ok := by
 unfold doesS; split
 ·exact h
 ·split <;> exact ends_ok h _ _ _ _
theorem sealK_ok {n : Nat} : ∀ (k a : Nat) (S : WardS), S.m.ok → (sealK S n a k).m.ok
 | 0, a, S, h => h
 | k + 1, a, S, h => by
  rw [sealK]; split
  ·exact h
  ·rcases sealX_cases S.m (sealText (kindN (S.t n).now.nr a) ((S.t n).vals.at_ a)) with ⟨hx, hs⟩ | ⟨i, hi, hx, hs, _, _⟩
   ·split; rename_i x f hxf; rw [hxf] at hx; rw [if_pos hx, hs]; exact ends_ok h _ _ _ _
   ·rw [hx, hs]; simp only; rw [if_neg (by simp)]; exact sealK_ok k _ _ (sealAt_ok h i (bt_range _))
theorem step_ok {p : PolD} {S : WardS} (h : S.m.ok) (n : Nat) : (stepT p S n).m.ok := by
 unfold stepT; split
 ·unfold filterS; split
  ·exact h
  ·split
   ·exact h
   ·exact does_ok h _ _
 ·split
  ·unfold snapS; split
   ·exact ends_ok h _ _ _ _
   ·split
    ·split
     ·exact h
     ·split
      ·exact ends_ok h _ _ _ _
      ·exact h
    ·split
     ·exact h
     ·split
      ·refine ends_ok ?_ _ _ _ _; exact h
      ·exact h
  ·split
   ·unfold judgeS; split
    ·exact h
    ·exact does_ok h _ _
   ·split
    ·exact sealK_ok 5 _ S h
    ·split
     ·unfold execS; split
      ·exact ends_ok h _ _ _ _
      ·split; split
       ·exact ends_ok h _ _ _ _
       ·exact ends_ok h _ _ _ _
     ·exact h
theorem safeA_stepI {p : PolD} (hf : polF p = 0) {S : WardS} (h : SafeA p S) (hok : S.m.ok) (hG : ∀ k, GoodT (S.t k)) (n : Int) : SafeA p (stepS p S n) ∧ (stepS p S n).m.ok := by
 unfold stepS; split
 ·exact ⟨h, hok⟩
 ·exact ⟨safeA_step hf h hok _ (hG _), step_ok hok _⟩
theorem safeA_steps {p : PolD} (hf : polF p = 0) {S : WardS} {L : Nat} (h : SafeA p S) (hok : S.m.ok) (hG : GoodS S L) (n : Int) : ∀ k, SafeA p (stepsS p S n k) ∧ (stepsS p S n k).m.ok
 | 0 => ⟨h, hok⟩
 | k + 1 => by
  obtain ⟨h1, h2⟩ := safeA_steps hf h hok hG n k; exact safeA_stepI hf h1 h2 (good_steps hf hG n k).thr n
theorem enter_m (S : WardS) (n : Int) (c : CallD) : (enterS S n c).m = S.m := by unfold enterS; split <;> rfl
theorem safeA_did {p : PolD} (hf : polF p = 0) {S : WardS} {L : Nat} (h : SafeA p S) (hok : S.m.ok) (hG : GoodS S L) (a : ActD) : SafeA p (didS p S a) ∧ (didS p S a).m.ok := by
 unfold didS; split
 ·exact ⟨safeA_setM h (mapS_sl _ _ _), mapS_okS hok _ _⟩
 ·split
  ·exact ⟨safeA_setM h (unmapS_sl _ _), unmapS_okS hok _⟩
  ·split
   ·exact ⟨safeA_setM h (putS_sl _ _ _), putS_okS hok _ _⟩
   ·split
    ·exact ⟨safeA_enter h hG.thr _ _, by rw [enter_m]; exact hok⟩
    ·split
     ·exact safeA_steps hf h hok hG _ _
     ·exact safeA_stepI hf h hok hG.thr _
end Go.Proofs.YtmgngapkgcofnabGreatDoor
namespace Go.Proofs.YtmgngapkgcofnabGreatDoor
open Go.RowKit Go.PlainAid
theorem readT_size (f : Nat → Option Int) (a : Nat) : ∀ (n : Nat) (l : List Int), l.length ≤ 40 → (readT f a n l).2.size ≤ 40
 | 0, l, _ => by rw [readT]; exact Nat.zero_le _
 | n + 1, l, h => by
  rw [readT]; split
  ·exact Nat.zero_le _
  ·split
   ·show (strOfNums l).size ≤ 40; rw [strOfNums_size]; exact h
   ·split
    ·exact Nat.zero_le _
    ·exact readT_size f a n _ (by simp; omega)
theorem zeroVal_ok2 : zeroVal.ok := ⟨Nat.zero_le _, by decide, by decide⟩
theorem valueF_ok (M : MemS) (kind : Int) (a : Nat) : (valueF M kind a).2.ok := by
 unfold valueF; split
 ·refine ⟨?_, by simp, by simp⟩; have : (textF M a).2.size ≤ 40 := readT_size _ _ _ _ (by simp); show (textF M a).2.size ≤ 100000; omega
 ·split
  ·exact zeroVal_ok2
  ·split
   ·exact zeroVal_ok2
   ·rename_i ip port hr; have hv := (valOk_addr hr).addr rfl; exact ⟨Nat.zero_le _, hv.2.1⟩
theorem leads_ok (M : MemS) (c : CallD) : ∀ (k a : Nat) (v : ValsD), v.ok → (leadsK M c v a k).2.ok
 | 0, a, v, h => h
 | k + 1, a, v, h => by
  rw [leadsK]; split
  ·exact h
  ·split; rename_i f x hx; split
   ·exact h
   ·refine leads_ok M c k _ _ (valsSet_ok h a ?_); have := valueF_ok M (kindN c.nr a) (c.arg a).toNat; rw [hx] at this; exact this
def LogOk (S : WardS) : Prop := ∀ e ∈ S.log, e.kind = 1 → e.vals.ok
theorem logOk_ends {S : WardS} (h : LogOk S) (n : Nat) (kind errno : Int) {v : ValsD} (hv : kind = 1 → v.ok) : LogOk (endsS S n kind errno v) := fun e he h1 => by
 have el : (endsS S n kind errno v).log = S.log ++ [⟨kind, n, (S.t n).asked, v, errno⟩] := rfl; rw [el] at he; rcases List.mem_append.1 he with he | he
 ·exact h e he h1
 ·rw [List.mem_singleton] at he; subst he; exact hv h1
theorem logOk_does {S : WardS} (h : LogOk S) (n : Nat) (a : Int × Int) : LogOk (doesS S n a) := by
 unfold doesS; split
 ·exact h
 ·split <;> exact logOk_ends h _ _ _ (fun e => by omega)
theorem logOk_sealK {n : Nat} : ∀ (k a : Nat) (S : WardS), LogOk S → LogOk (sealK S n a k)
 | 0, a, S, h => h
 | k + 1, a, S, h => by
  rw [sealK]; split
  ·exact h
  ·split; split
   ·refine logOk_ends ?_ _ _ _ (fun e => by omega); exact h
   ·exact logOk_sealK k _ _ h
theorem logOk_step {p : PolD} {S : WardS} (h : LogOk S) (n : Nat) : LogOk (stepT p S n) := by
 unfold stepT; split
 ·unfold filterS; split
  ·exact h
  ·split
   ·exact h
   ·exact logOk_does h _ _
 ·split
  ·unfold snapS; split
   ·exact logOk_ends h _ _ _ (fun e => by omega)
   ·split
    ·split
     ·exact h
     ·split
      ·exact logOk_ends h _ _ _ (fun e => by omega)
      ·exact h
    ·split
     ·exact h
     ·split
      ·refine logOk_ends ?_ _ _ _ (fun e => by omega); exact h
      ·exact h
  ·split
   ·unfold judgeS; split
    ·exact h
    ·exact logOk_does h _ _
   ·split
    ·exact logOk_sealK 5 _ S h
    ·split
     ·unfold execS; split
      ·exact logOk_ends h _ _ _ (fun e => by omega)
      ·split; rename_i f v hl; split
       ·exact logOk_ends h _ _ _ (fun e => by omega)
       ·refine logOk_ends h _ _ _ (fun _ => ?_); have := leads_ok S.m (S.t n).now 5 (ptrN (S.t n).now.nr 0) zeroVals ⟨zeroVal_ok2, zeroVal_ok2, zeroVal_ok2, zeroVal_ok2⟩; rw [hl] at this; exact this
     ·exact h
theorem logOk_stepI {p : PolD} {S : WardS} (h : LogOk S) (n : Int) : LogOk (stepS p S n) := by
 unfold stepS; split
 ·exact h
 ·exact logOk_step h _
theorem logOk_steps {p : PolD} {S : WardS} (h : LogOk S) (n : Int) : ∀ k, LogOk (stepsS p S n k)
 | 0 => h
 | k + 1 => logOk_stepI (logOk_steps h n k) n
theorem logOk_did {p : PolD} {S : WardS} (h : LogOk S) (a : ActD) : LogOk (didS p S a) := by
 unfold didS; split
 ·exact h
 ·split
  ·exact h
  ·split
   ·exact h
   ·split
    ·unfold enterS; split <;> exact h
    ·split
     ·exact logOk_steps h _ _
     ·exact logOk_stepI h _
end Go.Proofs.YtmgngapkgcofnabGreatDoor
namespace Go.Proofs.YtmgngapkgcofnabGreatDoor
open Go.RowKit Go.PlainAid
theorem heaps1 (w : World) (o1 : Obj) (W : World) (h : Below (w.alloc o1).heap.size (w.alloc o1) W) : Below w.heap.size w W ∧ W.heap[w.heap.size]? = some o1 :=
 ⟨((Below.refl _ _).alloc (Nat.le_refl _) o1).trans (h.mono (by simp)), (h.block _ (by simp)).trans (heap_alloc_new w o1)⟩
theorem tcrow3 {W : World} {b : Nat} {t : TypeId} {a0 a1 a2 : Value} (h : W.heap[b]? = some (.cells #[a0, a1, a2] t (0, 0))) : W.cell? ⟨b, 0, none⟩ = some a0 ∧ W.cell? ⟨b, 1, none⟩ = some a1 ∧ W.cell? ⟨b, 2, none⟩ = some a2 :=
 ⟨(cell_of_row _ _ _ _ _ _ h).trans rfl, (cell_of_row _ _ _ _ _ _ h).trans rfl, (cell_of_row _ _ _ _ _ _ h).trans rfl⟩
theorem tcrow6 {W : World} {b : Nat} {t : TypeId} {a0 a1 a2 a3 a4 a5 : Value} (h : W.heap[b]? = some (.cells #[a0, a1, a2, a3, a4, a5] t (0, 0))) : W.cell? ⟨b, 0, none⟩ = some a0 ∧ W.cell? ⟨b, 1, none⟩ = some a1 ∧ W.cell? ⟨b, 2, none⟩ = some a2 ∧ W.cell? ⟨b, 3, none⟩ = some a3 ∧ W.cell? ⟨b, 4, none⟩ = some a4 ∧ W.cell? ⟨b, 5, none⟩ = some a5 :=
 ⟨(cell_of_row _ _ _ _ _ _ h).trans rfl, (cell_of_row _ _ _ _ _ _ h).trans rfl, (cell_of_row _ _ _ _ _ _ h).trans rfl, (cell_of_row _ _ _ _ _ _ h).trans rfl, (cell_of_row _ _ _ _ _ _ h).trans rfl, (cell_of_row _ _ _ _ _ _ h).trans rfl⟩
theorem tlight_bounds {p : PolD} (h : lightP p = true) : (∀ r ∈ p.rules, ∀ c ∈ r.conds, c.glob.size ≤ 4096) ∧ p.rules.length ≤ 4096 ∧ ∀ r ∈ p.rules, r.conds.length ≤ 4096 := by
 obtain ⟨h1, h2⟩ := (lightP_iff p).1 h; exact ⟨fun r hr c hc => by have := (h2 r hr).2 c hc; omega, by omega, fun r hr => by have := (h2 r hr).1; omega⟩
theorem tact_info : (Tryz.prog.info? 54).map (·.size) = some 11 := by kernel_rfl
theorem acts_at {w : World} {H : Nat} {v : Value} {l : List ActD} (h : ActsSl w H v l) : ∃ A c, v = .slice A l.length c ∧ (∀ x ∈ l, x.ok) ∧ ∀ i x, l[i]? = some x → ∃ b o, A = some ⟨b, o, none⟩ ∧ ∀ W, Below H w W → W.rangeAt b (o + i * 11) x.row := by
 obtain ⟨h0, A, c, rfl, h2⟩ := h; refine ⟨A, c, rfl, h0, fun i x hx => ?_⟩; rcases h2 with h2 | ⟨b, o, ha, hB, hr⟩
 ·rw [h2] at hx; simp at hx
 ·exact ⟨b, o, ha, fun W hb => hr.below hb hB i x hx⟩
def secN (S : WardS) : Nat → Nat
 | 0 => 0
 | k + 1 => secN S k + if (S.t k).phase = 5 then 2 else 0
theorem dids_safe {p : PolD} (hf : polF p = 0) (l : List ActD) : ∀ k, SafeO (didsS p WardS.new l k) ∧ SafeA p (didsS p WardS.new l k) ∧ (didsS p WardS.new l k).m.ok ∧ LogOk (didsS p WardS.new l k)
 | 0 => ⟨safeO_new, safeA_new p, new_ok, fun e h => by simp [didsS, WardS.new] at h⟩
 | k + 1 => by
  obtain ⟨h1, h2, h3, h4⟩ := dids_safe hf l k; have hG := good_dids hf good_new l k; rw [didsS]; split
  ·obtain ⟨k1, k2⟩ := safeA_did hf h2 h3 hG _; exact ⟨safeO_did hf h1 hG _, k1, k2, logOk_did h4 _⟩
  ·exact ⟨h1, h2, h3, h4⟩
theorem did_sealed {p : PolD} (hf : polF p = 0) (l : List ActD) (k : Nat) : cntSl (didsS p WardS.new l k).m 4 ≤ secN (didsS p WardS.new l k) 3 := by
 have := sealed_le (dids_safe hf l k).1 (good_dids hf good_new l k).thr; simp only [secN]; omega
theorem logSl_cells {w : World} {H : Nat} {A : Option Addr} {c : Nat} {l : List EntD} (h : LogSl w H (.slice A l.length c) l) {j : Nat} {e : EntD} (hj : l[j]? = some e) :
  ∃ b, A = some ⟨b, 0, none⟩ ∧ b < w.heap.size ∧ w.rangeAt b (j * 21) (entCells e) := by
 obtain ⟨b, hA, k0, _⟩ := logSl_at h hj; refine ⟨b, hA, World.block_lt_of_cell? w ⟨b, j * 21 + 0, none⟩ k0, fun i u hu => ?_⟩; have hr := Reads.of_own h
 have hlt : j < l.length := by
  rcases Nat.lt_or_ge j l.length with h1 | h1
  ·exact h1
  ·rw [List.getElem?_eq_none h1] at hj; cases hj
 have hi : i < 21 := by
  rcases Nat.lt_or_ge i 21 with h1 | h1
  ·exact h1
  ·rw [List.getElem?_eq_none (by rw [entCells_len]; exact h1)] at hu; cases hu
 obtain ⟨ad, ha, _, hc⟩ := hr.2 (by omega); rw [hA] at ha; simp only [Option.some.injEq] at ha; subst ha; have := hc (j * 21 + i) u ((logCells_get l j e i hj hi).trans hu); rw [show (⟨b, 0, none⟩ : Addr).add (j * 21 + i) = ⟨b, j * 21 + i, none⟩ from by unfold Addr.add; split <;> simp] at this; exact this
end Go.Proofs.YtmgngapkgcofnabGreatDoor
namespace Go.Proofs.YtmgngapkgcofnabGreatDoor
open Go.RowKit Go.PlainAid
def SlEq (M M' : MemS) : Prop := ∀ k, k < 4 → M.sl k = M'.sl k
theorem slEq_frees (l : List Nat) {M M' : MemS} (h : SlEq M M') : SlEq (freesS M l) (freesS M' l) := fun k hk => by rw [freesS_sl l M k hk, freesS_sl l M' k hk, h k hk]
theorem slEq_seal {M M' : MemS} (h : SlEq M M') (i : Nat) (f : Nat → Int) : SlEq (M.sealAt i f) (M'.sealAt i f) := fun k hk => by
 show (if k = i then some f else M.sl k) = (if k = i then some f else M'.sl k)
 rw [h k hk]
theorem ffF_eq {M M' : MemS} (h : SlEq M M') : ∀ n i, i + n ≤ 4 → ffF M n i = ffF M' n i
 | 0, _, _ => rfl
 | n + 1, i, hn => by rw [ffF, ffF, h i (by omega), ffF_eq h n (i + 1) (by omega)]
theorem sealX_eq {M M' : MemS} (h : SlEq M M') (s : ByteArray) : sealX M s = sealX M' s := by unfold sealX; rw [ffF_eq h 4 0 (by omega)]
theorem sealS_eq {M M' : MemS} (h : SlEq M M') (s : ByteArray) : SlEq (sealS M s) (sealS M' s) := by
 unfold sealS; rw [ffF_eq h 4 0 (by omega)]; split
 ·exact h
 ·split
  ·exact slEq_seal h _ _
  ·exact h
theorem sealedT_eq {M M' : MemS} {T : ThrS} (h : SlEq M M') (k : SealedT M T) : SealedT M' T := fun a ha =>
 ⟨fun hp => by
  obtain ⟨i, h1, h2, h3, h4, h5⟩ := (k a ha).1 hp; exact ⟨i, h1, h2, h3, (h i h1).symm.trans h4, h5⟩, (k a ha).2⟩
structure Alike (S X : WardS) : Prop where
 t : S.t = X.t
 log : S.log = X.log
 sl : SlEq S.m X.m
theorem Alike.refl (S : WardS) : Alike S S := ⟨rfl, rfl, fun _ _ => rfl⟩
theorem alike_ends {S X : WardS} (h : Alike S X) (n : Nat) (kind errno : Int) (v : ValsD) : Alike (endsS S n kind errno v) (endsS X n kind errno v) := by
 obtain ⟨t, m, log⟩ := S; obtain ⟨t', m', log'⟩ := X; obtain ⟨h1, h2, h3⟩ := h; simp only at h1 h2 h3; subst h1; subst h2; exact ⟨rfl, rfl, slEq_frees _ h3⟩
theorem alike_does {S X : WardS} (h : Alike S X) (n : Nat) (a : Int × Int) : Alike (doesS S n a) (doesS X n a) := by
 unfold doesS; split
 ·exact h
 ·split <;> exact alike_ends h _ _ _ _
theorem alike_setT {S X : WardS} (h : Alike S X) (n : Nat) {T T' : ThrS} (hT : T = T') : Alike (S.setT n T) (X.setT n T') := by
 subst hT; refine ⟨?_, h.log, h.sl⟩; show (fun k => if k = n then T else S.t k) = (fun k => if k = n then T else X.t k)
 rw [h.t]
theorem alike_setPh {S X : WardS} (h : Alike S X) (n : Nat) (ph : Int) : Alike (setPh S n ph) (setPh X n ph) := alike_setT h n (by rw [h.t])
theorem alike_sealK {n : Nat} : ∀ (k a : Nat) (S X : WardS), Alike S X → Alike (sealK S n a k) (sealK X n a k)
 | 0, a, S, X, h => alike_setPh h n 5
 | k + 1, a, S, X, h => by
  rw [sealK, sealK]; split
  ·exact alike_setPh h n 5
  ·have et : S.t n = X.t n := by rw [h.t]
   rw [et, sealX_eq h.sl]; have hm : Alike (S.setM (sealS S.m (sealText (kindN (X.t n).now.nr a) ((X.t n).vals.at_ a)))) (X.setM (sealS X.m (sealText (kindN (X.t n).now.nr a) ((X.t n).vals.at_ a)))) := ⟨h.t, h.log, sealS_eq h.sl _⟩
   generalize sealX X.m (sealText (kindN (X.t n).now.nr a) ((X.t n).vals.at_ a)) = q; obtain ⟨x, f⟩ := q; simp only; split
   ·exact alike_ends hm _ _ _ _
   ·exact alike_sealK k _ _ _ (alike_setT hm n rfl)
theorem ends_ph (S : WardS) (n : Nat) (kind errno : Int) (v : ValsD) : ((endsS S n kind errno v).t n).phase = 0 ∨ ((endsS S n kind errno v).t n).phase = 6 := by
 rw [show (endsS S n kind errno v).t n = if kind = 3 then ThrS.dead else ThrS.zero from if_pos rfl]; split
 ·exact .inr rfl
 ·exact .inl rfl
theorem does_ph (S : WardS) (n : Nat) {a : Int × Int} (h : a.1 ≠ 1) : ((doesS S n a).t n).phase = 0 ∨ ((doesS S n a).t n).phase = 6 := by
 unfold doesS; rw [if_neg h]; split <;> exact ends_ph _ _ _ _ _
structure LateR (n L : Nat) (S X : WardS) : Prop where
 al : Alike S X
 gs : GoodS S L
 gx : GoodS X L
 st : ((S.t n).phase = 0 ∨ (S.t n).phase = 6) ∨ (((S.t n).phase = 3 ∨ (S.t n).phase = 4) ∧ ReadT (S.t n)) ∨ ((S.t n).phase = 5 ∧ SealedT S.m (S.t n))
theorem LateR.mono {n L L' : Nat} {S X : WardS} (h : LateR n L S X) (hl : L ≤ L') : LateR n L' S X := ⟨h.al, h.gs.mono hl, h.gx.mono hl, h.st⟩
theorem late_left {n L : Nat} {S X : WardS} (h : LateR n L S X) : leftT (S.t n) ≤ 3 := by
 unfold leftT; rcases h.st with e | ⟨e, _⟩ | ⟨e, _⟩
 ·rw [if_neg (by omega), if_neg (by omega), if_neg (by omega), if_neg (by omega), if_neg (by omega)]; omega
 ·rw [if_neg (by omega), if_neg (by omega)]; split
  ·omega
  ·rw [if_pos (by omega)]; omega
 ·rw [if_neg (by omega), if_neg (by omega), if_neg (by omega), if_neg (by omega), if_pos e]; omega
theorem late_step {p : PolD} (hf : polF p = 0) {S X : WardS} {n L : Nat} (hn : n < 3) (h : LateR n L S X) :
  LateR n (L + 1) (stepS p S n) (stepS p X n) ∧ (leftT ((stepS p S n).t n) + 1 ≤ leftT (S.t n) ∨ leftT ((stepS p S n).t n) = 0) := by
 have e1 : ∀ Y : WardS, stepS p Y (n : Int) = stepT p Y n := fun Y => by unfold stepS; rw [if_neg (by omega)]; simp
 have g1 := good_step hf h.gs (n : Int); have g2 := good_step hf h.gx (n : Int); rw [e1] at g1 g2; rw [e1, e1]; have et : X.t n = S.t n := by rw [h.al.t]
 by_cases h0 : (S.t n).phase = 0 ∨ (S.t n).phase = 6
 ·have hs : stepT p S n = S := stepT_rest h0; have hx : stepT p X n = X := stepT_rest (by rw [et]; exact h0); rw [hs] at g1; rw [hx] at g2; rw [hs, hx]; refine ⟨⟨h.al, g1, g2, h.st⟩, .inr ?_⟩; unfold leftT; rw [if_neg (by omega), if_neg (by omega), if_neg (by omega), if_neg (by omega), if_neg (by omega)]
 ·refine ⟨?_, .inl (goes_step hf S n (h.gs.thr n) (fun e => h0 (.inl e)) (fun e => h0 (.inr e))).2.2.1⟩; rcases h.st with e | ⟨e | e, hr⟩ | ⟨e, hs⟩
  ·exact absurd e h0
  ·have q : ∀ Y : WardS, (Y.t n).phase = 3 → stepT p Y n = judgeS p Y n := fun Y hY => by unfold stepT; rw [if_neg (by omega), if_neg (by omega), if_pos hY]
   rw [q S e] at g1; rw [q X (by rw [et]; exact e)] at g2; rw [q S e, q X (by rw [et]; exact e)]; unfold judgeS at g1 g2 ⊢; rw [et] at g2 ⊢; split
   ·rename_i hd; rw [if_pos hd] at g1 g2; refine ⟨alike_setPh h.al n 4, g1, g2, .inr (.inl ?_)⟩; rw [show (setPh S n 4).t n = { S.t n with phase := 4 } from if_pos rfl]; exact ⟨.inr rfl, hr⟩
   ·rename_i hd; rw [if_neg hd] at g1 g2; exact ⟨alike_does h.al n _, g1, g2, .inl (does_ph S n hd)⟩
  ·have q : ∀ Y : WardS, (Y.t n).phase = 4 → stepT p Y n = sealStep Y n := fun Y hY => by unfold stepT; rw [if_neg (by omega), if_neg (by omega), if_neg (by omega), if_pos hY]
   rw [q S e] at g1; rw [q X (by rw [et]; exact e)] at g2; rw [q S e, q X (by rw [et]; exact e)]
   have ha : Alike (sealStep S n) (sealStep X n) := by
    unfold sealStep; rw [et]; exact alike_sealK 5 _ _ _ h.al
   refine ⟨ha, g1, g2, ?_⟩; obtain ⟨q1, q2⟩ := cnt_ptr (S.t n).now.nr 0 (by omega); obtain ⟨r1, r2, _⟩ := ptrN_le (S.t n).now.nr 0 (by omega); rcases sealed_K (n := n) 5 (ptrN (S.t n).now.nr 0) S r2 (by omega) q2 (fun j hj hlt hp => absurd hp (ptrN_skip _ (Nat.zero_le _) hlt)) hr with ⟨k1, _, _, k4, _⟩ | ⟨S0, k1, _⟩
   ·exact .inr (.inr ⟨k1, k4⟩)
   ·left; unfold sealStep; rw [k1]; exact ends_ph _ _ _ _ _
  ·have q : ∀ Y : WardS, (Y.t n).phase = 5 → stepT p Y n = execS Y n := fun Y hY => by unfold stepT; rw [if_neg (by omega), if_neg (by omega), if_neg (by omega), if_neg (by omega), if_pos hY]
   rw [q S e] at g1; rw [q X (by rw [et]; exact e)] at g2; rw [q S e, q X (by rw [et]; exact e)]; have hx : SealedT X.m (S.t n) := sealedT_eq h.al.sl hs
   have key : Alike (execS S n) (execS X n) ∧ (((execS S n).t n).phase = 0 ∨ ((execS S n).t n).phase = 6) := by
    unfold execS; rw [et]; split
    ·exact ⟨alike_ends h.al _ _ _ _, ends_ph _ _ _ _ _⟩
    ·rw [exec_judged hs, exec_judged hx]; simp only [ne_eq, not_true_eq_false, if_false]; exact ⟨alike_ends h.al _ _ _ _, ends_ph _ _ _ _ _⟩
   exact ⟨key.1, g1, g2, .inl key.2⟩
def memAct (a : ActD) : Bool := (a.kind.toList == ([109, 97, 112] : List UInt8)) || (a.kind.toList == ([117, 110, 109, 97, 112] : List UInt8)) || (a.kind.toList == ([112, 117, 116] : List UInt8))
theorem late_did {p : PolD} (hf : polF p = 0) {S X : WardS} {n L : Nat} (h : LateR n L S X) {a : ActD} (ha : memAct a = true) : LateR n (L + 90) (didS p S a) X := by
 have hg := good_did hf h.gs a
 have hM : ∀ M : MemS, M.sl = S.m.sl → GoodS (S.setM M) (L + 90) → LateR n (L + 90) (S.setM M) X := fun M hm g =>
  ⟨⟨h.al.t, h.al.log, fun k hk => by show M.sl k = _; rw [hm]; exact h.al.sl k hk⟩, g, h.gx.mono (by omega), by
   rcases h.st with e | e | ⟨e, e2⟩
   ·exact .inl e
   ·exact .inr (.inl e)
   ·exact .inr (.inr ⟨e, sealedT_eq (fun k hk => by show S.m.sl k = M.sl k; rw [hm]) e2⟩)⟩
 unfold memAct at ha; unfold didS at hg ⊢; split
 ·rename_i e; rw [if_pos e] at hg; exact hM _ (mapS_sl _ _ _) hg
 ·rename_i e0; rw [if_neg e0] at hg; split
  ·rename_i e; rw [if_pos e] at hg; exact hM _ (unmapS_sl _ _) hg
  ·rename_i e1; rw [if_neg e1] at hg; split
   ·rename_i e; rw [if_pos e] at hg; exact hM _ (putS_sl _ _ _) hg
   ·rename_i e2; simp only [Bool.or_eq_true] at ha; rcases ha with (ha | ha) | ha
    ·exact absurd ha e0
    ·exact absurd ha e1
    ·exact absurd ha e2
theorem late_first {p : PolD} {S : WardS} {n L : Nat} (hA : SafeA p S) (hG : GoodS S L) (h3 : (S.t n).phase = 3) : LateR n L S S :=
 ⟨Alike.refl S, hG, hG, .inr (.inl ⟨.inl h3, (hA.thr n).v3 (.inl h3)⟩)⟩
theorem late_end {n L : Nat} {S X : WardS} (h : LateR n L S X) (h0 : leftT (S.t n) = 0) : (S.t n).phase = (X.t n).phase ∧ ((S.t n).phase = 0 ∨ (S.t n).phase = 6) ∧ S.log = X.log :=
 ⟨by rw [h.al.t], leftT_zero (h.gs.thr n) h0, h.al.log⟩
end Go.Proofs.YtmgngapkgcofnabGreatDoor
namespace Go.Proofs.YtmgngapkgcofnabGreatDoor
open Go.RowKit Go.PlainAid
theorem thrCells_one (T : ThrS) {b s : Value} (hb : b.oneCell' = true) (hs : s.oneCell' = true) (j : Nat) (hj : j < 28) : ((thrCells T b s).getD j undef).oneCell' = true := by
 have key : ∀ v ∈ thrCells T b s, v.oneCell' = true := by
  intro v hv; simp only [thrCells, List.mem_cons, List.not_mem_nil, or_false] at hv; rcases hv with rfl | rfl | rfl | rfl | rfl | rfl | rfl | rfl | rfl | rfl | rfl | rfl | rfl | rfl | rfl | rfl | rfl | rfl | rfl | rfl | rfl | rfl | rfl | rfl | rfl | rfl | rfl | rfl <;> first | rfl | exact hb | exact hs
 have hj2 : j < (thrCells T b s).length := by rw [thrCells_len]; exact hj
 rw [List.getD_eq_getElem?_getD, List.getElem?_eq_getElem hj2]; exact key _ (List.getElem_mem hj2)
theorem wardCell_hd (hd : List Value) (lv v : Value) (t : Nat → ThrS) (bv sv : Nat → Value) (hl : hd.length = 5) : ∀ i, i < 90 → setV (wardCell hd lv t bv sv) 4 v i = wardCell (hd.set 4 v) lv t bv sv i := by
 intro i hi; unfold setV wardCell
 by_cases h1 : i = 4
 ·subst h1; rw [if_pos rfl, if_pos (by omega), List.getD_eq_getElem?_getD, List.getElem?_set_self (by omega)]; rfl
 ·rw [if_neg h1]
  by_cases h2 : i < 5
  ·rw [if_pos h2, if_pos h2, List.getD_eq_getElem?_getD, List.getD_eq_getElem?_getD, List.getElem?_set_ne (fun e => h1 e.symm)]
  ·rw [if_neg h2, if_neg h2]
section
variable {w wr w1 w2 W : World} {H N : Nat} {B : Nat → Prop} {g : Nat} {p : PolD} {S : WardS} {A : Option Addr} {c : Nat} {Ap : Option Addr} {cp : Nat} {m : Nat} {lv : Value} {bv sv : Nat → Value}
theorem WardRep.ones (R : WardRep w H B g p S A c Ap cp m lv bv sv) : (rowOf 90 (wardCell [.slice A p.rules.length c, .int .i64 p.kind, .int .i64 p.errno, .slice Ap (progL p).length cp, .pointer (some ⟨m, 0, none⟩)] lv S.t bv sv)).all (·.oneCell') = true := by
 refine rowOf_one fun i hi => ?_
 by_cases h1 : i < 5
 ·unfold wardCell; rw [if_pos h1]; have : i = 0 ∨ i = 1 ∨ i = 2 ∨ i = 3 ∨ i = 4 := by omega
  rcases this with rfl | rfl | rfl | rfl | rfl <;> rfl
 ·by_cases h2 : i < 89
  ·obtain ⟨n, j, hn, hj, rfl⟩ : ∃ n j, n < 3 ∧ j < 28 ∧ i = 5 + n * 28 + j := ⟨(i - 5) / 28, (i - 5) % 28, by omega, by omega, by omega⟩
   rw [wardCell_thr _ _ _ _ _ hn hj]; obtain ⟨a1, c1, e1⟩ := (R.buf n hn).form; obtain ⟨a2, c2, e2⟩ := (R.sea n hn).form; exact thrCells_one _ (by rw [e1]; rfl) (by rw [e2]; rfl) j hj
  ·unfold wardCell; rw [if_neg h1, if_neg h2]; obtain ⟨a1, c1, e1⟩ := R.log.form; rw [e1]; rfl
structure CopyW (N : Nat) (w wr : World) (p : PolD) (S : WardS) (A : Option Addr) (c : Nat) (Ap : Option Addr) (cp i j : Nat) : Prop where
 rep : ∃ m lv bq sq, BlkAt wr N 102 90 (wardCell [.slice A p.rules.length c, .int .i64 p.kind, .int .i64 p.errno, .slice Ap (progL p).length cp, .pointer (some ⟨m, 0, none⟩)] lv S.t bq sq) ∧ MemAt wr (fun k => N ≤ k) m S.m ∧ m ≠ N ∧
  RowB wr (fun k => N ≤ k) 80 21 lv S.log.length (logCells S.log) ∧ (∀ n, n < i → RowB wr (fun k => N ≤ k) 5 1 (bq n) (S.t n).buf.length (u8s (S.t n).buf)) ∧ (∀ n, n < j → RowB wr (fun k => N ≤ k) 42 1 (sq n) (S.t n).seals.length (u64s (S.t n).seals)) ∧
  (∀ n k, n < i → k < i → n ≠ k → (bq n).ownBlock = none ∨ (bq n).ownBlock ≠ (bq k).ownBlock) ∧ (∀ n k, n < j → k < j → n ≠ k → (sq n).ownBlock = none ∨ (sq n).ownBlock ≠ (sq k).ownBlock)
 below : Below N w wr
theorem rowB_own {e : TypeId} {s n K : Nat} {v : Value} {xs : List Value} (h : w2.ownsRow K e s v n xs) (hK : N ≤ K) : RowB w2 (fun k => N ≤ k) e s v n xs :=
 ⟨⟨h.1, by
  rcases h.2 with h1 | ⟨q, cap, cur, h1, _, h3⟩
  ·exact .inl h1
  ·exact .inr ⟨q, cap, cur, h1, Nat.zero_le _, h3⟩⟩, fun b hb => by have := (h.lt b hb).1; show N ≤ b; omega⟩
theorem ap_next {f : Nat → Value} {i K : Nat} {v : Value} (hf : ∀ n k, n < i → k < i → n ≠ k → (f n).ownBlock = none ∨ (f n).ownBlock ≠ (f k).ownBlock) (hlt : ∀ n, n < i → ∀ b, (f n).ownBlock = some b → b < K) (hv : ∀ b, v.ownBlock = some b → K ≤ b) :
  ∀ n k, n < i + 1 → k < i + 1 → n ≠ k → ((fun k => if k = i then v else f k) n).ownBlock = none ∨ ((fun k => if k = i then v else f k) n).ownBlock ≠ ((fun k => if k = i then v else f k) k).ownBlock := by
 intro n k hn hk hne
 by_cases e1 : n = i
 ·have e2 : k ≠ i := fun e => hne (e1.trans e.symm); simp only [if_pos e1, if_neg e2]
  cases hx : v.ownBlock with
  | none => exact .inl rfl
  | some b => exact .inr fun e => by have := hv b hx; have := hlt k (by omega) b e.symm; omega
 ·simp only [if_neg e1]
  by_cases e2 : k = i
  ·simp only [if_pos e2]
   cases hx : (f n).ownBlock with
   | none => exact .inl rfl
   | some b => exact .inr fun e => by have := hv b e.symm; have := hlt n (by omega) b hx; omega
  ·simp only [if_neg e2]; exact hf n k (by omega) (by omega) hne
theorem CopyW.buf {i j : Nat} (h : CopyW N w wr p S A c Ap cp i j) (hi : i < 3) {v1 : Value} (hown : w2.ownsRow wr.heap.size 5 1 v1 (S.t i).buf.length (u8s (S.t i).buf)) (hb : Below wr.heap.size wr w2) :
  (∃ u, w2.cell? ⟨N, 5 + i * 28 + 14, none⟩ = some u) ∧ w2.frozen? ⟨N, 5 + i * 28 + 14, none⟩ = false ∧ CopyW N w (w2.setCell ⟨N, 5 + i * 28 + 14, none⟩ v1) p S A c Ap cp (i + 1) j := by
 obtain ⟨⟨m, lv, bq, sq, h1, h2, h3, h4, h5, h6, h7, h8⟩, hbl⟩ := h; have hN := h1.lt; have g5 := h1.via hb hN; have g5' : w2.heap[N]? = some (.cells _ 102 (0, 0)) := g5; have h1' : wr.heap[N]? = some (.cells _ 102 (0, 0)) := h1; have hbut : But N wr (w2.setCell ⟨N, 5 + i * 28 + 14, none⟩ v1) := (But.of_below hb).setCell _ _; have hg := grown_but hbut
 have hblk := (g5.set (5 + i * 28 + 14) v1).same (wardCell_set _ _ _ _ _ hi (by omega) v1 (S.t i) v1 (sq i) rfl); rw [ifn S.t i, ifn sq i] at hblk; have hnew := rowB_own (N := N) hown (Nat.le_of_lt hN)
 refine ⟨⟨_, g5.cell (by omega)⟩, g5.frozen _, ⟨m, lv, fun k => if k = i then v1 else bq k, sq, hblk, h2.grown hg (fun b e => ?_), h3, h4.grown hg (h4.apart h1' (by decide)), fun n hn => ?_, fun n hn => (h6 n hn).grown hg ((h6 n hn).apart h1' (by decide)), ap_next h7 (fun n hn b hb2 => (h5 n hn).lt b hb2) (fun b hb2 => (hown.lt b hb2).1), h8⟩, ?_⟩
 ·simp only [Option.some.injEq] at e; subst e; exact ⟨_, _, h1', by decide, by decide⟩
 ·by_cases e : n = i
  ·subst e; simp only [if_true]; exact hnew.grown (grow1 w2 N _ _) (hnew.apart g5' (by decide))
  ·simp only [if_neg e]; exact (h5 n (by omega)).grown hg ((h5 n (by omega)).apart h1' (by decide))
 ·exact hbl.trans (hbut.below (Nat.le_refl _) (Nat.le_of_lt hN))
theorem CopyW.sea {i j : Nat} (h : CopyW N w wr p S A c Ap cp i j) (hi : j < 3) {v1 : Value} (hown : w2.ownsRow wr.heap.size 42 1 v1 (S.t j).seals.length (u64s (S.t j).seals)) (hb : Below wr.heap.size wr w2) :
  (∃ u, w2.cell? ⟨N, 5 + j * 28 + 27, none⟩ = some u) ∧ w2.frozen? ⟨N, 5 + j * 28 + 27, none⟩ = false ∧ CopyW N w (w2.setCell ⟨N, 5 + j * 28 + 27, none⟩ v1) p S A c Ap cp i (j + 1) := by
 obtain ⟨⟨m, lv, bq, sq, h1, h2, h3, h4, h5, h6, h7, h8⟩, hbl⟩ := h; have hN := h1.lt; have g5 := h1.via hb hN; have g5' : w2.heap[N]? = some (.cells _ 102 (0, 0)) := g5; have h1' : wr.heap[N]? = some (.cells _ 102 (0, 0)) := h1; have hbut : But N wr (w2.setCell ⟨N, 5 + j * 28 + 27, none⟩ v1) := (But.of_below hb).setCell _ _; have hg := grown_but hbut
 have hblk := (g5.set (5 + j * 28 + 27) v1).same (wardCell_set _ _ _ _ _ hi (by omega) v1 (S.t j) (bq j) v1 rfl); rw [ifn S.t j, ifn bq j] at hblk; have hnew := rowB_own (N := N) hown (Nat.le_of_lt hN)
 refine ⟨⟨_, g5.cell (by omega)⟩, g5.frozen _, ⟨m, lv, bq, fun k => if k = j then v1 else sq k, hblk, h2.grown hg (fun b e => ?_), h3, h4.grown hg (h4.apart h1' (by decide)), fun n hn => (h5 n hn).grown hg ((h5 n hn).apart h1' (by decide)), fun n hn => ?_, h7, ap_next h8 (fun n hn b hb2 => (h6 n hn).lt b hb2) (fun b hb2 => (hown.lt b hb2).1)⟩, ?_⟩
 ·simp only [Option.some.injEq] at e; subst e; exact ⟨_, _, h1', by decide, by decide⟩
 ·by_cases e : n = j
  ·subst e; simp only [if_true]; exact hnew.grown (grow1 w2 N _ _) (hnew.apart g5' (by decide))
  ·simp only [if_neg e]; exact (h6 n (by omega)).grown hg ((h6 n (by omega)).apart h1' (by decide))
 ·exact hbl.trans (hbut.below (Nat.le_refl _) (Nat.le_of_lt hN))
theorem copyW_mem {l : Nat} (hblk : BlkAt W N 102 90 (wardCell [.slice A p.rules.length c, .int .i64 p.kind, .int .i64 p.errno, .slice Ap (progL p).length cp, .pointer (some ⟨m, 0, none⟩)] lv S.t bv sv)) (hbW : Below N w W) (hs : W.heap.size = N + 1) (hb : Below W.heap.size W w1) :
  (∃ u, w1.cell? ⟨N, 4, none⟩ = some u) ∧ w1.frozen? ⟨N, 4, none⟩ = false ∧ Below N w (w1.setCell ⟨N, 4, none⟩ (.pointer (some ⟨l, 0, none⟩))) := by
 have g5 := hblk.via hb hblk.lt; exact ⟨⟨_, g5.cell (by omega)⟩, g5.frozen _, hbW.trans (((But.of_below (m := N) hb).setCell 4 (.pointer (some ⟨l, 0, none⟩))).below (Nat.le_refl _) (by omega))⟩
theorem copyW_log (hblk : BlkAt W N 102 90 (wardCell [.slice A p.rules.length c, .int .i64 p.kind, .int .i64 p.errno, .slice Ap (progL p).length cp, .pointer (some ⟨m, 0, none⟩)] lv S.t bv sv)) (hbW : Below N w W) (hs : W.heap.size = N + 1) (hb : Below W.heap.size W w1) (hm : MemAt w1 (fun k => W.heap.size ≤ k) W.heap.size S.m)
  {l2 : Value} (hb2 : Below (w1.setCell ⟨N, 4, none⟩ (.pointer (some ⟨W.heap.size, 0, none⟩))).heap.size (w1.setCell ⟨N, 4, none⟩ (.pointer (some ⟨W.heap.size, 0, none⟩))) w2) (hl : LogSl w2 (w1.setCell ⟨N, 4, none⟩ (.pointer (some ⟨W.heap.size, 0, none⟩))).heap.size l2 S.log) :
  (∃ u, w2.cell? ⟨N, 89, none⟩ = some u) ∧ w2.frozen? ⟨N, 89, none⟩ = false ∧ CopyW N w (w2.setCell ⟨N, 89, none⟩ l2) p S A c Ap cp 0 0 := by
 have g5 := hblk.via hb hblk.lt; have g6 := (g5.set 4 (.pointer (some ⟨W.heap.size, 0, none⟩))).same (wardCell_hd _ _ _ _ _ _ rfl); have g6' : (w1.setCell ⟨N, 4, none⟩ (.pointer (some ⟨W.heap.size, 0, none⟩))).heap[N]? = some (.cells _ 102 (0, 0)) := g6; have g7 := g6.via hb2 g6.lt; have g7' : w2.heap[N]? = some (.cells _ 102 (0, 0)) := g7; have g8 := (g7.set 89 l2).same (wardCell_log _ _ _ _ _ _)
 have g5' : w1.heap[N]? = some (.cells _ 102 (0, 0)) := g5; have hm1 : MemAt w1 (fun k => N ≤ k) W.heap.size S.m := hm.weak (fun k _ hk => by have : W.heap.size ≤ k := hk; show N ≤ k; omega)
 have hm2 := hm1.grown (grow1 w1 N 4 (.pointer (some ⟨W.heap.size, 0, none⟩))) (fun b e => by
  simp only [Option.some.injEq] at e; subst e; exact ⟨_, _, g5', by decide, by decide⟩)
 have hm3 := hm2.grown (growBl (r := none) hb2) (fun b e => by cases e)
 have hm4 := hm3.grown (grow1 w2 N 89 l2) (fun b e => by
  simp only [Option.some.injEq] at e; subst e; exact ⟨_, _, g7', by decide, by decide⟩)
 have hN1 : N < w1.heap.size := g5.lt; have hs1 : (w1.setCell ⟨N, 4, none⟩ (.pointer (some ⟨W.heap.size, 0, none⟩))).heap.size = w1.heap.size := by simp [World.setCell]
 have hnew := rowB_own (N := N) hl (by omega); refine ⟨⟨_, g7.cell (by omega)⟩, g7.frozen _, ⟨W.heap.size, l2, bv, sv, g8, hm4, by omega, hnew.grown (grow1 w2 N 89 l2) (hnew.apart g7' (by decide)), fun n hn => absurd hn (Nat.not_lt_zero n), fun n hn => absurd hn (Nat.not_lt_zero n), fun n _ hn => absurd hn (Nat.not_lt_zero n), fun n _ hn => absurd hn (Nat.not_lt_zero n)⟩, ?_⟩
 have k1 := (copyW_mem (l := W.heap.size) hblk hbW hs hb).2.2; exact k1.trans ((((But.of_below (m := N) hb2).setCell 89 l2)).below (Nat.le_refl _) (by omega))
theorem CopyW.done (h : CopyW w.heap.size w wr p S A c Ap cp 3 3) (R : WardRep w H B g p S A c Ap cp m lv bv sv) (hB : B g) (hl : ∀ k, B k → H ≤ k) (hok : S.ok) : WardAt wr H (fun k => w.heap.size ≤ k) w.heap.size p S := by
 obtain ⟨⟨m', lv', bq, sq, h1, h2, h3, h4, h5, h6, h7, h8⟩, hbl⟩ := h; have hH : H ≤ w.heap.size := by have := R.lt; have := hl g hB; omega
 exact ⟨Nat.le_refl _, fun k hk => Nat.le_trans hH hk, hok, A, c, Ap, cp, m', lv', bq, sq, ⟨h1, R.pol.low (hbl.mono hH), R.prg.below (hbl.mono hH), h2, h3, h5, h6, h4, h7, h8⟩⟩
end
theorem ward_info : (Tryz.prog.info? 102).map (·.size) = some 90 := by kernel_rfl
set_option linter.unusedSimpArgs false in
set_option maxRecDepth 100000 in
set_option maxHeartbeats 8000000 in
theorem wardCopy_any (H : Nat) (B : Nat → Prop) (g : Nat) (p : PolD) (S : WardS) (w : World) (h : WardAt w H B g p S) :
  Calls Tryz.prog 16 #[.pointer (some ⟨g, 0, none⟩)] w fun e w' => e = .returned (.pointer (some ⟨w.heap.size, 0, none⟩)) ∧ WardAt w' H (fun k => w.heap.size ≤ k) w.heap.size p S ∧ Below w.heap.size w w' := by
 have HW0 := Lib.hid h; obtain ⟨hB, hl, hok, A, c, Ap, cp, m, lv, bv, sv, R⟩ := h; have HR := Lib.hid R; have HD : Hid (∀ wr, CopyW w.heap.size w wr p S A c Ap cp 3 3 → WardAt wr H (fun k => w.heap.size ≤ k) w.heap.size p S) := fun wr hc => hc.done R hB hl hok; have HOK := Lib.hid hok; obtain ⟨N, hN⟩ : ∃ N, w.heap.size = N := ⟨_, rfl⟩
 obtain ⟨C, hC⟩ : ∃ C, wardCell [.slice A p.rules.length c, .int .i64 p.kind, .int .i64 p.errno, .slice Ap (progL p).length cp, .pointer (some ⟨m, 0, none⟩)] lv S.t bv sv = C := ⟨_, rfl⟩
 have hblk := R.blk; rw [hC] at hblk; have hgl := R.lt; obtain ⟨W, hW, hth, hblk2, hbel, hsz⟩ := row_world w 102 90 C Tryz.zeroCells102 Tryz.zeroCells102_size; have HRNG := Lib.hid hblk.range; have hlen : (rowOf 90 C).toList.length = 90 := by rw [Array.length_toList, rowOf_size]
 have HLEN := Lib.hid hlen; have HSZ : Hid ((rowOf 90 C).size = 90) := rowOf_size _ _; have hone := R.ones; rw [hC] at hone; have HONE := Lib.hid hone; have HTH := Lib.hid hth; have HW := Lib.hid hW; have HBW := Lib.hid hbel; have c4 : W.cell? ⟨g, 4, none⟩ = some (.pointer (some ⟨m, 0, none⟩)) := (hbel.cell (p := ⟨g, 4, none⟩) hgl).trans R.memV
 have HMC := Lib.hid (memCopy_any m B S.m W (R.mem.grown (growBl (r := none) hbel) (fun b e => by cases e)))
 have HST : Hid (∀ w1, Below W.heap.size W w1 → (∃ u, w1.cell? ⟨N, 4, none⟩ = some u) ∧ w1.frozen? ⟨N, 4, none⟩ = false ∧ Below N w (w1.setCell ⟨N, 4, none⟩ (.pointer (some ⟨W.heap.size, 0, none⟩)))) := fun w1 hb => by
  rw [← hC, hN] at hblk2; rw [hN] at hbel hsz; exact copyW_mem hblk2 hbel hsz hb
 have HS2 : Hid (∀ w1 w2 l2, Below W.heap.size W w1 → MemAt w1 (fun k => W.heap.size ≤ k) W.heap.size S.m → Below (w1.setCell ⟨N, 4, none⟩ (.pointer (some ⟨W.heap.size, 0, none⟩))).heap.size (w1.setCell ⟨N, 4, none⟩ (.pointer (some ⟨W.heap.size, 0, none⟩))) w2 → LogSl w2 (w1.setCell ⟨N, 4, none⟩ (.pointer (some ⟨W.heap.size, 0, none⟩))).heap.size l2 S.log →
   (∃ u, w2.cell? ⟨N, 89, none⟩ = some u) ∧ w2.frozen? ⟨N, 89, none⟩ = false ∧ CopyW N w (w2.setCell ⟨N, 89, none⟩ l2) p S A c Ap cp 0 0) := fun w1 w2 l2 q1 q2 q3 q4 => by
  rw [← hC, hN] at hblk2; rw [hN] at hbel hsz; exact copyW_log hblk2 hbel hsz q1 q2 q3 q4
 have HLG : Hid (∀ W', Below N w W' → Calls Tryz.prog 28 #[.pointer (some ⟨g, 0, none⟩)] W' fun e w' => ∃ A c, e = .returned (.slice A S.log.length c) ∧ LogSl w' W'.heap.size (.slice A S.log.length c) S.log ∧ Below W'.heap.size W' w') := fun W' hb => wardLog_any H B g p S W' (HW0.out.below (by rw [hN]; exact hb))
 have HBF : Hid (∀ wr i, Below N w wr → i < 3 → ∃ A1 c1, wr.cell? ⟨g, 5 + i * 28 + 14, none⟩ = some (.slice A1 (S.t i).buf.length c1) ∧ Hid (Reads wr wr.heap.size 1 A1 (S.t i).buf.length (u8s (S.t i).buf))) := fun wr i hb hi => by
  rw [← hN] at hb; obtain ⟨A1, c1, e1⟩ := (R.buf i hi).form; have k1 := (hb.cell (p := ⟨g, 5 + i * 28 + 14, none⟩) hgl).trans (R.thr hi (j := 14) rfl); have k2 := (R.buf i hi).grown (growBl (r := none) hb) (fun _ _ e => by cases e); rw [e1] at k1 k2; exact ⟨A1, c1, k1, Reads.of_own k2.1⟩
 have HSF : Hid (∀ wr i, Below N w wr → i < 3 → ∃ A1 c1, wr.cell? ⟨g, 5 + i * 28 + 27, none⟩ = some (.slice A1 (S.t i).seals.length c1) ∧ Hid (Reads wr wr.heap.size 1 A1 (S.t i).seals.length (u64s (S.t i).seals))) := fun wr i hb hi => by
  rw [← hN] at hb; obtain ⟨A1, c1, e1⟩ := (R.sea i hi).form; have k1 := (hb.cell (p := ⟨g, 5 + i * 28 + 27, none⟩) hgl).trans (R.thr hi (j := 27) rfl); have k2 := (R.sea i hi).grown (growBl (r := none) hb) (fun _ _ e => by cases e); rw [e1] at k1 k2; exact ⟨A1, c1, k1, Reads.of_own k2.1⟩
 rw [hN] at HTH HW HBW HD; obtain ⟨i8, hi8, hz80, hz81, hz82⟩ := info_parts u8Info; obtain ⟨i6, hi6, hz60, hz61, hz62⟩ := info_parts u64Info; obtain ⟨R2, hR2⟩ : ∃ R2, R2 = rowOf 90 C := ⟨_, rfl⟩
 rw [← hR2] at HRNG HONE HTH HW HLEN HSZ; have HNN := Lib.hid hN; rw [hN]; clear hR2 hB hl hok R hblk hblk2 hth hW hone hlen hbel hsz hC HW0; go_enter Tryz.func16, Tryz.ntmps16
 go_upto_region 2 with (first
  | (refine wpList_load_mid rfl 102 (.tmp 6) rfl g 0 (by simp [Act.eval]) R2.toList _ HRNG.out Tryz.underlying102 rfl (by rw [HLEN.out]; exact ward_info) ?_)
  | ((try rw [HNN.out]); refine wpList_store_mid rfl 102 (.tmp 3) (.tmp 7) rfl N 0 R2 (by simp [Act.eval, Act.put]) (by simp [Act.eval, Act.put]) HTH.out (by rw [HSZ.out]; exact ward_info) HONE.out ?_; rw [HW.out]))
 go_upto_region 4 with (first
  | (go_at_call 41; refine cargs (by simp [Act.eval]) (HMC.out.mono ?_); rintro e w1 ⟨rfl, hm, hb⟩; have HM1 := Lib.hid hm; have HB1 := Lib.hid hb; obtain ⟨⟨u1, s1⟩, s2, s3⟩ := HST.out w1 hb; have HB4 := Lib.hid s3; clear hm hb s3)
  | (go_at_call 28; refine cargs (by simp [Act.eval]) ((HLG.out _ HB4.out).mono ?_); rintro e w2 ⟨AL, cL, rfl, hls, hb7⟩; obtain ⟨⟨u2, t1⟩, t2, t3⟩ := HS2.out _ _ _ HB1.out HM1.out hb7 hls; have HC0 := Lib.hid t3; clear t3 hls hb7)
  | fail)
 (try rw [HNN.out])
 clear HMC HST HS2 HLG HRNG HONE HTH HW HLEN HSZ HB4 HB1 HM1 s1 s2 t1 t2 c4; generalize (w2.setCell ⟨N, 89, none⟩ (.slice AL S.log.length cL)) = W4 at *
 go_wp2_with fail
 go_loopw [17] (fun iv wr => ∃ i : Nat, i ≤ 3 ∧ iv = .int .i64 i ∧ Hid (CopyW N w wr p S A c Ap cp i i)) (fun iv _ => 3 - (intOf iv).toNat)
 case atStart => exact ⟨0, Nat.zero_le _, rfl, HC0⟩
 case round =>
  clear HC0; obtain ⟨i, hi, rfl, HC⟩ := hrel
  by_cases hlt : i < 3
  ·have x1 : (i : Int) < 3 := by omega
   have x2 : (0 : Int) ≤ (i : Int) := by omega
   obtain ⟨A1, c1, k1, R1⟩ := HBF.out wr i HC.out.below hlt
   have H1 : Hid (∀ u ∈ u8s (S.t i).buf, u.oneCell' = true) := fun u hu => by
    obtain ⟨x, _, rfl⟩ := List.mem_map.1 hu; rfl
   have H2 : Hid (∀ u ∈ u64s (S.t i).seals, u.oneCell' = true) := fun u hu => by
    obtain ⟨x, _, rfl⟩ := List.mem_map.1 hu; rfl
   have hn1 := (HOK.out.thr i).buf; have hn2 := (HOK.out.thr i).seals
   have HS1 : Hid (∀ w2 v1, w2.ownsRow wr.heap.size 5 1 v1 (S.t i).buf.length (u8s (S.t i).buf) → Below wr.heap.size wr w2 → (∃ u, w2.cell? ⟨N, 5 + i * 28 + 14, none⟩ = some u) ∧ w2.frozen? ⟨N, 5 + i * 28 + 14, none⟩ = false ∧ Hid (CopyW N w (w2.setCell ⟨N, 5 + i * 28 + 14, none⟩ v1) p S A c Ap cp (i + 1) i)) := fun w2 v1 q1 q2 => HC.out.buf hlt q1 q2
   have HS2 : Hid (∀ wx w2 v1, CopyW N w wx p S A c Ap cp (i + 1) i → w2.ownsRow wx.heap.size 42 1 v1 (S.t i).seals.length (u64s (S.t i).seals) → Below wx.heap.size wx w2 → (∃ u, w2.cell? ⟨N, 5 + i * 28 + 27, none⟩ = some u) ∧ w2.frozen? ⟨N, 5 + i * 28 + 27, none⟩ = false ∧ Hid (CopyW N w (w2.setCell ⟨N, 5 + i * 28 + 27, none⟩ v1) p S A c Ap cp (i + 1) (i + 1))) := fun wx w2 v1 q0 q1 q2 => q0.sea hlt q1 q2
   have HSX : Hid (∀ wx, Below N w wx → ∃ A1 c1, wx.cell? ⟨g, 5 + i * 28 + 27, none⟩ = some (.slice A1 (S.t i).seals.length c1) ∧ Hid (Reads wx wx.heap.size 1 A1 (S.t i).seals.length (u64s (S.t i).seals))) := fun wx q => HSF.out wx i q hlt; clear HC HBF HSF hlt hi; generalize u8s (S.t i).buf = L1 at *
   generalize (S.t i).buf.length = n1 at *
   generalize u64s (S.t i).seals = L2 at *
   generalize (S.t i).seals.length = n2 at *
   go_upto_region 8 with (at_builtin; refine wpList_append_any _ rfl (.const (.slice none 0 0)) (.tmp 27) _ rfl wr.heap.size 5 i8 _ 1 1 Tryz.underlying96 hi8 hz80 hz81 hz82 rfl (by omega) (.slice none 0 0) 0 [] rfl ⟨by simp, .inl ⟨rfl, rfl⟩⟩ wr.heap.size A1 n1 c1 L1 rfl R1.out H1.out (by unfold maxLen; omega) (by omega) (Nat.le_refl _) ?_; intro v1 w2 hown1 hg1 _; simp only [Nat.zero_add, List.nil_append] at hown1; have hbw2 : Below wr.heap.size wr w2 := (Below.refl _ _).grown hg1 (Nat.le_refl _) (by simp [Value.ownBlock]); obtain ⟨A2, c2, rfl⟩ := own_form2 hown1; obtain ⟨⟨u1, s1⟩, s2, HX⟩ := HS1.out _ _ hown1 hbw2; clear hown1 hbw2 hg1 HS1)
   clear s1 s2 k1; generalize (w2.setCell ⟨N, 5 + i * 28 + 14, none⟩ (.slice A2 n1 c2)) = wx at *
   obtain ⟨A3, c3, k3, R3⟩ := HSX.out wx HX.out.below
   go_upto_region 9 with (at_builtin; refine wpList_append_any _ rfl (.const (.slice none 0 0)) (.tmp 39) _ rfl wx.heap.size 42 i6 _ 1 8 Tryz.underlying97 hi6 hz60 hz61 hz62 rfl (by omega) (.slice none 0 0) 0 [] rfl ⟨by simp, .inl ⟨rfl, rfl⟩⟩ wx.heap.size A3 n2 c3 L2 rfl R3.out H2.out (by unfold maxLen; omega) (by omega) (Nat.le_refl _) ?_; intro v2 w3 hown2 hg2 _; simp only [Nat.zero_add, List.nil_append] at hown2; have hbw3 : Below wx.heap.size wx w3 := (Below.refl _ _).grown hg2 (Nat.le_refl _) (by simp [Value.ownBlock]); obtain ⟨A4, c4, rfl⟩ := own_form2 hown2; obtain ⟨⟨u3, s3⟩, s4, HY⟩ := HS2.out _ _ _ HX.out hown2 hbw3; clear hown2 hbw3 hg2 HS2)
   go_wp2_with fail; go_roundw
   case rel => exact ⟨i + 1, by omega, by go_num, HY⟩
   case measure => simp [intOf]; omega
  ·obtain rfl : i = 3 := by omega
   have x1 : ¬ ((3 : Nat) : Int) < 3 := by omega
   have HDN := Lib.hid (HD.out wr HC.out); have HBX := Lib.hid HC.out.below; clear HBF HSF HC HD
   go_wp2_with fail; go_ret; exact ⟨rfl, HDN.out, HBX.out⟩
end Go.Proofs.YtmgngapkgcofnabGreatDoor
namespace Go.Proofs.YtmgngapkgcofnabGreatDoor
open Go.RowKit Go.PlainAid
def TwoAt (w : World) (H : Nat) (p : PolD) (g1 g2 : Nat) (S X : WardS) : Prop := ∃ B1 B2 : Nat → Prop, WardAt w H B1 g1 p S ∧ WardAt w H B2 g2 p X ∧ ∀ k, B1 k → ¬ B2 k
section
variable {w w' : World} {H g1 g2 : Nat} {p : PolD} {S X : WardS}
theorem TwoAt.swap (h : TwoAt w H p g1 g2 S X) : TwoAt w H p g2 g1 X S := by
 obtain ⟨B1, B2, h1, h2, h3⟩ := h; exact ⟨B2, B1, h2, h1, fun k hk hk2 => h3 k hk2 hk⟩
theorem TwoAt.fst (h : TwoAt w H p g1 g2 S X) : ∃ B : Nat → Prop, WardAt w H B g1 p S ∧ (∀ k, w.heap.size ≤ k → B k) ∧ ∀ w' S', WardAt w' H B g1 p S' → Frame B w w' → TwoAt w' H p g1 g2 S' X ∧ Below H w w' := by
 obtain ⟨B1, B2, h1, h2, h3⟩ := h; have hf := h1.few
 have hlow : ∀ k, (k < w.heap.size ∧ B1 k) ∨ w.heap.size ≤ k → H ≤ k := fun k hk => by
  rcases hk with ⟨_, hk⟩ | hk
  ·exact h1.low k hk
  ·omega
 refine ⟨fun k => (k < w.heap.size ∧ B1 k) ∨ w.heap.size ≤ k, h1.rebase (fun k hk hb => .inl ⟨hk, hb⟩) hlow, fun k hk => .inr hk, fun w' S' k1 k2 => ⟨⟨_, fun k => k < w.heap.size ∧ B2 k, k1, ?_, ?_⟩, k2.below hlow hf⟩⟩
 ·refine (h2.rebase (B' := fun k => k < w.heap.size ∧ B2 k) (fun k hk hb => ⟨hk, hb⟩) (fun k hk => h2.low k hk.2)).frame k2 (fun k hk hb => ?_); rcases hb with ⟨_, hb⟩ | hb
  ·exact ⟨fun e => h3 k hb e.2, h1.low k hb⟩
  ·omega
 ·rintro k (⟨hk, hb⟩ | hk) ⟨e1, e2⟩
  ·exact h3 k hb e2
  ·omega
theorem TwoAt.below (h : TwoAt w H p g1 g2 S X) (hb : Below w.heap.size w w') : TwoAt w' H p g1 g2 S X := by
 obtain ⟨B1, B2, h1, h2, h3⟩ := h; exact ⟨B1, B2, h1.below hb, h2.below hb, h3⟩
theorem TwoAt.few (h : TwoAt w H p g1 g2 S X) : H ≤ w.heap.size := by
 obtain ⟨B1, B2, h1, h2, h3⟩ := h; exact h1.few
theorem two_copy {W : World} (h : WardAt w H (fun k => H ≤ k) g1 p S) (hb : Below w.heap.size w W) (h2 : WardAt W H (fun k => w.heap.size ≤ k) g2 p S) : TwoAt W H p g1 g2 S S :=
 ⟨fun k => H ≤ k ∧ k < w.heap.size, fun k => w.heap.size ≤ k, (h.rebase (B' := fun k => H ≤ k ∧ k < w.heap.size) (fun k hk hl => ⟨hl, hk⟩) (fun k hk => hk.1)).below hb, h2, fun k hk hk2 => by have := hk.2; have : w.heap.size ≤ k := hk2; omega⟩
theorem two_step (n : Nat) (h : TwoAt w H p g1 g2 S X) (hf : polF p = 0) {L : Nat} (hG : GoodS S L) (hL : L < 1000000) :
  Calls Tryz.prog 19 #[.pointer (some ⟨g1, 0, none⟩), .int .i64 (n : Int)] w fun e w' => ∃ (b : Bool) (v : Value), e = .returned (.tuple #[.bool b, v]) ∧ TwoAt w' H p g1 g2 (stepS p S n) X ∧ Below H w w' := by
 obtain ⟨B, h1, h2, h3⟩ := h.fst; refine (wardStep_any H B g1 p S n w h1 hf hG.inv h2 (by have := hG.few; omega)).mono ?_; rintro e w' ⟨rfl, k1, k2⟩; obtain ⟨k3, k4⟩ := h3 w' _ k1 k2; exact ⟨_, _, rfl, k3, k4⟩
theorem two_did (h : TwoAt w H p g1 g2 S X) (hf : polF p = 0) {L : Nat} (hG : GoodS S L) (hL : L + 91 < 1000000) (a : ActD) (ha : a.ok) (hs : a.s.size ≤ 4096) :
  Calls Tryz.prog 27 #[.pointer (some ⟨g1, 0, none⟩), .agg a.row.toArray] w fun e w' => e = .returned (.tuple #[]) ∧ TwoAt w' H p g1 g2 (didS p S a) X ∧ Below H w w' := by
 obtain ⟨B, h1, h2, h3⟩ := h.fst; refine (did_any H B g1 p S L a w h1 hf hG hL h2 ha hs).mono ?_; rintro e w' ⟨rfl, k1, k2⟩; obtain ⟨k3, k4⟩ := h3 w' _ k1 k2; exact ⟨rfl, k3, k4⟩
theorem two_phase (n : Nat) (hn : n < 3) (h : TwoAt w H p g1 g2 S X) :
  Calls Tryz.prog 29 #[.pointer (some ⟨g1, 0, none⟩), .int .i64 (n : Int)] w fun e w' => e = .returned (.int .i64 (S.t n).phase) ∧ w = w' := by
 obtain ⟨B, h1, h2, h3⟩ := h.fst; have := wardPhase_any H B g1 p S n w h1; rw [show phaseF S n = (S.t n).phase from by unfold phaseF; rw [if_neg (by omega)]; simp] at this; exact this
theorem two_log (h : TwoAt w H p g1 g2 S X) :
  Calls Tryz.prog 28 #[.pointer (some ⟨g1, 0, none⟩)] w fun e w' => ∃ A c, e = .returned (.slice A S.log.length c) ∧ LogSl w' w.heap.size (.slice A S.log.length c) S.log ∧ Below w.heap.size w w' := by
 obtain ⟨B, h1, h2, h3⟩ := h.fst; exact wardLog_any H B g1 p S w h1
end
structure EnterR (w w' : World) (H : Nat) (B : Nat → Prop) (g : Nat) (p : PolD) (L : Nat) (n : Int) (b : Bool) (S : WardS) : Prop where
 at' : WardAt w' H B g p S
 fr : Frame B w w'
 good : GoodS S (L + 91)
 safe : SafeA p S
 ok : S.m.ok
 ph : b = true → 0 ≤ n ∧ n < 3 ∧ (S.t n.toNat).phase = 3
def EnterE (w : World) (H : Nat) (B : Nat → Prop) (g : Nat) (p : PolD) (L : Nat) (n : Int) (e : Ending) (w' : World) : Prop := ∃ b S, e = .returned (.bool b) ∧ EnterR w w' H B g p L n b S
set_option linter.unusedSimpArgs false in
set_option maxRecDepth 100000 in
set_option maxHeartbeats 8000000 in
theorem entered_any (H : Nat) (B : Nat → Prop) (g : Nat) (p : PolD) (S : WardS) (L : Nat) (n : Int) (c : CallD) (w : World) (h : WardAt w H B g p S) (hf : polF p = 0) (hG : GoodS S L) (hA : SafeA p S) (hok : S.m.ok) (hL : L + 91 < 1000000) (hBs : ∀ k, w.heap.size ≤ k → B k) (hc : c.ok) :
  Calls Tryz.prog 33 #[.pointer (some ⟨g, 0, none⟩), .int .i64 n, c.v] w fun e w' => EnterE w H B g p L n e w' := by
 have HEN := Lib.hid (fun W (hW : WardAt W H B g p S) => wardEnter_any H B g p S n c W hW hc); obtain ⟨arch, cnr, a0, a1, a2, a3⟩ := c; unfold CallD.v at HEN ⊢; simp only at HEN ⊢; obtain ⟨W0, hW0⟩ : ∃ W0, w.alloc (.cells #[.int .u32 arch, .int .u32 cnr, .int .u64 a0, .int .u64 a1, .int .u64 a2, .int .u64 a3] 52) = W0 := ⟨_, rfl⟩
 have hb0 : Below w.heap.size w W0 := by rw [← hW0]; exact (Below.refl _ _).alloc (Nat.le_refl _) _
 have hcc : W0.heap[w.heap.size]? = some (.cells #[.int .u32 arch, .int .u32 cnr, .int .u64 a0, .int .u64 a1, .int .u64 a2, .int .u64 a3] 52) := by rw [← hW0]; exact heap_alloc_new w _
 obtain ⟨t0, t1, t2, t3, t4, t5⟩ := tcrow6 hcc; have HF0 : Hid (Frame B w W0) := Frame.of_below hb0; have HWA := Lib.hid (h.below hb0); have HSZ : Hid (∀ W, Frame B w W → ∀ k, W.heap.size ≤ k → B k) := fun W hF k hk => hBs k (Nat.le_trans hF.size hk); have HG := Lib.hid hG; have HA := Lib.hid (And.intro hA hok); have HFP := Lib.hid hf; clear hcc hb0 hG hA hok hf hBs hc h
 by_cases hr : n < 0 ∨ 3 ≤ n
 ·have HE : Hid (∀ w', WardAt w' H B g p S → Frame B w w' → EnterE w H B g p L n (.returned (.bool false)) w') := fun w' k1 k2 => ⟨false, S, rfl, k1, k2, HG.out.mono (by omega), HA.out.1, HA.out.2, fun e => by cases e⟩
  clear HEN
  by_cases h0 : n < 0
  ·clear hr; go_enter Tryz.func33, Tryz.ntmps33; go_upto_region 1 with fail
   (try rw [hW0])
   go_wp2_with fail; go_ret; exact HE.out _ HWA.out HF0.out
  ·have h3 : 3 ≤ n := by omega
   clear hr; go_enter Tryz.func33, Tryz.ntmps33; go_upto_region 1 with fail
   (try rw [hW0])
   go_wp2_with fail; go_ret; exact HE.out _ HWA.out HF0.out
 ·obtain ⟨m, rfl⟩ : ∃ m : Nat, n = m := ⟨n.toNat, by omega⟩
  have hm : m < 3 := by omega
  have y1 : ¬ (m : Int) < 0 := by omega
  have y2 : ¬ (3 : Int) ≤ (m : Int) := by omega
  clear hr; have HEN1 := Lib.hid (HEN.out W0 HWA.out); have HES : Hid (GoodS (enterS S m ⟨arch, cnr, a0, a1, a2, a3⟩) L ∧ SafeA p (enterS S m ⟨arch, cnr, a0, a1, a2, a3⟩) ∧ (enterS S m ⟨arch, cnr, a0, a1, a2, a3⟩).m.ok) := ⟨good_enterS HG.out _ _, safeA_enter HA.out.1 HG.out.thr _ _, by rw [enter_m]; exact HA.out.2⟩
  clear HEN HG HA HWA; generalize enterS S m ⟨arch, cnr, a0, a1, a2, a3⟩ = S1 at *
  by_cases he : enterE S m = 0
  ·rw [he, errV_zero] at HEN1; clear he; go_enter Tryz.func33, Tryz.ntmps33; go_upto_region 1 with fail
   (try rw [hW0])
   go_upto_region 3 with (first
    | (go_at_call 18; refine cargs (by simp [Act.eval]) (HEN1.out.mono ?_); rintro e w5 ⟨rfl, h5, f5⟩; have HW5 := Lib.hid h5; have HF5 := Lib.hid (HF0.out.trans f5); clear h5 f5)
    | fail)
   clear HEN1 t0 t1 t2 t3 t4 t5 hW0 HF0
   go_wp2_with fail
   go_loopw [7] (fun iv wr => ∃ (k : Nat) (S2 : WardS), k ≤ 90 ∧ iv = .int .i64 (k : Int) ∧ Hid (WardAt wr H B g p S2) ∧ Hid (Frame B w wr) ∧ Hid (GoodS S2 (L + k) ∧ SafeA p S2 ∧ S2.m.ok)) (fun iv _ => 90 - (intOf iv).toNat)
   case atStart => exact ⟨0, S1, by omega, rfl, HW5, HF5, HES⟩
   case round =>
    clear HW5 HF5 HES; obtain ⟨k, S2, hk, rfl, HW, HF, HS⟩ := hrel; have HP := Lib.hid (wardPhase_any H B g p S2 m wr HW.out); rw [show phaseF S2 m = (S2.t m).phase from by unfold phaseF; rw [if_neg (by omega)]; simp] at HP; have HST := Lib.hid (wardStep_any H B g p S2 m wr HW.out HFP.out HS.out.1.inv (HSZ.out wr HF.out) (by have := HS.out.1.few; omega))
    have HSN : Hid (GoodS (stepS p S2 m) (L + (k + 1)) ∧ SafeA p (stepS p S2 m) ∧ (stepS p S2 m).m.ok) := by
     obtain ⟨q1, q2⟩ := safeA_stepI HFP.out HS.out.2.1 HS.out.2.2 HS.out.1.thr m; exact ⟨good_step HFP.out HS.out.1 m, q1, q2⟩
    have HEN2 : Hid (∀ b : Bool, (b = true → (S2.t m).phase = 3) → EnterE w H B g p L m (.returned (.bool b)) wr) := fun b hb => ⟨b, S2, rfl, HW.out, HF.out, HS.out.1.mono (by omega), HS.out.2.1, HS.out.2.2, fun e => ⟨by omega, by omega, by simpa using hb e⟩⟩
    clear HS HW; generalize stepS p S2 m = S3 at *
    by_cases hlt : k < 90
    ·have z1 : (k : Int) < 90 := by omega
     by_cases e1 : (S2.t m).phase = 1
     ·rw [e1] at HP; clear HEN2
      go_wp2_with (first
       | (go_at_call 29; refine cargs (by simp [Act.eval]) (HP.out.mono ?_); rintro e w8 ⟨rfl, rfl⟩)
       | (go_at_call 19; refine cargs (by simp [Act.eval]) (HST.out.mono ?_); rintro e w9 ⟨rfl, h9, f9⟩; have HW9 := Lib.hid h9; have HF9 := Lib.hid (HF.out.trans f9); clear h9 f9)
       | fail)
      go_roundw
      case rel => exact ⟨k + 1, S3, by omega, by go_num, HW9, HF9, HSN⟩
      case measure => simp [intOf]; omega
     ·by_cases e2 : (S2.t m).phase = 2
      ·rw [e2] at HP; clear HEN2 e1
       go_wp2_with (first
        | (go_at_call 29; refine cargs (by simp [Act.eval]) (HP.out.mono ?_); rintro e w8 ⟨rfl, rfl⟩)
        | (go_at_call 19; refine cargs (by simp [Act.eval]) (HST.out.mono ?_); rintro e w9 ⟨rfl, h9, f9⟩; have HW9 := Lib.hid h9; have HF9 := Lib.hid (HF.out.trans f9); clear h9 f9)
        | fail)
       go_roundw
       case rel => exact ⟨k + 1, S3, by omega, by go_num, HW9, HF9, HSN⟩
       case measure => simp [intOf]; omega
      ·clear HST HSN; generalize (S2.t m).phase = ph at *
       by_cases e3 : ph = 3
       ·subst e3
        go_wp2_with (first
         | (go_at_call 29; refine cargs (by simp [Act.eval]) (HP.out.mono ?_); rintro e w8 ⟨rfl, rfl⟩)
         | fail)
        go_ret; exact HEN2.out true (fun _ => by trivial)
       ·go_wp2_with (first
         | (go_at_call 29; refine cargs (by simp [Act.eval]) (HP.out.mono ?_); rintro e w8 ⟨rfl, rfl⟩)
         | fail)
        go_ret
        first | exact HEN2.out (ph == 3) (fun e => by simpa using e) | exact HEN2.out (decide (ph = 3)) (fun e => by simpa using e) | exact HEN2.out false (fun e => by cases e)
    ·obtain rfl : k = 90 := by omega
     have z1 : ¬ ((90 : Nat) : Int) < 90 := by omega
     clear HST HSN; generalize (S2.t m).phase = ph at *
     by_cases e3 : ph = 3
     ·subst e3
      go_wp2_with (first
       | (go_at_call 29; refine cargs (by simp [Act.eval]) (HP.out.mono ?_); rintro e w8 ⟨rfl, rfl⟩)
       | fail)
      go_ret; exact HEN2.out true (fun _ => by trivial)
     ·go_wp2_with (first
       | (go_at_call 29; refine cargs (by simp [Act.eval]) (HP.out.mono ?_); rintro e w8 ⟨rfl, rfl⟩)
       | fail)
      go_ret
      first | exact HEN2.out (ph == 3) (fun e => by simpa using e) | exact HEN2.out (decide (ph = 3)) (fun e => by simpa using e) | exact HEN2.out false (fun e => by cases e)
  ·obtain ⟨f, hfe⟩ : ∃ f, enterE S m = f := ⟨_, rfl⟩
   have hne : f ≠ 0 := by rw [← hfe]; exact he
   rw [hfe, errV_pos hne] at HEN1; have HE : Hid (∀ w', WardAt w' H B g p S1 → Frame B w w' → EnterE w H B g p L m (.returned (.bool false)) w') := fun w' k1 k2 => ⟨false, S1, rfl, k1, k2, HES.out.1.mono (by omega), HES.out.2.1, HES.out.2.2, fun e => by cases e⟩
   clear he hfe hne HES; go_enter Tryz.func33, Tryz.ntmps33; go_upto_region 1 with fail
   (try rw [hW0])
   go_wp2_with (first
    | (go_at_call 18; refine cargs (by simp [Act.eval]) (HEN1.out.mono ?_); rintro e w5 ⟨rfl, h5, f5⟩; have HW5 := Lib.hid h5; have HF5 := Lib.hid (HF0.out.trans f5); clear h5 f5)
    | fail)
   go_ret; exact HE.out _ HW5.out HF5.out
end Go.Proofs.YtmgngapkgcofnabGreatDoor
namespace Go.Proofs.YtmgngapkgcofnabGreatDoor
open Go.RowKit Go.PlainAid
theorem eq_regsD (d : Nat) (a0 a1 a2 a3 : Int) (w : World) : (Op.equalIn (d + 2) 50 (.agg #[.int .u64 a0, .int .u64 a1, .int .u64 a2, .int .u64 a3]) (.agg #[.int .u64 a0, .int .u64 a1, .int .u64 a2, .int .u64 a3])).run Tryz.prog w = .ok true w := by
 have u3 := Tryz.underlying42; have a3 := Tryz.isAgg42; have z3 := Tryz.sizeOf42; rw [show d + 2 = (d + 1) + 1 from rfl, Op.equalIn]; simp only [Sem.run_bind, run_underlying Tryz.underlying50, Result.andThen_ok]
 simp only [Std.Legacy.Range.forIn_eq_forIn_range', Std.Legacy.Range.size, Nat.sub_zero, Nat.add_sub_cancel, Nat.div_one, List.range'_succ, List.range'_zero, List.forIn_cons, List.forIn_nil]
 go_simp
theorem eq_val (d : Nat) (p : ByteArray) (i q : Int) (w : World) : (Op.equalIn (d + 2) 76 (.agg #[.string p, .int .u32 i, .int .i64 q]) (.agg #[.string p, .int .u32 i, .int .i64 q])).run Tryz.prog w = .ok true w := by
 have u1 := Tryz.underlying9; have u2 := Tryz.underlying43; have u3 := Tryz.underlying3; have b1 := Tryz.isAgg9; have b2 := Tryz.isAgg43; have b3 := Tryz.isAgg3; rw [show d + 2 = (d + 1) + 1 from rfl, run_equalIn_struct w (d + 1) 76 _ _ (by kernel_rfl) (by kernel_rfl)]; simp only [Program.fieldsOf, Tryz.underlying76]
 go_simp
theorem eq_call (d : Nat) (x n a0 a1 a2 a3 : Int) (w : World) : (Op.equalIn (d + 3) 52 (.agg #[.int .u32 x, .int .u32 n, .int .u64 a0, .int .u64 a1, .int .u64 a2, .int .u64 a3]) (.agg #[.int .u32 x, .int .u32 n, .int .u64 a0, .int .u64 a1, .int .u64 a2, .int .u64 a3])).run Tryz.prog w = .ok true w := by
 have u2 := Tryz.underlying43; have b2 := Tryz.isAgg43; have hr := eq_regsD d a0 a1 a2 a3; rw [show d + 3 = (d + 2) + 1 from rfl, run_equalIn_struct w (d + 2) 52 _ _ (by kernel_rfl) (by kernel_rfl)]; simp only [Program.fieldsOf, Tryz.underlying52]
 go_simp
theorem eq_vals (d : Nat) (p0 : ByteArray) (i0 q0 : Int) (p1 : ByteArray) (i1 q1 : Int) (p2 : ByteArray) (i2 q2 : Int) (p3 : ByteArray) (i3 q3 : Int) (w : World) :
  (Op.equalIn (d + 3) 78 (.agg #[.string p0, .int .u32 i0, .int .i64 q0, .string p1, .int .u32 i1, .int .i64 q1, .string p2, .int .u32 i2, .int .i64 q2, .string p3, .int .u32 i3, .int .i64 q3]) (.agg #[.string p0, .int .u32 i0, .int .i64 q0, .string p1, .int .u32 i1, .int .i64 q1, .string p2, .int .u32 i2, .int .i64 q2, .string p3, .int .u32 i3, .int .i64 q3])).run Tryz.prog w = .ok true w := by
 have z3 := Tryz.sizeOf76; have a3 := Tryz.isAgg76; have h0 := eq_val d p0 i0 q0; have h1 := eq_val d p1 i1 q1; have h2 := eq_val d p2 i2 q2; have h3 := eq_val d p3 i3 q3; rw [show d + 3 = (d + 2) + 1 from rfl, Op.equalIn]; simp only [Sem.run_bind, run_underlying Tryz.underlying78, Result.andThen_ok]
 simp only [Std.Legacy.Range.forIn_eq_forIn_range', Std.Legacy.Range.size, Nat.sub_zero, Nat.add_sub_cancel, Nat.div_one, List.range'_succ, List.range'_zero, List.forIn_cons, List.forIn_nil]
 go_simp
theorem eq_entry (kd : Int) (th : Nat) (x n a0 a1 a2 a3 : Int) (p0 : ByteArray) (i0 q0 : Int) (p1 : ByteArray) (i1 q1 : Int) (p2 : ByteArray) (i2 q2 : Int) (p3 : ByteArray) (i3 q3 : Int) (er : Int) (w : World) :
  (Op.equalIn 10000 80 (.agg #[.int .i64 kd, .int .i64 (th : Int), .int .u32 x, .int .u32 n, .int .u64 a0, .int .u64 a1, .int .u64 a2, .int .u64 a3, .string p0, .int .u32 i0, .int .i64 q0, .string p1, .int .u32 i1, .int .i64 q1, .string p2, .int .u32 i2, .int .i64 q2, .string p3, .int .u32 i3, .int .i64 q3, .int .i64 er]) (.agg #[.int .i64 kd, .int .i64 (th : Int), .int .u32 x, .int .u32 n, .int .u64 a0, .int .u64 a1, .int .u64 a2, .int .u64 a3, .string p0, .int .u32 i0, .int .i64 q0, .string p1, .int .u32 i1, .int .i64 q1, .string p2, .int .u32 i2, .int .i64 q2, .string p3, .int .u32 i3, .int .i64 q3, .int .i64 er])).run Tryz.prog w = .ok true w := by
 have u3 := Tryz.underlying3; have b3 := Tryz.isAgg3; have hc := eq_call 9996 x n a0 a1 a2 a3; have hv := eq_vals 9996 p0 i0 q0 p1 i1 q1 p2 i2 q2 p3 i3 q3; rw [show (10000 : Nat) = 9999 + 1 from rfl, run_equalIn_struct w 9999 80 _ _ (by kernel_rfl) (by kernel_rfl)]; simp only [Program.fieldsOf, Tryz.underlying80]
 go_simp
theorem quiet_load {P : Program} {ops : Array Oper} {C : World → Prop} {Q : Act → Prop} {a : Act} {o : Oper} {rest : List Oper} (hgd : o.guard = none) (ty : TypeId) (x : Operand) (ho : o.op = .load ty x) (p : Value) (hx : a.eval x = p) (v : Value) (hl : ∀ w, C w → (Instr.loadAt ty p).run P w = .ok v w) (h : wpQuiet P ops C Q rest (a.put o.dst v)) : wpQuiet P ops C Q (o :: rest) a :=
 wpQuiet_step fun K hK => by
  have hw : Region.wanted o (yielded ops a.tmps) = true := by simp [Region.wanted, hgd]
  rw [if_pos hw]; exact ⟨v, fun w hw => by unfold Oper.quietAt execOp; simp only [ho, hx, Sem.run_bind, hl w hw, Result.andThen_ok, Sem.run_pure]; exact ⟨rfl, rfl⟩, hK _ h⟩
theorem ent_size : (Tryz.prog.info? 80).map (·.size) = some 21 := by kernel_rfl
theorem rangeAt_drewN {w : World} {b o : Nat} {cs : List Value} (h : w.rangeAt b o cs) (m : Nat) : (w.drewN m).rangeAt b o cs := h
set_option linter.unusedSimpArgs false in
set_option maxRecDepth 100000 in
set_option maxHeartbeats 8000000 in
theorem sameLog_any (H1 H2 : Nat) (v1 v2 : Value) (l : List EntD) (w : World) (h1 : LogSl w H1 v1 l) (h2 : LogSl w H2 v2 l) (hl : l.length ≤ 1000000) :
  Calls Tryz.prog 34 #[v1, v2] w fun e w' => e = .returned (.bool true) ∧ Below w.heap.size w w' := by
 obtain ⟨A1, c1, rfl⟩ := own_form2 h1; obtain ⟨A2, c2, rfl⟩ := own_form2 h2; have H1 := Lib.hid h1; have H2 := Lib.hid h2; have HB0 : Hid (Below w.heap.size w w) := Below.refl _ _; clear h1 h2; go_enter Tryz.func34, Tryz.ntmps34
 go_wp2_with fail
 go_loopw [5] (fun iv wr => ∃ i : Nat, i ≤ l.length ∧ iv = .int .i64 i ∧ Hid (Below w.heap.size w wr)) (fun iv _ => l.length - (intOf iv).toNat)
 case atStart => exact ⟨0, Nat.zero_le _, rfl, HB0⟩
 case round =>
  clear HB0; obtain ⟨i, hi, rfl, HB⟩ := hrel
  by_cases hlt : i < l.length
  ·have z1 : (i : Int) < (l.length : Int) := by omega
   have z2 : (0 : Int) ≤ (i : Int) := by omega
   have hx : l[i]? = some l[i] := by simp
   obtain ⟨b1, rfl, k1, r1⟩ := logSl_cells H1.out hx; obtain ⟨b2, rfl, k2, r2⟩ := logSl_cells H2.out hx; have r1 := rangeAt_below r1 HB.out k1; have r2 := rangeAt_below r2 HB.out k2; clear H1 H2 hx k1 k2; obtain ⟨R, hR⟩ : ∃ R : List Value, entCells l[i] = R := ⟨_, rfl⟩
   have HE : ∀ W : World, (binOp .neq 80 (.agg R.toArray) (.agg R.toArray)).run Tryz.prog W = .ok (.bool false) W := fun W => by
    rw [← hR, run_neq_struct]; generalize l[i] = en; obtain ⟨kd, th, ⟨x, n, a0, a1, a2, a3⟩, ⟨⟨p0, i0, q0⟩, ⟨p1, i1, q1⟩, ⟨p2, i2, q2⟩, ⟨p3, i3, q3⟩⟩, er⟩ := en; have := eq_entry kd th x n a0 a1 a2 a3 p0 i0 q0 p1 i1 q1 p2 i2 q2 p3 i3 q3 er W; simp only [entCells, callCells, valsCells, List.cons_append, List.nil_append]; rw [this]; rfl
   have hRl : R.length = 21 := by rw [← hR]; exact entCells_len _
   rw [hR] at r1 r2; have LD1 : ∀ m, (loadVar 80 ⟨b1, i * 21, none⟩).run Tryz.prog (wr.drewN m) = .ok (.agg R.toArray) (wr.drewN m) := fun m => run_loadVar_mid (wr.drewN m) b1 (i * 21) 80 R _ (rangeAt_drewN r1 m) Tryz.underlying80 rfl (by rw [hRl]; exact ent_size)
   have LD2 : ∀ m, (loadVar 80 ⟨b2, i * 21, none⟩).run Tryz.prog (wr.drewN m) = .ok (.agg R.toArray) (wr.drewN m) := fun m => run_loadVar_mid (wr.drewN m) b2 (i * 21) 80 R _ (rangeAt_drewN r2 m) Tryz.underlying80 rfl (by rw [hRl]; exact ent_size)
   have LE1 : ∀ m, (Instr.loadAt 80 (.pointer (some ⟨b1, i * 21, none⟩))).run Tryz.prog (wr.drewN m) = .ok (.agg R.toArray) (wr.drewN m) := fun m => run_loadAt_mid (wr.drewN m) b1 (i * 21) 80 R _ (rangeAt_drewN r1 m) Tryz.underlying80 rfl (by rw [hRl]; exact ent_size)
   have LE2 : ∀ m, (Instr.loadAt 80 (.pointer (some ⟨b2, i * 21, none⟩))).run Tryz.prog (wr.drewN m) = .ok (.agg R.toArray) (wr.drewN m) := fun m => run_loadAt_mid (wr.drewN m) b2 (i * 21) 80 R _ (rangeAt_drewN r2 m) Tryz.underlying80 rfl (by rw [hRl]; exact ent_size); clear hR hRl
   have HDN : Hid (∀ m, Below w.heap.size w (wr.drewN m)) := fun m => HB.out.trans ⟨(Below.refl w.heap.size wr).os, (Below.refl w.heap.size wr).tape, (Below.refl w.heap.size wr).output, Nat.le_refl _, fun _ _ => rfl⟩; clear r1 r2; go_upto_region 6 with fail; refine wp_region_quiet_lit (by kernel_rfl) (by kernel_rfl) ?_
   repeat (quiet_step (fail))
   refine quiet_load rfl 80 (.tmp 19) rfl (.pointer (some ⟨b1, i * 21, none⟩)) (by simp [Act.eval]) (.agg R.toArray) (fun W hW => by obtain ⟨m, rfl⟩ := hW; exact LE1 m) ?_; simp only [Act.put, List.setIfInBounds_toArray, List.set_cons_zero, List.set_cons_succ]
   repeat (quiet_step (fail))
   refine quiet_load rfl 80 (.tmp 23) rfl (.pointer (some ⟨b2, i * 21, none⟩)) (by simp [Act.eval]) (.agg R.toArray) (fun W hW => by obtain ⟨m, rfl⟩ := hW; exact LE2 m) ?_; simp only [Act.put, List.setIfInBounds_toArray, List.set_cons_zero, List.set_cons_succ]
   repeat (quiet_step (fail))
   refine wpQuiet_nil ?_; intro _ hw'; obtain ⟨nq, hw''⟩ := hw'; subst hw''
   go_wp2_with fail; go_roundw
   case rel => exact ⟨i + 1, by omega, by go_num, HDN.out nq⟩
   case measure => simp [intOf]; omega
  ·obtain rfl : i = l.length := by omega
   have z1 : ¬ (l.length : Int) < (l.length : Int) := by omega
   go_wp2_with fail; go_ret; exact ⟨rfl, HB.out⟩
end Go.Proofs.YtmgngapkgcofnabGreatDoor
namespace Go.Proofs.YtmgngapkgcofnabGreatDoor
open Go.RowKit Go.PlainAid
theorem heaps2 (w : World) (o1 o2 : Obj) (W : World) (h : Below ((w.alloc o1).alloc o2).heap.size ((w.alloc o1).alloc o2) W) :
  Below w.heap.size w W ∧ W.heap[w.heap.size]? = some o1 ∧ W.heap[w.heap.size + 1]? = some o2 := by
 obtain ⟨h3, h4⟩ : Below (w.alloc o1).heap.size (w.alloc o1) W ∧ W.heap[w.heap.size + 1]? = some o2 := by
  refine ⟨((Below.refl _ _).alloc (Nat.le_refl _) o2).trans (h.mono (by simp)), ?_⟩; have := heap_alloc_new (w.alloc o1) o2; have e : (w.alloc o1).heap.size = w.heap.size + 1 := by simp
  rw [e] at this; exact (h.block _ (by simp)).trans this
 exact ⟨((Below.refl _ _).alloc (Nat.le_refl _) o1).trans (h3.mono (by simp)), (h3.block _ (by simp)).trans (heap_alloc_new w o1), h4⟩
set_option linter.unusedSimpArgs false in
set_option maxRecDepth 100000 in
set_option maxHeartbeats 16000000 in
theorem topLate_walk (HN : NumSaid) (v0 v1 v4 : Value) (p : PolD) (l1 l4 : List ActD) (n : Int) (c : CallD) (w : World) (hS : Shelf0 w) (h0 : PolAt w w.heap.size v0 p) (h1 : ActsSl w w.heap.size v1 l1) (h4 : ActsSl w w.heap.size v4 l4) (hc : c.ok) :
  Calls Tryz.prog 7 #[v0, v1, .int .i64 n, c.v, v4] w fun e w' => e = .returned (.bool true) ∧ Below w.heap.size w w' := by
 have hpol := h0; obtain ⟨A, cp, rfl, _⟩ := h0; obtain ⟨A1, c1, rfl, hok1, hat1⟩ := acts_at h1; obtain ⟨A4, c4, rfl, hok4, hat4⟩ := acts_at h4; obtain ⟨b0, hb0⟩ : ∃ b0, lightP p = b0 := ⟨_, rfl⟩
 obtain ⟨b1, hb1⟩ : ∃ b1, lightF l1 40 = b1 := ⟨_, rfl⟩
 obtain ⟨b2, hb2⟩ : ∃ b2, lightF l4 40 = b2 := ⟨_, rfl⟩
 have HLP : Hid (∀ W, Below w.heap.size w W → Calls Tryz.prog 9 #[.agg #[.slice A p.rules.length cp, .int .i64 p.kind, .int .i64 p.errno]] W fun e w' => e = .returned (.bool b0) ∧ Below W.heap.size W w') := fun W hb => by rw [← hb0]; exact lightPolicy_any _ _ W (polAt_up hpol hb)
 have HL1 : Hid (∀ W, Below w.heap.size w W → Calls Tryz.prog 10 #[.slice A1 l1.length c1, .int .i64 40] W fun e w' => e = .returned (.bool b1) ∧ W = w') := fun W hb => by rw [← hb1]; exact light_any _ _ _ W ((h1.below hb).mono hb.size) (by omega)
 have HL4 : Hid (∀ W, Below w.heap.size w W → Calls Tryz.prog 10 #[.slice A4 l4.length c4, .int .i64 40] W fun e w' => e = .returned (.bool b2) ∧ W = w') := fun W hb => by rw [← hb2]; exact light_any _ _ _ W ((h4.below hb).mono hb.size) (by omega)
 have HNW : Hid (∀ W, Below w.heap.size w W → b0 = true → Calls Tryz.prog 12 #[.agg #[.slice A p.rules.length cp, .int .i64 p.kind, .int .i64 p.errno]] W fun e w' => Below W.heap.size W w' ∧ ((polF p ≠ 0 ∧ e = .returned (.tuple #[.pointer none, errV (polF p)])) ∨ (polF p = 0 ∧ ∃ g H, e = .returned (.tuple #[.pointer (some ⟨g, 0, none⟩), .nilIface]) ∧ W.heap.size ≤ H ∧ WardAt w' H (fun k => H ≤ k) g p WardS.new))) := fun W hb hb2 => by
  obtain ⟨g1, g2, g3⟩ := tlight_bounds (hb0.trans hb2); exact wardNew_any HN _ p W (polAt_up hpol hb) (hS.up hb) g1 g2 g3
 have HLL : Hid (b1 = true → b2 = true → l1.length ≤ 40 ∧ l4.length ≤ 40 ∧ (∀ x ∈ l1, x.s.size ≤ 200) ∧ ∀ x ∈ l4, x.s.size ≤ 200) := fun k1 k2 => by
  obtain ⟨q1, q2⟩ := lightF_len (hb1.trans k1); obtain ⟨q3, q4⟩ := lightF_len (hb2.trans k2); exact ⟨by omega, by omega, q2, q4⟩
 have HAT1 := Lib.hid hat1; have HAT4 := Lib.hid hat4; have HOK1 := Lib.hid hok1; have HOK4 := Lib.hid hok4; have HC := Lib.hid hc; clear hpol h1 h4 hS hb0 hb1 hb2 hat1 hat4 hok1 hok4 hc; obtain ⟨arch, cnr, a0, a1, a2, a3⟩ := c; unfold CallD.v; simp only
 have HIN := Lib.hid (heaps2 w (.cells #[.slice A p.rules.length cp, .int .i64 p.kind, .int .i64 p.errno] 26) (.cells #[.int .u32 arch, .int .u32 cnr, .int .u64 a0, .int .u64 a1, .int .u64 a2, .int .u64 a3] 52))
 have HB0 : Hid (Below ((w.alloc (.cells #[.slice A p.rules.length cp, .int .i64 p.kind, .int .i64 p.errno] 26)).alloc (.cells #[.int .u32 arch, .int .u32 cnr, .int .u64 a0, .int .u64 a1, .int .u64 a2, .int .u64 a3] 52)).heap.size ((w.alloc (.cells #[.slice A p.rules.length cp, .int .i64 p.kind, .int .i64 p.errno] 26)).alloc (.cells #[.int .u32 arch, .int .u32 cnr, .int .u64 a0, .int .u64 a1, .int .u64 a2, .int .u64 a3] 52)) ((w.alloc (.cells #[.slice A p.rules.length cp, .int .i64 p.kind, .int .i64 p.errno] 26)).alloc (.cells #[.int .u32 arch, .int .u32 cnr, .int .u64 a0, .int .u64 a1, .int .u64 a2, .int .u64 a3] 52))) := Below.refl _ _
 cases b0 with
 | false =>
  as_aux_lemma =>
   clear HL1 HL4 HNW HLL HAT1 HAT4 HOK1 HOK4 HC; go_enter Tryz.func7, Tryz.ntmps7; go_upto_region 1 with fail; generalize ((w.alloc (.cells #[.slice A p.rules.length cp, .int .i64 p.kind, .int .i64 p.errno] 26)).alloc (.cells #[.int .u32 arch, .int .u32 cnr, .int .u64 a0, .int .u64 a1, .int .u64 a2, .int .u64 a3] 52)) = W0 at *
   obtain ⟨hbl, hpp, hcc⟩ := HIN.out W0 HB0.out; have HBL := Lib.hid hbl; obtain ⟨s0, s1, s2⟩ := tcrow3 hpp; clear hpp hcc hbl
   go_wp2_with (first | (go_at_call 9; refine cargs (by simp [Act.eval]) ((HLP.out _ HBL.out).mono ?_); rintro e w1 ⟨rfl, hq⟩; have HB1 := Lib.hid (HB0.out.trans hq); have HBL1 := Lib.hid (HBL.out.trans (hq.mono HBL.out.size)); clear hq) | fail)
   go_ret; exact ⟨rfl, HBL1.out⟩
 | true =>
  cases b1 with
  | false =>
   as_aux_lemma =>
    clear HL4 HNW HLL HAT1 HAT4 HOK1 HOK4 HC; go_enter Tryz.func7, Tryz.ntmps7; go_upto_region 1 with fail; generalize ((w.alloc (.cells #[.slice A p.rules.length cp, .int .i64 p.kind, .int .i64 p.errno] 26)).alloc (.cells #[.int .u32 arch, .int .u32 cnr, .int .u64 a0, .int .u64 a1, .int .u64 a2, .int .u64 a3] 52)) = W0 at *
    obtain ⟨hbl, hpp, hcc⟩ := HIN.out W0 HB0.out; have HBL := Lib.hid hbl; obtain ⟨s0, s1, s2⟩ := tcrow3 hpp; clear hpp hcc hbl
    go_wp2_with (first | (go_at_call 9; refine cargs (by simp [Act.eval]) ((HLP.out _ HBL.out).mono ?_); rintro e w1 ⟨rfl, hq⟩; have HB1 := Lib.hid (HB0.out.trans hq); have HBL1 := Lib.hid (HBL.out.trans (hq.mono HBL.out.size)); clear hq) | (go_at_call 10; refine cargs (by first | (simp [Act.eval]; done) | fail) ((HL1.out _ HBL1.out).mono ?_); rintro e w2 ⟨rfl, rfl⟩; clear HL1) | fail)
    go_ret; exact ⟨rfl, HBL1.out⟩
  | true =>
   cases b2 with
   | false =>
    as_aux_lemma =>
     clear HNW HLL HAT1 HAT4 HOK1 HOK4 HC; go_enter Tryz.func7, Tryz.ntmps7; go_upto_region 1 with fail; generalize ((w.alloc (.cells #[.slice A p.rules.length cp, .int .i64 p.kind, .int .i64 p.errno] 26)).alloc (.cells #[.int .u32 arch, .int .u32 cnr, .int .u64 a0, .int .u64 a1, .int .u64 a2, .int .u64 a3] 52)) = W0 at *
     obtain ⟨hbl, hpp, hcc⟩ := HIN.out W0 HB0.out; have HBL := Lib.hid hbl; obtain ⟨s0, s1, s2⟩ := tcrow3 hpp; clear hpp hcc hbl
     go_wp2_with (first | (go_at_call 9; refine cargs (by simp [Act.eval]) ((HLP.out _ HBL.out).mono ?_); rintro e w1 ⟨rfl, hq⟩; have HB1 := Lib.hid (HB0.out.trans hq); have HBL1 := Lib.hid (HBL.out.trans (hq.mono HBL.out.size)); clear hq) | (go_at_call 10; refine cargs (by first | (simp [Act.eval]; done) | fail) ((HL1.out _ HBL1.out).mono ?_); rintro e w2 ⟨rfl, rfl⟩; clear HL1) | (go_at_call 10; refine cargs (by first | (simp [Act.eval]; done) | fail) ((HL4.out _ HBL1.out).mono ?_); rintro e w4 ⟨rfl, rfl⟩) | fail)
     go_ret; exact ⟨rfl, HBL1.out⟩
   | true =>
    as_aux_lemma =>
     obtain ⟨n1, n4, sm1, sm4⟩ := HLL.out rfl rfl
     by_cases hf : polF p = 0
     ·have HFP := Lib.hid hf; clear hf HLL; go_enter Tryz.func7, Tryz.ntmps7; go_upto_region 1 with fail; generalize ((w.alloc (.cells #[.slice A p.rules.length cp, .int .i64 p.kind, .int .i64 p.errno] 26)).alloc (.cells #[.int .u32 arch, .int .u32 cnr, .int .u64 a0, .int .u64 a1, .int .u64 a2, .int .u64 a3] 52)) = W0 at *
      obtain ⟨hbl, hpp, hcc⟩ := HIN.out W0 HB0.out; have HBL := Lib.hid hbl; obtain ⟨s0, s1, s2⟩ := tcrow3 hpp; clear hpp hcc hbl
      go_upto_region 3 with (first | (go_at_call 9; refine cargs (by simp [Act.eval]) ((HLP.out _ HBL.out).mono ?_); rintro e w1 ⟨rfl, hq⟩; have HB1 := Lib.hid (HB0.out.trans hq); have HBL1 := Lib.hid (HBL.out.trans (hq.mono HBL.out.size)); clear hq) | (go_at_call 10; refine cargs (by first | (simp [Act.eval]; done) | fail) ((HL1.out _ HBL1.out).mono ?_); rintro e w2 ⟨rfl, rfl⟩; clear HL1) | (go_at_call 10; refine cargs (by first | (simp [Act.eval]; done) | fail) ((HL4.out _ HBL1.out).mono ?_); rintro e w4 ⟨rfl, rfl⟩) | fail)
      obtain ⟨_, hpp1, hcc1⟩ := HIN.out _ HB1.out; obtain ⟨p0, p1, p2⟩ := tcrow3 hpp1; clear hpp1 hcc1 HLP HL4 s0 s1 s2; have HNW1 := Lib.hid (HNW.out _ HBL1.out (by trivial)); clear HNW
      go_upto_region 8 with (first | (go_at_call 12; refine cargs (by simp [Act.eval]) (HNW1.out.mono ?_); rintro e w3 ⟨hq, hr⟩; obtain ⟨hp0, g, H, rfl, hH, hW⟩ := hr.resolve_left (fun hh => hh.1 HFP.out); have HB3 := Lib.hid (HB1.out.trans (hq.mono HB1.out.size)); have HHH := Lib.hid (Nat.le_trans HB1.out.size hH); have HWA := Lib.hid hW; clear hq hr hp0 hH hW) | fail)
      clear HNW1 p0 p1 p2
      go_wp2_with fail
      go_loopw [13] (fun iv wr => ∃ i : Nat, i ≤ l1.length ∧ iv = .int .i64 i ∧ Hid (WardAt wr H (fun k => H ≤ k) g p (didsS p WardS.new l1 i)) ∧ Hid (Below W0.heap.size W0 wr)) (fun iv _ => l1.length - (intOf iv).toNat)
      case atStart => exact ⟨0, Nat.zero_le _, rfl, HWA, HB3⟩
      case round =>
       obtain ⟨i, hi, rfl, HI, HBI⟩ := hrel; clear HWA HB3 HBL1 HB1 HBL HB0
       by_cases hlt : i < l1.length
       ·have x1 : (i : Int) < (l1.length : Int) := by omega
        have x2 : (0 : Int) ≤ (i : Int) := by omega
        have hl : l1[i]? = some l1[i] := by simp
        obtain ⟨b, o, rfl, hra⟩ := HAT1.out i _ hl; have HRA := Lib.hid (hra wr ((HIN.out wr HBI.out).1)); have HDID := Lib.hid (did_any H (fun k => H ≤ k) g p (didsS p WardS.new l1 i) (90 * i) l1[i] wr HI.out HFP.out ((good_dids HFP.out good_new l1 i).mono (by omega)) (by omega) (fun k hk => Nat.le_trans HI.out.few hk) (HOK1.out _ (by simp)) (by have := sm1 _ (List.getElem_mem hlt); omega))
        have HNX : Hid (∀ w', WardAt w' H (fun k => H ≤ k) g p (didS p (didsS p WardS.new l1 i) l1[i]) → Frame (fun k => H ≤ k) wr w' → Hid (WardAt w' H (fun k => H ≤ k) g p (didsS p WardS.new l1 (i + 1))) ∧ Hid (Below W0.heap.size W0 w')) := fun w' k1 k2 => ⟨by rw [didsS_at hl]; exact k1, HBI.out.trans ((k2.below (fun k hk => hk) HI.out.few).mono HHH.out)⟩
        have HRL : Hid (l1[i].row.length = 11) := rfl; generalize didS p (didsS p WardS.new l1 i) l1[i] = S2 at *
        generalize l1[i].row = R at *
        clear hl hra HAT1 HAT4 HOK1 HOK4 sm1 sm4
        go_wp2_with (first
         | (refine wpList_load_mid rfl 54 (.tmp 51) rfl b (o + i * 11) (by simp [Act.eval, Act.put]) R _ HRA.out Tryz.underlying54 rfl (by rw [HRL.out]; exact tact_info) ?_)
         | (go_at_call 27; refine cargs (by simp [Act.eval]) (HDID.out.mono ?_); rintro e w5 ⟨rfl, hx⟩; have HX := Lib.hid (HNX.out _ hx.1 hx.2); clear hx)
         | fail)
        go_roundw
        case rel => exact ⟨i + 1, by omega, by go_num, HX.out.1, HX.out.2⟩
        case measure => simp [intOf]; omega
       ·obtain rfl : i = l1.length := by omega
        have HG0 : Hid (GoodS (didsS p WardS.new l1 l1.length) 3600 ∧ SafeA p (didsS p WardS.new l1 l1.length) ∧ (didsS p WardS.new l1 l1.length).m.ok) := by
         obtain ⟨_, q2, q3, _⟩ := dids_safe HFP.out l1 l1.length; exact ⟨(good_dids HFP.out good_new l1 _).mono (by omega), q2, q3⟩
        generalize didsS p WardS.new l1 l1.length = S at *
        clear HAT1 HOK1 sm1 hlt hi; have HEN := Lib.hid (entered_any H (fun k => H ≤ k) g p S 3600 n ⟨arch, cnr, a0, a1, a2, a3⟩ wr HI.out HFP.out HG0.out.1 HG0.out.2.1 HG0.out.2.2 (by omega) (fun k hk => Nat.le_trans HI.out.few hk) HC.out); unfold CallD.v at HEN; simp only at HEN
        have HFB : Hid (∀ w', Frame (fun k => H ≤ k) wr w' → Below W0.heap.size W0 w') := fun w' k2 => HBI.out.trans ((k2.below (fun k hk => hk) HI.out.few).mono HHH.out); obtain ⟨_, _, hcc⟩ := HIN.out wr HBI.out; obtain ⟨t0, t1, t2, t3, t4, t5⟩ := tcrow6 hcc; clear hcc HG0 HC HI
        go_upto_region 13 with (first
         | (go_at_call 33; refine cargs (by simp [Act.eval]) (HEN.out.mono ?_); rintro e w5 ⟨eb, S2, rfl, h5⟩; have HE5 := Lib.hid h5; clear h5)
         | fail)
        clear HEN t0 t1 t2 t3 t4 t5 HBI; have HB5 := Lib.hid (HFB.out _ HE5.out.fr); clear HFB
        cases eb with
        | false =>
         have HBW := Lib.hid ((HIN.out _ HB5.out).1); clear HE5 HAT4 HOK4 sm4
         go_wp2_with fail; go_ret; exact ⟨rfl, HBW.out⟩
        | true =>
         obtain ⟨r1, r2, r3⟩ := HE5.out.ph rfl; obtain ⟨m, rfl⟩ : ∃ m : Nat, n = m := ⟨n.toNat, by omega⟩
         have hm : m < 3 := by omega
         have r4 : (S2.t m).phase = 3 := by simpa using r3
         have HLF : Hid (LateR m 3691 S2 S2) := late_first HE5.out.safe HE5.out.good r4; have HWB := Lib.hid HE5.out.at'; have HCP := Lib.hid (wardCopy_any H (fun k => H ≤ k) g p S2 w5 HE5.out.at'); clear r1 r2 r3 r4 HE5
         go_upto_region 18 with (first
          | (go_at_call 16; refine cargs (by simp [Act.eval]) (HCP.out.mono ?_); rintro e w6 ⟨rfl, h6, f6⟩; have HT6 := Lib.hid (two_copy HWB.out f6 h6); have HB6 := Lib.hid (HB5.out.trans (f6.mono HB5.out.size)); clear h6 f6)
          | fail)
         clear HCP HWB HB5; generalize w5.heap.size = x at *
         go_wp2_with fail
         go_loopw [16] (fun iv wr => ∃ (i : Nat) (S X : WardS), i ≤ l4.length ∧ iv = .int .i64 i ∧ Hid (TwoAt wr H p g x S X) ∧ Hid (Below W0.heap.size W0 wr) ∧ Hid (LateR m (3691 + 91 * i) S X)) (fun iv _ => l4.length - (intOf iv).toNat)
         case atStart => exact ⟨0, S2, S2, Nat.zero_le _, rfl, HT6, HB6, HLF⟩
         case round =>
          clear HT6 HB6 HLF; clear S S2; obtain ⟨i, S, X, hi, rfl, HTI, HBI, HLI⟩ := hrel
          by_cases hlt : i < l4.length
          ·have x1 : (i : Int) < (l4.length : Int) := by omega
           have x2 : (0 : Int) ≤ (i : Int) := by omega
           have hl : l4[i]? = some l4[i] := by simp
           obtain ⟨b, o, rfl, hra⟩ := HAT4.out i _ hl; have hra := hra wr ((HIN.out wr HBI.out).1); have z0 : wr.cell? ⟨b, o + i * 11, none⟩ = some (.string l4[i].kind) := hra 0 _ rfl; have HRA := Lib.hid hra; have hsm := sm4 _ (List.getElem_mem hlt); have HXO := Lib.hid (HOK4.out _ (List.getElem_mem hlt)); clear hl hra HAT4 HOK4 sm4; generalize l4[i] = X0 at *
           cases q0 : (X0.kind.toList == ([109, 97, 112] : List UInt8)) with
           | true =>
            as_aux_lemma =>
             have HLR : Hid (LateR m (3691 + 91 * i + 90) (didS p S X0) X) := late_did HFP.out HLI.out (by unfold memAct; rw [q0]; simp); have HDID := Lib.hid (two_did HTI.out HFP.out HLI.out.gs (by omega) X0 HXO.out (by omega)); have HRL : Hid (X0.row.length = 11) := rfl; clear HTI HLI HXO; generalize didS p S X0 = S2 at *
             generalize X0.row = R at *
             go_upto_region 23 with (first
              | (refine wpList_load_mid rfl 54 (.tmp 95) rfl b (o + i * 11) (by simp [Act.eval, Act.put]) R _ HRA.out Tryz.underlying54 rfl (by rw [HRL.out]; exact tact_info) ?_)
              | (go_at_call 27; refine cargs (by simp [Act.eval]) (HDID.out.mono ?_); rintro e w5 ⟨rfl, h5, f5⟩; have HTA := Lib.hid h5; have HBA := Lib.hid (HBI.out.trans (f5.mono HHH.out)); clear h5 f5)
              | fail)
             clear HRA HDID z0 q0
             by_cases h8 : i % 8 = 3
             ·have m1 : (i : Int) % 8 = 3 := by omega
              have m2 : (i : Int).tmod 8 = 3 := by rw [Int.tmod_eq_emod_of_nonneg (by omega)]; omega
              clear h8; have HSW : Hid (∀ W, TwoAt W H p g x S2 X → Calls Tryz.prog 19 #[.pointer (some ⟨g, 0, none⟩), .int .i64 (m : Int)] W fun e w' => ∃ (b : Bool) (v : Value), e = .returned (.tuple #[.bool b, v]) ∧ TwoAt w' H p g x (stepS p S2 m) X ∧ Below H W w') := fun W hT => two_step m hT HFP.out HLR.out.gs (by omega)
              have HSX : Hid (∀ W, TwoAt W H p g x (stepS p S2 m) X → Calls Tryz.prog 19 #[.pointer (some ⟨x, 0, none⟩), .int .i64 (m : Int)] W fun e w' => ∃ (b : Bool) (v : Value), e = .returned (.tuple #[.bool b, v]) ∧ TwoAt w' H p g x (stepS p S2 m) (stepS p X m) ∧ Below H W w') := fun W hT => (two_step m hT.swap HFP.out HLR.out.gx (by omega)).mono fun e w' ⟨b, v, q1, q2, q3⟩ => ⟨b, v, q1, q2.swap, q3⟩
              have HLN := Lib.hid (late_step HFP.out hm HLR.out).1
              go_wp2_with (first | (go_at_call 19; refine cargs (by first | (simp [Act.eval]; done) | fail) ((HSW.out _ HTA.out).mono ?_); rintro e w6 ⟨sb, sv, rfl, h6, f6⟩; have HTB := Lib.hid h6; have HBB := Lib.hid (HBA.out.trans (f6.mono HHH.out)); clear h6 f6 HTA) | (go_at_call 19; refine cargs (by first | (simp [Act.eval]; done) | fail) ((HSX.out _ HTB.out).mono ?_); rintro e w7 ⟨tb, tv, rfl, h7, f7⟩; have HTC := Lib.hid h7; have HBC := Lib.hid (HBB.out.trans (f7.mono HHH.out)); clear h7 f7 HTB) | fail)
              go_roundw
              case rel => exact ⟨i + 1, _, _, by omega, by go_num, HTC, HBC, HLN.out.mono (by omega)⟩
              case measure => simp [intOf]; omega
             ·have m1 : ¬ (i : Int) % 8 = 3 := by omega
              have m2 : ¬ (i : Int).tmod 8 = 3 := by rw [Int.tmod_eq_emod_of_nonneg (by omega)]; omega
              clear h8
              go_wp2_with fail; go_roundw
              case rel => exact ⟨i + 1, _, _, by omega, by go_num, HTA, HBA, HLR.out.mono (by omega)⟩
              case measure => simp [intOf]; omega
           | false =>
            cases q1 : (X0.kind.toList == ([117, 110, 109, 97, 112] : List UInt8)) with
            | true =>
             as_aux_lemma =>
              have HLR : Hid (LateR m (3691 + 91 * i + 90) (didS p S X0) X) := late_did HFP.out HLI.out (by unfold memAct; rw [q0, q1]; simp); have HDID := Lib.hid (two_did HTI.out HFP.out HLI.out.gs (by omega) X0 HXO.out (by omega)); have HRL : Hid (X0.row.length = 11) := rfl; clear HTI HLI HXO; generalize didS p S X0 = S2 at *
              generalize X0.row = R at *
              go_upto_region 23 with (first
               | (refine wpList_load_mid rfl 54 (.tmp 95) rfl b (o + i * 11) (by simp [Act.eval, Act.put]) R _ HRA.out Tryz.underlying54 rfl (by rw [HRL.out]; exact tact_info) ?_)
               | (go_at_call 27; refine cargs (by simp [Act.eval]) (HDID.out.mono ?_); rintro e w5 ⟨rfl, h5, f5⟩; have HTA := Lib.hid h5; have HBA := Lib.hid (HBI.out.trans (f5.mono HHH.out)); clear h5 f5)
               | fail)
              clear HRA HDID z0 q0 q1
              by_cases h8 : i % 8 = 3
              ·have m1 : (i : Int) % 8 = 3 := by omega
               have m2 : (i : Int).tmod 8 = 3 := by rw [Int.tmod_eq_emod_of_nonneg (by omega)]; omega
               clear h8; have HSW : Hid (∀ W, TwoAt W H p g x S2 X → Calls Tryz.prog 19 #[.pointer (some ⟨g, 0, none⟩), .int .i64 (m : Int)] W fun e w' => ∃ (b : Bool) (v : Value), e = .returned (.tuple #[.bool b, v]) ∧ TwoAt w' H p g x (stepS p S2 m) X ∧ Below H W w') := fun W hT => two_step m hT HFP.out HLR.out.gs (by omega)
               have HSX : Hid (∀ W, TwoAt W H p g x (stepS p S2 m) X → Calls Tryz.prog 19 #[.pointer (some ⟨x, 0, none⟩), .int .i64 (m : Int)] W fun e w' => ∃ (b : Bool) (v : Value), e = .returned (.tuple #[.bool b, v]) ∧ TwoAt w' H p g x (stepS p S2 m) (stepS p X m) ∧ Below H W w') := fun W hT => (two_step m hT.swap HFP.out HLR.out.gx (by omega)).mono fun e w' ⟨b, v, q1, q2, q3⟩ => ⟨b, v, q1, q2.swap, q3⟩
               have HLN := Lib.hid (late_step HFP.out hm HLR.out).1
               go_wp2_with (first | (go_at_call 19; refine cargs (by first | (simp [Act.eval]; done) | fail) ((HSW.out _ HTA.out).mono ?_); rintro e w6 ⟨sb, sv, rfl, h6, f6⟩; have HTB := Lib.hid h6; have HBB := Lib.hid (HBA.out.trans (f6.mono HHH.out)); clear h6 f6 HTA) | (go_at_call 19; refine cargs (by first | (simp [Act.eval]; done) | fail) ((HSX.out _ HTB.out).mono ?_); rintro e w7 ⟨tb, tv, rfl, h7, f7⟩; have HTC := Lib.hid h7; have HBC := Lib.hid (HBB.out.trans (f7.mono HHH.out)); clear h7 f7 HTB) | fail)
               go_roundw
               case rel => exact ⟨i + 1, _, _, by omega, by go_num, HTC, HBC, HLN.out.mono (by omega)⟩
               case measure => simp [intOf]; omega
              ·have m1 : ¬ (i : Int) % 8 = 3 := by omega
               have m2 : ¬ (i : Int).tmod 8 = 3 := by rw [Int.tmod_eq_emod_of_nonneg (by omega)]; omega
               clear h8
               go_wp2_with fail; go_roundw
               case rel => exact ⟨i + 1, _, _, by omega, by go_num, HTA, HBA, HLR.out.mono (by omega)⟩
               case measure => simp [intOf]; omega
            | false =>
             cases q2 : (X0.kind.toList == ([112, 117, 116] : List UInt8)) with
             | true =>
              as_aux_lemma =>
               have HLR : Hid (LateR m (3691 + 91 * i + 90) (didS p S X0) X) := late_did HFP.out HLI.out (by unfold memAct; rw [q0, q1, q2]; simp); have HDID := Lib.hid (two_did HTI.out HFP.out HLI.out.gs (by omega) X0 HXO.out (by omega)); have HRL : Hid (X0.row.length = 11) := rfl; clear HTI HLI HXO; generalize didS p S X0 = S2 at *
               generalize X0.row = R at *
               go_upto_region 23 with (first
                | (refine wpList_load_mid rfl 54 (.tmp 95) rfl b (o + i * 11) (by simp [Act.eval, Act.put]) R _ HRA.out Tryz.underlying54 rfl (by rw [HRL.out]; exact tact_info) ?_)
                | (go_at_call 27; refine cargs (by simp [Act.eval]) (HDID.out.mono ?_); rintro e w5 ⟨rfl, h5, f5⟩; have HTA := Lib.hid h5; have HBA := Lib.hid (HBI.out.trans (f5.mono HHH.out)); clear h5 f5)
                | fail)
               clear HRA HDID z0 q0 q1 q2
               by_cases h8 : i % 8 = 3
               ·have m1 : (i : Int) % 8 = 3 := by omega
                have m2 : (i : Int).tmod 8 = 3 := by rw [Int.tmod_eq_emod_of_nonneg (by omega)]; omega
                clear h8; have HSW : Hid (∀ W, TwoAt W H p g x S2 X → Calls Tryz.prog 19 #[.pointer (some ⟨g, 0, none⟩), .int .i64 (m : Int)] W fun e w' => ∃ (b : Bool) (v : Value), e = .returned (.tuple #[.bool b, v]) ∧ TwoAt w' H p g x (stepS p S2 m) X ∧ Below H W w') := fun W hT => two_step m hT HFP.out HLR.out.gs (by omega)
                have HSX : Hid (∀ W, TwoAt W H p g x (stepS p S2 m) X → Calls Tryz.prog 19 #[.pointer (some ⟨x, 0, none⟩), .int .i64 (m : Int)] W fun e w' => ∃ (b : Bool) (v : Value), e = .returned (.tuple #[.bool b, v]) ∧ TwoAt w' H p g x (stepS p S2 m) (stepS p X m) ∧ Below H W w') := fun W hT => (two_step m hT.swap HFP.out HLR.out.gx (by omega)).mono fun e w' ⟨b, v, q1, q2, q3⟩ => ⟨b, v, q1, q2.swap, q3⟩
                have HLN := Lib.hid (late_step HFP.out hm HLR.out).1
                go_wp2_with (first | (go_at_call 19; refine cargs (by first | (simp [Act.eval]; done) | fail) ((HSW.out _ HTA.out).mono ?_); rintro e w6 ⟨sb, sv, rfl, h6, f6⟩; have HTB := Lib.hid h6; have HBB := Lib.hid (HBA.out.trans (f6.mono HHH.out)); clear h6 f6 HTA) | (go_at_call 19; refine cargs (by first | (simp [Act.eval]; done) | fail) ((HSX.out _ HTB.out).mono ?_); rintro e w7 ⟨tb, tv, rfl, h7, f7⟩; have HTC := Lib.hid h7; have HBC := Lib.hid (HBB.out.trans (f7.mono HHH.out)); clear h7 f7 HTB) | fail)
                go_roundw
                case rel => exact ⟨i + 1, _, _, by omega, by go_num, HTC, HBC, HLN.out.mono (by omega)⟩
                case measure => simp [intOf]; omega
               ·have m1 : ¬ (i : Int) % 8 = 3 := by omega
                have m2 : ¬ (i : Int).tmod 8 = 3 := by rw [Int.tmod_eq_emod_of_nonneg (by omega)]; omega
                clear h8
                go_wp2_with fail; go_roundw
                case rel => exact ⟨i + 1, _, _, by omega, by go_num, HTA, HBA, HLR.out.mono (by omega)⟩
                case measure => simp [intOf]; omega
             | false =>
              as_aux_lemma =>
               clear HXO; go_upto_region 23 with fail; clear z0 q0 q1 q2 HRA; have HTA := HTI; have HBA := HBI; have HLR := HLI; clear HTI HBI HLI
               by_cases h8 : i % 8 = 3
               ·have m1 : (i : Int) % 8 = 3 := by omega
                have m2 : (i : Int).tmod 8 = 3 := by rw [Int.tmod_eq_emod_of_nonneg (by omega)]; omega
                clear h8; have HSW : Hid (∀ W, TwoAt W H p g x S X → Calls Tryz.prog 19 #[.pointer (some ⟨g, 0, none⟩), .int .i64 (m : Int)] W fun e w' => ∃ (b : Bool) (v : Value), e = .returned (.tuple #[.bool b, v]) ∧ TwoAt w' H p g x (stepS p S m) X ∧ Below H W w') := fun W hT => two_step m hT HFP.out HLR.out.gs (by omega)
                have HSX : Hid (∀ W, TwoAt W H p g x (stepS p S m) X → Calls Tryz.prog 19 #[.pointer (some ⟨x, 0, none⟩), .int .i64 (m : Int)] W fun e w' => ∃ (b : Bool) (v : Value), e = .returned (.tuple #[.bool b, v]) ∧ TwoAt w' H p g x (stepS p S m) (stepS p X m) ∧ Below H W w') := fun W hT => (two_step m hT.swap HFP.out HLR.out.gx (by omega)).mono fun e w' ⟨b, v, q1, q2, q3⟩ => ⟨b, v, q1, q2.swap, q3⟩
                have HLN := Lib.hid (late_step HFP.out hm HLR.out).1
                go_wp2_with (first | (go_at_call 19; refine cargs (by first | (simp [Act.eval]; done) | fail) ((HSW.out _ HTA.out).mono ?_); rintro e w6 ⟨sb, sv, rfl, h6, f6⟩; have HTB := Lib.hid h6; have HBB := Lib.hid (HBA.out.trans (f6.mono HHH.out)); clear h6 f6 HTA) | (go_at_call 19; refine cargs (by first | (simp [Act.eval]; done) | fail) ((HSX.out _ HTB.out).mono ?_); rintro e w7 ⟨tb, tv, rfl, h7, f7⟩; have HTC := Lib.hid h7; have HBC := Lib.hid (HBB.out.trans (f7.mono HHH.out)); clear h7 f7 HTB) | fail)
                go_roundw
                case rel => exact ⟨i + 1, _, _, by omega, by go_num, HTC, HBC, HLN.out.mono (by omega)⟩
                case measure => simp [intOf]; omega
               ·have m1 : ¬ (i : Int) % 8 = 3 := by omega
                have m2 : ¬ (i : Int).tmod 8 = 3 := by rw [Int.tmod_eq_emod_of_nonneg (by omega)]; omega
                clear h8
                go_wp2_with fail; go_roundw
                case rel => exact ⟨i + 1, _, _, by omega, by go_num, HTA, HBA, HLR.out.mono (by omega)⟩
                case measure => simp [intOf]; omega
          ·obtain rfl : i = l4.length := by omega
           have HL3 : Hid (leftT (S.t m) + 0 ≤ 3) := late_left HLI.out; clear HAT4 HOK4 sm4
           go_wp2_with fail
           go_loopw [17] (fun iv wr => ∃ (k : Nat) (S X : WardS), k ≤ 3 ∧ iv = .int .i64 k ∧ Hid (TwoAt wr H p g x S X) ∧ Hid (Below W0.heap.size W0 wr) ∧ Hid (LateR m (7331 + k) S X) ∧ Hid (leftT (S.t m) + k ≤ 3)) (fun iv _ => 3 - (intOf iv).toNat)
           case atStart => exact ⟨0, S, X, Nat.zero_le _, rfl, HTI, HBI, HLI.out.mono (by omega), HL3⟩
           case round =>
            clear HTI HBI HLI HL3; clear S X; obtain ⟨k, S2, X2, hk, rfl, HTA, HBA, HLR, HLE⟩ := hrel
            by_cases hlt : k < 3
            ·have x1 : (k : Int) < 3 := by omega
             have HSW : Hid (∀ W, TwoAt W H p g x S2 X2 → Calls Tryz.prog 19 #[.pointer (some ⟨g, 0, none⟩), .int .i64 (m : Int)] W fun e w' => ∃ (b : Bool) (v : Value), e = .returned (.tuple #[.bool b, v]) ∧ TwoAt w' H p g x (stepS p S2 m) X2 ∧ Below H W w') := fun W hT => two_step m hT HFP.out HLR.out.gs (by omega)
             have HSX : Hid (∀ W, TwoAt W H p g x (stepS p S2 m) X2 → Calls Tryz.prog 19 #[.pointer (some ⟨x, 0, none⟩), .int .i64 (m : Int)] W fun e w' => ∃ (b : Bool) (v : Value), e = .returned (.tuple #[.bool b, v]) ∧ TwoAt w' H p g x (stepS p S2 m) (stepS p X2 m) ∧ Below H W w') := fun W hT => (two_step m hT.swap HFP.out HLR.out.gx (by omega)).mono fun e w' ⟨b, v, q1, q2, q3⟩ => ⟨b, v, q1, q2.swap, q3⟩
             have HLN := Lib.hid (late_step HFP.out hm HLR.out)
             have HLE2 : Hid (leftT ((stepS p S2 m).t m) + (k + 1) ≤ 3) := by
              have := HLN.out.2; have := HLE.out; show _ ≤ _; omega
             go_wp2_with (first | (go_at_call 19; refine cargs (by first | (simp [Act.eval]; done) | fail) ((HSW.out _ HTA.out).mono ?_); rintro e w6 ⟨sb, sv, rfl, h6, f6⟩; have HTB := Lib.hid h6; have HBB := Lib.hid (HBA.out.trans (f6.mono HHH.out)); clear h6 f6 HTA) | (go_at_call 19; refine cargs (by first | (simp [Act.eval]; done) | fail) ((HSX.out _ HTB.out).mono ?_); rintro e w7 ⟨tb, tv, rfl, h7, f7⟩; have HTC := Lib.hid h7; have HBC := Lib.hid (HBB.out.trans (f7.mono HHH.out)); clear h7 f7 HTB) | fail)
             go_roundw
             case rel => exact ⟨k + 1, _, _, by omega, by go_num, HTC, HBC, HLN.out.1, HLE2⟩
             case measure => simp [intOf]; omega
            ·obtain rfl : k = 3 := by omega
             have x1 : ¬ ((3 : Nat) : Int) < 3 := by omega
             have h0 : leftT (S2.t m) = 0 := by have := HLE.out; omega
             obtain ⟨e1, e2, e3⟩ := late_end HLR.out h0; have hlog : S2.log.length ≤ 1000000 := by have := HLR.out.gs.few; omega
             have HP1 := Lib.hid (two_phase m hm HTA.out); have HP2 := Lib.hid (two_phase m hm HTA.out.swap); rw [← e1] at HP2; have HG1 := Lib.hid (two_log HTA.out)
             have HG2 : Hid (∀ W, Below wr.heap.size wr W → Calls Tryz.prog 28 #[.pointer (some ⟨x, 0, none⟩)] W fun e w' => ∃ A c, e = .returned (.slice A S2.log.length c) ∧ LogSl w' W.heap.size (.slice A S2.log.length c) S2.log ∧ Below W.heap.size W w') := fun W hb => by
              rw [e3]; exact two_log (HTA.out.below hb).swap
             have HSL : Hid (∀ W H1 H2 v1 v2, LogSl W H1 v1 S2.log → LogSl W H2 v2 S2.log → Calls Tryz.prog 34 #[v1, v2] W fun e w' => e = .returned (.bool true) ∧ Below W.heap.size W w') := fun W H1 H2 v1 v2 q1 q2 => sameLog_any H1 H2 v1 v2 S2.log W q1 q2 hlog; clear e1 e3 h0 HLE HLR hlog; generalize (S2.t m).phase = ph at *
             generalize S2.log = LL at *
             have HFIN : Hid (∀ W, Below wr.heap.size wr W → Below w.heap.size w W) := fun W hb => (HIN.out _ (HBA.out.trans (hb.mono HBA.out.size))).1; clear HTA; rcases e2 with rfl | rfl
             ·as_aux_lemma =>
               go_wp2_with (first
                | (go_at_call 29; refine cargs (by first | (simp [Act.eval]; done) | fail) (HP1.out.mono ?_); rintro e w8 ⟨rfl, rfl⟩)
                | (go_at_call 29; refine cargs (by first | (simp [Act.eval]; done) | fail) (HP2.out.mono ?_); rintro e w8 ⟨rfl, rfl⟩)
                | (go_at_call 28; refine cargs (by first | (simp [Act.eval]; done) | fail) (HG1.out.mono ?_); rintro e w9 ⟨AX, cX, rfl, hl9, hb9⟩; have HLA := Lib.hid hl9; have HB9 := Lib.hid hb9; clear hl9 hb9 HG1)
                | (go_at_call 28; refine cargs (by first | (simp [Act.eval]; done) | fail) ((HG2.out _ HB9.out).mono ?_); rintro e w10 ⟨AY, cY, rfl, hl10, hb10⟩; have HLB := Lib.hid hl10; have HLA2 := Lib.hid (own_below HLA.out hb10 (Nat.le_refl _)); have HB10 := Lib.hid (HB9.out.trans (hb10.mono HB9.out.size)); clear hl10 hb10)
                | (go_at_call 34; refine cargs (by simp [Act.eval]) ((HSL.out _ _ _ _ _ HLA2.out HLB.out).mono ?_); rintro e w11 ⟨rfl, hb11⟩; have HB11 := Lib.hid (HB10.out.trans (hb11.mono HB10.out.size)); clear hb11)
                | fail)
               go_ret; exact ⟨rfl, HFIN.out _ HB11.out⟩
             ·as_aux_lemma =>
               go_wp2_with (first
                | (go_at_call 29; refine cargs (by first | (simp [Act.eval]; done) | fail) (HP1.out.mono ?_); rintro e w8 ⟨rfl, rfl⟩)
                | (go_at_call 29; refine cargs (by first | (simp [Act.eval]; done) | fail) (HP2.out.mono ?_); rintro e w8 ⟨rfl, rfl⟩)
                | (go_at_call 28; refine cargs (by first | (simp [Act.eval]; done) | fail) (HG1.out.mono ?_); rintro e w9 ⟨AX, cX, rfl, hl9, hb9⟩; have HLA := Lib.hid hl9; have HB9 := Lib.hid hb9; clear hl9 hb9 HG1)
                | (go_at_call 28; refine cargs (by first | (simp [Act.eval]; done) | fail) ((HG2.out _ HB9.out).mono ?_); rintro e w10 ⟨AY, cY, rfl, hl10, hb10⟩; have HLB := Lib.hid hl10; have HLA2 := Lib.hid (own_below HLA.out hb10 (Nat.le_refl _)); have HB10 := Lib.hid (HB9.out.trans (hb10.mono HB9.out.size)); clear hl10 hb10)
                | (go_at_call 34; refine cargs (by simp [Act.eval]) ((HSL.out _ _ _ _ _ HLA2.out HLB.out).mono ?_); rintro e w11 ⟨rfl, hb11⟩; have HB11 := Lib.hid (HB10.out.trans (hb11.mono HB10.out.size)); clear hb11)
                | fail)
               go_ret; exact ⟨rfl, HFIN.out _ HB11.out⟩
     ·have HFP := Lib.hid hf; clear hf HLL HAT1 HAT4 HOK1 HOK4 HC; go_enter Tryz.func7, Tryz.ntmps7; go_upto_region 1 with fail; generalize ((w.alloc (.cells #[.slice A p.rules.length cp, .int .i64 p.kind, .int .i64 p.errno] 26)).alloc (.cells #[.int .u32 arch, .int .u32 cnr, .int .u64 a0, .int .u64 a1, .int .u64 a2, .int .u64 a3] 52)) = W0 at *
      obtain ⟨hbl, hpp, hcc⟩ := HIN.out W0 HB0.out; have HBL := Lib.hid hbl; obtain ⟨s0, s1, s2⟩ := tcrow3 hpp; clear hpp hcc hbl
      go_upto_region 3 with (first | (go_at_call 9; refine cargs (by simp [Act.eval]) ((HLP.out _ HBL.out).mono ?_); rintro e w1 ⟨rfl, hq⟩; have HB1 := Lib.hid (HB0.out.trans hq); have HBL1 := Lib.hid (HBL.out.trans (hq.mono HBL.out.size)); clear hq) | (go_at_call 10; refine cargs (by first | (simp [Act.eval]; done) | fail) ((HL1.out _ HBL1.out).mono ?_); rintro e w2 ⟨rfl, rfl⟩; clear HL1) | (go_at_call 10; refine cargs (by first | (simp [Act.eval]; done) | fail) ((HL4.out _ HBL1.out).mono ?_); rintro e w4 ⟨rfl, rfl⟩) | fail)
      obtain ⟨_, hpp1, hcc1⟩ := HIN.out _ HB1.out; obtain ⟨p0, p1, p2⟩ := tcrow3 hpp1; clear hpp1 hcc1 HLP HL4 s0 s1 s2; have HNW1 := Lib.hid (HNW.out _ HBL1.out (by trivial)); rw [errV_pos HFP.out] at HNW1; clear HNW
      go_wp2_with (first | (go_at_call 12; refine cargs (by simp [Act.eval]) (HNW1.out.mono ?_); rintro e w3 ⟨hq, hr⟩; obtain ⟨_, rfl⟩ := hr.resolve_right (fun hh => HFP.out hh.1); have HBL3 := Lib.hid (HBL1.out.trans (hq.mono HBL1.out.size)); clear hq hr) | fail)
      go_ret; exact ⟨rfl, HBL3.out⟩
end Go.Proofs.YtmgngapkgcofnabGreatDoor
