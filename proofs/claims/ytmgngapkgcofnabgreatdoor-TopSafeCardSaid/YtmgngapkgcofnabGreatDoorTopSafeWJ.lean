/- TopEnds, in plain words: a call ends within 86 steps; one line is written of it. -/
import Derived.Test.YtmgngapkgcofnabGreatDoorWardTopJ
namespace Go.Proofs.YtmgngapkgcofnabGreatDoor
open Go.RowKit Go.PlainAid
def didsS (p : PolD) (S : WardS) (l : List ActD) : Nat → WardS
 | 0 => S
 | k + 1 => match l[k]? with
  | some a => didS p (didsS p S l k) a
  | none => didsS p S l k
theorem didsS_at {p : PolD} {S : WardS} {l : List ActD} {k : Nat} {a : ActD} (h : l[k]? = some a) : didsS p S l (k + 1) = didS p (didsS p S l k) a := by rw [didsS, h]
theorem good_dids {p : PolD} (hf : polF p = 0) {S : WardS} {L : Nat} (h : GoodS S L) (l : List ActD) : ∀ k, GoodS (didsS p S l k) (L + 90 * k)
 | 0 => h
 | k + 1 => by
  rw [didsS]; split
  ·exact (good_did hf (good_dids hf h l k) _).mono (by omega)
  ·exact (good_dids hf h l k).mono (by omega)
def doneB (S : WardS) (n : Nat) : Prop := (S.t n).phase = 0 ∨ (S.t n).phase = 6
instance (S : WardS) (n : Nat) : Decidable (doneB S n) := by unfold doneB; infer_instance
def mineN (n : Nat) (l : List EntD) : Nat := l.countP fun e => decide (e.thr = n)
def Seen (n : Nat) (c : CallD) (L0 : List EntD) (S : WardS) : Prop :=
 ∃ ext, S.log = L0 ++ ext ∧ (∀ e ∈ ext, e.thr = n → e.call = c) ∧ (doneB S n → mineN n ext = 1) ∧ (¬ doneB S n → (S.t n).asked = c ∧ mineN n ext = 0)
def Aside (n : Nat) (S S' : WardS) : Prop := S'.t n = S.t n ∧ ∃ ext, S'.log = S.log ++ ext ∧ ∀ e ∈ ext, e.thr ≠ n
theorem Aside.refl (n : Nat) (S : WardS) : Aside n S S := ⟨rfl, [], by simp, fun _ h => by cases h⟩
theorem Aside.trans {n : Nat} {S S' S'' : WardS} (h : Aside n S S') (k : Aside n S' S'') : Aside n S S'' := by
 obtain ⟨h1, x, h2, h3⟩ := h; obtain ⟨k1, y, k2, k3⟩ := k; refine ⟨k1.trans h1, x ++ y, by rw [k2, h2, List.append_assoc], fun e he => ?_⟩; rcases List.mem_append.1 he with he | he
 ·exact h3 e he
 ·exact k3 e he
structure EndR (n : Nat) (c : CallD) (L0 : List EntD) (M : Nat) (S : WardS) (k : Nat) : Prop where
 good : GoodS S (M + 91 * k)
 left : leftT (S.t n) + k ≤ 86 ∨ doneB S n
 seen : Seen n c L0 S
theorem logCells_get : ∀ (l : List EntD) (j : Nat) (e : EntD) (i : Nat), l[j]? = some e → i < 21 → (logCells l)[j * 21 + i]? = (entCells e)[i]?
 | [], j, e, i, h, _ => by simp at h
 | x :: r, 0, e, i, h, hi => by
  simp only [List.getElem?_cons_zero, Option.some.injEq] at h; subst h; have e1 : logCells (x :: r) = entCells x ++ logCells r := by unfold logCells; rw [List.flatMap_cons]
  rw [e1, List.getElem?_append_left (by rw [entCells_len]; omega)]; simp
 | x :: r, j + 1, e, i, h, hi => by
  simp only [List.getElem?_cons_succ] at h; have e1 : logCells (x :: r) = entCells x ++ logCells r := by unfold logCells; rw [List.flatMap_cons]
  rw [e1, List.getElem?_append_right (by rw [entCells_len]; omega), entCells_len, show (j + 1) * 21 + i - 21 = j * 21 + i from by omega]; exact logCells_get r j e i h hi
theorem logSl_at {w : World} {H : Nat} {A : Option Addr} {c : Nat} {l : List EntD} (h : LogSl w H (.slice A l.length c) l) {j : Nat} {e : EntD} (hj : l[j]? = some e) :
  ∃ b, A = some ⟨b, 0, none⟩ ∧ w.cell? ⟨b, j * 21 + 0, none⟩ = some (.int .i64 e.kind) ∧ w.cell? ⟨b, j * 21 + 1, none⟩ = some (.int .i64 e.thr) ∧ w.cell? ⟨b, j * 21 + 2, none⟩ = some (.int .u32 e.call.arch) ∧ w.cell? ⟨b, j * 21 + 3, none⟩ = some (.int .u32 e.call.nr) ∧ w.cell? ⟨b, j * 21 + 4, none⟩ = some (.int .u64 e.call.a0) ∧ w.cell? ⟨b, j * 21 + 5, none⟩ = some (.int .u64 e.call.a1) ∧ w.cell? ⟨b, j * 21 + 6, none⟩ = some (.int .u64 e.call.a2) ∧ w.cell? ⟨b, j * 21 + 7, none⟩ = some (.int .u64 e.call.a3) := by
 have hr := Reads.of_own h
 have hlt : j < l.length := by
  rcases Nat.lt_or_ge j l.length with h1 | h1
  ·exact h1
  ·rw [List.getElem?_eq_none h1] at hj; cases hj
 obtain ⟨ad, ha, _, hc⟩ := hr.2 (by omega); rcases h.2 with ⟨h1, _⟩ | ⟨g, cap, cur, hv, _⟩
 ·rw [ha] at h1; simp at h1
 ·rw [ha] at hv; simp only [Value.slice.injEq, Option.some.injEq] at hv; obtain ⟨rfl, _⟩ := hv
  have key : ∀ i u, i < 21 → (entCells e)[i]? = some u → w.cell? ⟨g, j * 21 + i, none⟩ = some u := fun i u hi hu => by
   have := hc (j * 21 + i) u ((logCells_get l j e i hj hi).trans hu); rw [show (⟨g, 0, none⟩ : Addr).add (j * 21 + i) = ⟨g, j * 21 + i, none⟩ from by unfold Addr.add; split <;> simp] at this; exact this
  exact ⟨g, ha, key 0 _ (by omega) rfl, key 1 _ (by omega) rfl, key 2 _ (by omega) rfl, key 3 _ (by omega) rfl, key 4 _ (by omega) rfl, key 5 _ (by omega) rfl, key 6 _ (by omega) rfl, key 7 _ (by omega) rfl⟩
end Go.Proofs.YtmgngapkgcofnabGreatDoor
namespace Go.Proofs.YtmgngapkgcofnabGreatDoor
open Go.RowKit Go.PlainAid
theorem putN_sl (S : MemS) (a : Nat) (f : Nat → Int) (k : Nat) : (putN S a f k).sl = S.sl := by
 induction k with
 | zero => rfl
 | succ k ih => rw [putN]; exact ih
def cntSl (S : MemS) : Nat → Nat
 | 0 => 0
 | k + 1 => cntSl S k + if (S.sl k).isSome then 1 else 0
theorem cntSl_le (S : MemS) : ∀ k, cntSl S k ≤ k := by
 intro k
 induction k with
 | zero => exact Nat.le_refl _
 | succ k ih => simp only [cntSl]; split <;> omega
set_option linter.unusedSimpArgs false in
set_option maxRecDepth 100000 in
set_option maxHeartbeats 2000000 in
theorem memSealed_any (m : Nat) (B : Nat → Prop) (S : MemS) (w : World) (h : MemAt w B m S) :
  Calls Tryz.prog 31 #[.pointer (some ⟨m, 0, none⟩)] w fun e w' => e = .returned (.int .i64 (cntSl S 4)) ∧ w = w' := by
 obtain ⟨C, sp, hblk, hC, hse⟩ := h.rep; have c0 : w.cell? ⟨m, 528, none⟩ = some (ptrV (sp 0)) := by rw [hblk.cell (i := 528) (by omega), hC _ (by omega)]; exact congrArg some (memCell_seal (i := 0) (by omega))
 have c1 : w.cell? ⟨m, 529, none⟩ = some (ptrV (sp 1)) := by rw [hblk.cell (i := 529) (by omega), hC _ (by omega)]; exact congrArg some (memCell_seal (i := 1) (by omega))
 have c2 : w.cell? ⟨m, 530, none⟩ = some (ptrV (sp 2)) := by rw [hblk.cell (i := 530) (by omega), hC _ (by omega)]; exact congrArg some (memCell_seal (i := 2) (by omega))
 have c3 : w.cell? ⟨m, 531, none⟩ = some (ptrV (sp 3)) := by rw [hblk.cell (i := 531) (by omega), hC _ (by omega)]; exact congrArg some (memCell_seal (i := 3) (by omega))
 have HI : Hid (∀ (w : World) (k : Nat), k < 4 → (Instr.index 159 (.agg #[ptrV (sp 0), ptrV (sp 1), ptrV (sp 2), ptrV (sp 3)]) (.int .i64 k)).run Tryz.prog w = .ok (ptrV (sp k)) w) := fun w k hk => run_index4 w sp k hk
 have HSE : Hid (∀ k, k < 4 → (sp k).isSome = (S.sl k).isSome) := by
  intro k hk; have := hse k hk; unfold SealAt at this; split at this
  ·rename_i e1 e2; rw [e1, e2]; rfl
  ·rename_i e1 e2; rw [e1, e2]; rfl
  ·exact this.elim
 clear hblk hC hse h; generalize ptrV (sp 0) = P0 at *
 generalize ptrV (sp 1) = P1 at *
 generalize ptrV (sp 2) = P2 at *
 generalize ptrV (sp 3) = P3 at *
 have hle := Lib.hid (cntSl_le S); go_enter Tryz.func31, Tryz.ntmps31
 go_wp2_with fail
 go_loop [3, 10] (fun nv iv => ∃ k : Nat, k ≤ 4 ∧ iv = .int .i64 k ∧ nv = .int .i64 (cntSl S k)) (fun _ iv => 4 - (intOf iv).toNat)
 case atStart => exact ⟨0, Nat.zero_le _, rfl, rfl⟩
 case round =>
  obtain ⟨k, hk, rfl, rfl⟩ := hrel
  by_cases hlt : k < 4
  ·have x1 : (k : Int) < 4 := by omega
   have x2 : (0 : Int) ≤ (k : Int) := by omega
   have hix := fun w : World => HI.out w k hlt; have hl := hle.out k; have hse := HSE.out k hlt
   cases hsp : sp k with
   | none =>
    rw [hsp] at hix hse; have hc : Hid (cntSl S (k + 1) = cntSl S k) := by show _ = _; rw [cntSl, ← hse]; rfl
    clear hse hsp; simp only [ptrV, Option.map_none] at hix; generalize cntSl S k = N at *
    go_wp2_with fail; go_round
    case rel => exact ⟨k + 1, by omega, by go_num, by rw [hc.out]⟩
    case measure => simp [intOf]; omega
   | some g =>
    rw [hsp] at hix hse; have hc : Hid (cntSl S (k + 1) = cntSl S k + 1) := by show _ = _; rw [cntSl, ← hse]; rfl
    clear hse hsp; simp only [ptrV, Option.map_some] at hix; generalize cntSl S k = N at *
    go_wp2_with fail; go_round
    case rel => exact ⟨k + 1, by omega, by go_num, by rw [hc.out]; go_num⟩
    case measure => simp [intOf]; omega
  ·obtain rfl : k = 4 := by omega
   go_wp2_with fail; go_ret; exact ⟨rfl, rfl⟩
theorem deepN_no {cs : List CondD} : ∀ {n : Nat}, deepN cs n = false → ∀ k, k < n → ∀ x, cs[k]? = some x → ¬ 7 < x.op
 | 0, _, k, hk, _, _ => by omega
 | n + 1, h, k, hk, x, hx => by
  rw [deepN, Bool.or_eq_false_iff] at h
  by_cases e : k = n
  ·subst e; have h2 := h.2; rw [hx] at h2; exact of_decide_eq_false h2
  ·exact deepN_no h.1 k (by omega) x hx
theorem seen_flat {cs : List CondD} {v : ValsD} (h : deepN cs cs.length = false) : seenB v cs = true := by
 unfold seenB; rw [List.all_eq_true]; intro x hx; obtain ⟨k, hk⟩ := List.getElem?_of_mem hx; have hlt : k < cs.length := (List.getElem?_eq_some_iff.1 hk).1; have := deepN_no h k hlt x hk; unfold seenC; rw [if_neg (by omega), if_neg (by omega)]
theorem pick_law (c : CallD) (v : ValsD) (k e : Int) (hk : k ≠ 4) : ∀ (rs : List RuleD) (i : Nat), (∀ r ∈ rs, r.kind ≠ 4) →
  ((pickJ c k e i rs).1 ≠ 4 → pickD c v k e rs = ((pickJ c k e i rs).1, (pickJ c k e i rs).2.1) ∧ (pickJ c k e i rs).2.2 = 0) ∧
  ((pickJ c k e i rs).1 = 4 → ∃ j : Nat, (pickJ c k e i rs).2.2 = ((i + j : Nat) : Int) ∧ j < rs.length ∧ pickD c v k e (rs.drop j) = pickD c v k e rs) ∧ (pickD c v k e rs).1 ≠ 4
 | [], i, _ => by
  refine ⟨fun _ => ⟨rfl, rfl⟩, fun h => absurd h hk, hk⟩
 | r :: rs, i, hr => by
  obtain ⟨h1, h2, h3⟩ := pick_law c v k e hk rs (i + 1) (fun x hx => hr x (by simp [hx])); have hr0 := hr r (by simp); unfold pickJ
  by_cases hf : fitB c r = true
  ·rw [if_pos hf]
   by_cases hd : deepN r.conds r.conds.length = true
   ·rw [if_pos hd]; refine ⟨fun h => absurd rfl h, fun _ => ⟨0, by simp, by simp, rfl⟩, ?_⟩; unfold pickD; split
    ·exact hr0
    ·exact h3
   ·have hs := seen_flat (v := v) (Bool.eq_false_iff.2 hd); rw [if_neg hd]; unfold pickD; rw [hf, hs]; exact ⟨fun _ => ⟨rfl, rfl⟩, fun h => absurd h hr0, hr0⟩
  ·rw [if_neg hf]; have hf' := Bool.eq_false_iff.2 hf
   have e1 : pickD c v k e (r :: rs) = pickD c v k e rs := by
    rw [pickD, hf']; rfl
   rw [e1]; refine ⟨h1, fun h => ?_, h3⟩; obtain ⟨j, k1, k2, k3⟩ := h2 h; refine ⟨j + 1, by rw [k1]; congr 1; omega, by simp; omega, ?_⟩; rw [List.drop_succ_cons, k3]
theorem judge_tells {p : PolD} (hf : polF p = 0) (c : CallD) (v : ValsD) (h : (judgeF p c).1 ≠ 4) : decideF p c v = ((judgeF p c).1, (judgeF p c).2.1) ∧ (judgeF p c).2.2 = 0 := by
 obtain ⟨hk, hr⟩ := pol_kinds hf; unfold judgeF decideF at *
 split
 ·rename_i ha; rw [if_pos ha] at h; exact (pick_law c v p.kind p.errno hk p.rules 0 hr).1 h
 ·exact ⟨rfl, rfl⟩
end Go.Proofs.YtmgngapkgcofnabGreatDoor
namespace Go.Proofs.YtmgngapkgcofnabGreatDoor
open Go.RowKit Go.PlainAid
def slotA (k : Nat) : Nat := 512 + 64 * k
theorem freeS_sl (M : MemS) (a k : Nat) (hk : k < 4) : (freeS M a).sl k = if a = slotA k then none else M.sl k := by
 unfold freeS freeB slotA
 by_cases h : a % 64 = 0 ∧ 512 ≤ a ∧ a < 768
 ·rw [decide_eq_true h, Bool.true_and]
  by_cases e : a = 512 + 64 * k
  ·rw [if_pos e, show a / 64 - 8 = k from by omega]
   by_cases hs : (M.sl k).isSome = true
   ·rw [if_pos hs]; exact if_pos rfl
   ·rw [if_neg hs]
    simpa using hs
  ·rw [if_neg e]; split
   ·exact if_neg (by omega)
   ·rfl
 ·rw [decide_eq_false h, Bool.false_and, if_neg (by simp), if_neg (by omega)]
theorem freesS_sl : ∀ (l : List Nat) (M : MemS) (k : Nat), k < 4 → (freesS M l).sl k = if slotA k ∈ l then none else M.sl k
 | [], M, k, _ => by simp [freesS]
 | a :: r, M, k, hk => by
  rw [freesS, freesS_sl r _ k hk, freeS_sl M a k hk]
  by_cases h1 : slotA k ∈ r
  ·simp [h1]
  ·by_cases h2 : a = slotA k
   ·simp [h2]
   ·have h3 : ¬ slotA k = a := fun e => h2 e.symm; simp [h1, h2, h3]
def OwnsS (S : WardS) : Prop := ∀ k, k < 4 → S.m.sl k ≠ none → ∃ n, n < 3 ∧ slotA k ∈ (S.t n).seals
def inL (l : List Nat) (k : Nat) : Nat := if slotA k ∈ l then 1 else 0
theorem inL_sum : ∀ l : List Nat, inL l 0 + inL l 1 + inL l 2 + inL l 3 ≤ l.length
 | [] => by simp [inL]
 | a :: r => by
  have ih := inL_sum r
  have key : ∀ k, inL (a :: r) k ≤ inL r k + (if slotA k = a then 1 else 0) := fun k => by
   unfold inL
   by_cases h1 : slotA k ∈ r
   ·simp [h1]
   ·by_cases h2 : slotA k = a
    ·simp [h2]
    ·simp [h1, h2]
  have k0 := key 0; have k1 := key 1; have k2 := key 2; have k3 := key 3
  have hs : (if slotA 0 = a then 1 else 0) + (if slotA 1 = a then 1 else 0) + (if slotA 2 = a then 1 else 0) + (if slotA 3 = a then 1 else 0) ≤ 1 := by
   unfold slotA
   repeat' split
   all_goals omega
  rw [List.length_cons]; omega
theorem cnt_owned {S : WardS} (h : OwnsS S) : cntSl S.m 4 ≤ (S.t 0).seals.length + (S.t 1).seals.length + (S.t 2).seals.length := by
 have a0 := inL_sum (S.t 0).seals; have a1 := inL_sum (S.t 1).seals; have a2 := inL_sum (S.t 2).seals
 have key : ∀ k, k < 4 → (if (S.m.sl k).isSome then 1 else 0) ≤ inL (S.t 0).seals k + inL (S.t 1).seals k + inL (S.t 2).seals k := fun k hk => by
  split
  ·rename_i hs; obtain ⟨n, hn, hm⟩ := h k hk (fun e => by rw [e] at hs; simp at hs); unfold inL; have h3 : n = 0 ∨ n = 1 ∨ n = 2 := by omega
   rcases h3 with rfl | rfl | rfl
   ·rw [if_pos hm]; omega
   ·rw [if_pos hm]; omega
   ·rw [if_pos hm]; omega
  ·omega
 have k0 := key 0 (by omega); have k1 := key 1 (by omega); have k2 := key 2 (by omega); have k3 := key 3 (by omega); simp only [cntSl]; omega
theorem owns_same {S S' : WardS} (h : OwnsS S) (hm : S'.m.sl = S.m.sl) (ht : ∀ k, (S'.t k).seals = (S.t k).seals) : OwnsS S' := fun k hk hs => by
 rw [hm] at hs; obtain ⟨n, hn, hm⟩ := h k hk hs; exact ⟨n, hn, by rw [ht]; exact hm⟩
theorem owns_ends {S : WardS} (h : OwnsS S) (n : Nat) (kind errno : Int) (v : ValsD) : OwnsS (endsS S n kind errno v) := fun k hk hs => by
 have e : (endsS S n kind errno v).m = freesS S.m (S.t n).seals := rfl; rw [e, freesS_sl _ _ k hk] at hs; split at hs
 ·exact absurd rfl hs
 ·rename_i hno; obtain ⟨j, hj, hm⟩ := h k hk hs; have hjn : j ≠ n := fun e => hno (by rw [← e]; exact hm); exact ⟨j, hj, by show slotA k ∈ ((endsS S n kind errno v).t j).seals; rw [show (endsS S n kind errno v).t j = S.t j from if_neg hjn]; exact hm⟩
theorem owns_setT {S : WardS} (h : OwnsS S) {n : Nat} {T : ThrS} (hT : T.seals = (S.t n).seals) : OwnsS (S.setT n T) :=
 owns_same h rfl fun k => by
  show (if k = n then T else S.t k).seals = _; split
  ·rename_i e; rw [e]; exact hT
  ·rfl
theorem sealX_cases (M : MemS) (s : ByteArray) : ((sealX M s).2 ≠ 0 ∧ sealS M s = M) ∨ ∃ i, i < 4 ∧ sealX M s = (((slotA i : Nat) : Int), 0) ∧ sealS M s = M.sealAt i (bt s) ∧ (M.sl i).isSome = false ∧ s.size ≤ 64 := by
 unfold sealX sealS; split
 ·exact .inl ⟨by simp, rfl⟩
 ·split
  ·rename_i i hi; obtain ⟨h1, h2, h3⟩ := ffF_lt hi; exact .inr ⟨i, by omega, by unfold slotA; rw [show (8 + i) * 64 = 512 + 64 * i from by omega], rfl, h3, by omega⟩
  ·exact .inl ⟨by simp, rfl⟩
theorem owns_seal {S : WardS} (h : OwnsS S) {n : Nat} (hn : n < 3) {i : Nat} {f : Nat → Int} {T : ThrS} (hT : T.seals = (S.t n).seals ++ [slotA i]) : OwnsS ((S.setM (S.m.sealAt i f)).setT n T) := fun k hk hs => by
 have e : ∀ j, ((S.setM (S.m.sealAt i f)).setT n T).t j = if j = n then T else S.t j := fun _ => rfl
 by_cases hki : k = i
 ·exact ⟨n, hn, by rw [e, if_pos rfl, hT, hki]; simp⟩
 ·have hs2 : S.m.sl k ≠ none := by
   have : ((S.setM (S.m.sealAt i f)).setT n T).m.sl k = S.m.sl k := if_neg hki; rw [this] at hs; exact hs
  obtain ⟨j, hj, hm⟩ := h k hk hs2; refine ⟨j, hj, ?_⟩; rw [e]; split
  ·rename_i ej; rw [hT, ← ej]; exact List.mem_append_left _ hm
  ·exact hm
theorem cntN_isP {nr : Int} {a : Nat} (ha : a < 4) (h : isP nr a) : cntN nr a = 1 + cntN nr (a + 1) := by
 unfold cntN; rw [show 4 - a = (4 - (a + 1)) + 1 from by omega, cntK, if_pos h]
theorem cnt_ptr (nr : Int) (a : Nat) (ha : a ≤ 4) : cntN nr (ptrN nr a) = cntN nr a ∧ (ptrN nr a < 4 → isP nr (ptrN nr a)) := by
 rcases ptrN_cnt nr a ha with ⟨h1, h2⟩ | ⟨h1, h2, h3⟩
 ·rw [h1, h2]; exact ⟨rfl, fun h => by omega⟩
 ·exact ⟨by rw [cntN_isP h1 h2, h3], fun _ => h2⟩
theorem owns_sealK {n : Nat} (hn : n < 3) : ∀ (k a : Nat) (S : WardS), OwnsS S → a ≤ 4 → (a < 4 → isP (S.t n).now.nr a) → (S.t n).seals.length + cntN (S.t n).now.nr a ≤ 2 → OwnsS (sealK S n a k) ∧ ((sealK S n a k).t n).seals.length ≤ 2
 | 0, a, S, h, _, _, hl => by
  refine ⟨owns_setT h rfl, ?_⟩; show ((S.setT n { S.t n with phase := 5 }).t n).seals.length ≤ 2; rw [show (S.setT n { S.t n with phase := 5 }).t n = { S.t n with phase := 5 } from if_pos rfl]; show (S.t n).seals.length ≤ 2; omega
 | k + 1, a, S, h, ha, hip, hl => by
  rw [sealK]; split
  ·exact owns_sealK hn 0 a S h ha hip hl
  ·rename_i h4; rcases sealX_cases S.m (sealText (kindN (S.t n).now.nr a) ((S.t n).vals.at_ a)) with ⟨hx, hs⟩ | ⟨i, hi, hx, hs, _, _⟩
   ·split; rename_i x f hxf; rw [hxf] at hx; rw [if_pos hx, hs]; refine ⟨owns_ends (owns_same h rfl fun _ => rfl) _ _ _ _, ?_⟩; show ((endsS _ n 2 12 zeroVals).t n).seals.length ≤ 2; rw [show (endsS (S.setM S.m) n 2 12 zeroVals).t n = if (2 : Int) = 3 then ThrS.dead else ThrS.zero from if_pos rfl]; split <;> simp [ThrS.dead, ThrS.zero]
   ·rw [hx, hs]; simp only; rw [if_neg (by simp)]
    have e : ((S.setM (S.m.sealAt i (bt (sealText (kindN (S.t n).now.nr a) ((S.t n).vals.at_ a))))).setT n { S.t n with seals := (S.t n).seals ++ [((slotA i : Nat) : Int).toNat], now := (S.t n).now.setArg a ((slotA i : Nat) : Int) }).t n = { S.t n with seals := (S.t n).seals ++ [((slotA i : Nat) : Int).toNat], now := (S.t n).now.setArg a ((slotA i : Nat) : Int) } := if_pos rfl
    have enr : ((S.t n).now.setArg a ((slotA i : Nat) : Int)).nr = (S.t n).now.nr := setArg_nr _ _ _; obtain ⟨q1, q2⟩ := cnt_ptr (S.t n).now.nr (a + 1) (by omega); have q3 := cntN_isP (by omega) (hip (by omega))
    have q4 : ptrN (S.t n).now.nr (a + 1) ≤ 4 := by
     rcases ptrN_cnt (S.t n).now.nr (a + 1) (by omega) with ⟨q, _⟩ | ⟨q, _⟩ <;> omega
    refine owns_sealK hn k _ _ (owns_seal h hn (by simp)) q4 ?_ ?_
    ·rw [e]; show _ → isP ((S.t n).now.setArg a ((slotA i : Nat) : Int)).nr _; rw [enr]; exact q2
    ·rw [e]; show ((S.t n).seals ++ [_]).length + cntN ((S.t n).now.setArg a ((slotA i : Nat) : Int)).nr _ ≤ 2; rw [enr, List.length_append, q1]; simp only [List.length_cons, List.length_nil]; omega
structure SafeO (S : WardS) : Prop where
 own : OwnsS S
 two : ∀ n, (S.t n).seals.length ≤ 2
theorem safeO_new : SafeO WardS.new := ⟨fun k _ h => absurd rfl h, fun _ => by simp [WardS.new, ThrS.zero]⟩
theorem safeO_setM {S : WardS} (h : SafeO S) {M : MemS} (hm : M.sl = S.m.sl) : SafeO (S.setM M) := ⟨owns_same h.own hm fun _ => rfl, h.two⟩
theorem safeO_setT {S : WardS} (h : SafeO S) {n : Nat} {T : ThrS} (hT : T.seals = (S.t n).seals) : SafeO (S.setT n T) := by
 refine ⟨owns_setT h.own hT, fun k => ?_⟩; show (if k = n then T else S.t k).seals.length ≤ 2; split
 ·rw [hT]; exact h.two n
 ·exact h.two k
theorem safeO_ends {S : WardS} (h : SafeO S) (n : Nat) (kind errno : Int) (v : ValsD) : SafeO (endsS S n kind errno v) := by
 refine ⟨owns_ends h.own n kind errno v, fun k => ?_⟩; show (if k = n then (if kind = 3 then ThrS.dead else ThrS.zero) else S.t k).seals.length ≤ 2; split
 ·split <;> simp [ThrS.dead, ThrS.zero]
 ·exact h.two k
theorem safeO_does {S : WardS} (h : SafeO S) (n : Nat) (a : Int × Int) : SafeO (doesS S n a) := by
 unfold doesS; split
 ·exact h
 ·split <;> exact safeO_ends h _ _ _ _
theorem safeO_step {p : PolD} (_hf : polF p = 0) {S : WardS} (h : SafeO S) {n : Nat} (hn : n < 3) (hg : GoodT (S.t n)) : SafeO (stepT p S n) := by
 unfold stepT; split
 ·unfold filterS; split
  ·exact safeO_setT h rfl
  ·split
   ·exact safeO_setT h rfl
   ·exact safeO_does h _ _
 ·split
  ·unfold snapS; split
   ·exact safeO_ends h _ _ _ _
   ·split
    ·split
     ·exact safeO_setT h rfl
     ·split
      ·exact safeO_ends h _ _ _ _
      ·exact safeO_setT h rfl
    ·split
     ·exact safeO_setT h rfl
     ·split
      ·refine safeO_ends (safeO_setT h ?_) _ _ _ _; rfl
      ·exact safeO_setT h rfl
  ·split
   ·unfold judgeS; split
    ·exact safeO_setT h rfl
    ·exact safeO_does h _ _
   ·split
    ·rename_i h4; obtain ⟨s1, _⟩ := hg.sea (by omega); obtain ⟨q1, q2⟩ := cnt_ptr (S.t n).now.nr 0 (by omega)
     have q4 : ptrN (S.t n).now.nr 0 ≤ 4 := by
      rcases ptrN_cnt (S.t n).now.nr 0 (by omega) with ⟨q, _⟩ | ⟨q, _⟩ <;> omega
     obtain ⟨k1, k2⟩ := owns_sealK hn 5 (ptrN (S.t n).now.nr 0) S h.own q4 q2 (by rw [s1, q1]; have := cntN_two (S.t n).now.nr; simpa using this); refine ⟨k1, fun k => ?_⟩
     by_cases e : k = n
     ·rw [e]; exact k2
     ·have hgo := goes_seal S n h4 5 (ptrN (S.t n).now.nr 0) S (fun _ _ => rfl) rfl rfl; show ((sealStep S n).t k).seals.length ≤ 2; rw [show (sealStep S n).t k = S.t k from hgo.1 k e]; exact h.two k
    ·split
     ·unfold execS; split
      ·exact safeO_ends h _ _ _ _
      ·split; split
       ·exact safeO_ends h _ _ _ _
       ·exact safeO_ends h _ _ _ _
     ·exact h
theorem safeO_steps {p : PolD} (hf : polF p = 0) {S : WardS} {L : Nat} (h : SafeO S) (hG : GoodS S L) (n : Int) : ∀ k, SafeO (stepsS p S n k)
 | 0 => h
 | k + 1 => by
  have ih := safeO_steps hf h hG n k; rw [stepsS]; unfold stepS; split
  ·exact ih
  ·exact safeO_step hf ih (by omega) ((good_steps hf hG n k).thr _)
theorem mapS_sl (M : MemS) (n : Int) (wr : Bool) : (mapS M n wr).sl = M.sl := by unfold mapS; split <;> rfl
theorem unmapS_sl (M : MemS) (n : Int) : (unmapS M n).sl = M.sl := by unfold unmapS; split <;> rfl
theorem putS_sl (M : MemS) (a : Nat) (s : ByteArray) : (putS M a s).sl = M.sl := by
 unfold putS; split
 ·exact putN_sl _ _ _ _
 ·rfl
theorem safeO_did {p : PolD} (hf : polF p = 0) {S : WardS} {L : Nat} (h : SafeO S) (hG : GoodS S L) (a : ActD) : SafeO (didS p S a) := by
 unfold didS; split
 ·exact safeO_setM h (mapS_sl _ _ _)
 ·split
  ·exact safeO_setM h (unmapS_sl _ _)
  ·split
   ·exact safeO_setM h (putS_sl _ _ _)
   ·split
    ·unfold enterS; split
     ·rename_i he; refine safeO_setT h ?_
      have h0 : (S.t a.n.toNat).phase = 0 := by
       unfold enterE at he; split at he
       ·omega
       ·split at he
        ·assumption
        ·split at he <;> omega
      exact ((hG.thr _).sea (by omega)).1.symm
     ·exact h
    ·split
     ·exact safeO_steps hf h hG _ _
     ·exact safeO_steps hf h hG _ 1
theorem sealed_le {S : WardS} (h : SafeO S) (hg : ∀ k, GoodT (S.t k)) : cntSl S.m 4 ≤ (if (S.t 0).phase = 5 then 2 else 0) + (if (S.t 1).phase = 5 then 2 else 0) + (if (S.t 2).phase = 5 then 2 else 0) := by
 have h0 := cnt_owned h.own
 have key : ∀ n, (S.t n).seals.length ≤ (if (S.t n).phase = 5 then 2 else 0) := fun n => by
  split
  ·exact h.two n
  ·rename_i e; rw [((hg n).sea e).1]; simp
 have k0 := key 0; have k1 := key 1; have k2 := key 2; omega
end Go.Proofs.YtmgngapkgcofnabGreatDoor
namespace Go.Proofs.YtmgngapkgcofnabGreatDoor
open Go.RowKit Go.PlainAid
theorem bt_of (l : List UInt8) (j : Nat) (h : j < l.length) : bt ⟨l.toArray⟩ j = (l[j].toNat : Int) := by
 rw [bt_list ⟨l.toArray⟩ j h]
theorem bnum_of (l : List UInt8) (j : Nat) (h : j < l.length) : bnum ⟨l.toArray⟩ j = l[j].toNat := by
 unfold bnum; rw [bt_of l j h]; exact Int.toNat_natCast _
theorem ofNat_n {n : Nat} (h : n < 256) : (UInt8.ofNat n).toNat = n := by simp; omega
theorem readA_bytes (ip p : Nat) (hip : ip < 4294967296) (hp : p < 65536) : readA ⟨(bytesA ip p).toArray⟩ = some (ip, p) := by
 have hl : (bytesA ip p).length = 16 := rfl; have e2 : bnum ⟨(bytesA ip p).toArray⟩ 2 = p / 256 := by rw [bnum_of _ 2 (by rw [hl]; omega)]; exact ofNat_n (by omega)
 have e3 : bnum ⟨(bytesA ip p).toArray⟩ 3 = p % 256 := by rw [bnum_of _ 3 (by rw [hl]; omega)]; exact ofNat_n (by omega)
 have e4 : bnum ⟨(bytesA ip p).toArray⟩ 4 = ip / 16777216 := by rw [bnum_of _ 4 (by rw [hl]; omega)]; exact ofNat_n (by omega)
 have e5 : bnum ⟨(bytesA ip p).toArray⟩ 5 = ip / 65536 % 256 := by rw [bnum_of _ 5 (by rw [hl]; omega)]; exact ofNat_n (by omega)
 have e6 : bnum ⟨(bytesA ip p).toArray⟩ 6 = ip / 256 % 256 := by rw [bnum_of _ 6 (by rw [hl]; omega)]; exact ofNat_n (by omega)
 have e7 : bnum ⟨(bytesA ip p).toArray⟩ 7 = ip % 256 := by rw [bnum_of _ 7 (by rw [hl]; omega)]; exact ofNat_n (by omega)
 have hI : ipOf ⟨(bytesA ip p).toArray⟩ = ip := by
  unfold ipOf; rw [e4, e5, e6, e7]; simp only [ipJ, List.foldl_cons, List.foldl_nil]; omega
 have hP : portOf ⟨(bytesA ip p).toArray⟩ = p := by unfold portOf; rw [e2, e3]; omega
 unfold readA; rw [hI, hP, if_pos ⟨by rw [bsz, hl], rfl⟩]
theorem back_text (s : ByteArray) : strOfNums ((List.range s.size).map (bt s)) = s := by
 have h : (strOfNums ((List.range s.size).map (bt s))).data.toList = s.data.toList := by
  rw [strOfNums_data]; apply List.ext_getElem
  ·simp
  ·intro i h1 h2; have hi : i < s.size := by simpa using h2
   simp only [List.getElem_map, List.getElem_range]; unfold bt; rw [dif_pos hi]; simp; rfl
 have h2 : (strOfNums ((List.range s.size).map (bt s))).data = s.data := Array.toList_inj.1 h; cases s
 cases hs : strOfNums _
 rw [hs] at h2; simp only at h2; rw [h2]
theorem readL_range {f : Nat → Option Int} {a : Nat} {g : Nat → Int} : ∀ n, (∀ k, k < n → f ((a + k) % 18446744073709551616) = some (g k)) → readL f a n = some ((List.range n).map g) := by
 intro n
 induction n with
 | zero => intro _; rfl
 | succ n ih =>
  intro h; rw [readL, ih (fun k hk => h k (by omega)), h n (by omega), List.range_succ, List.map_append]; rfl
theorem byte_sealed {S : MemS} {i : Nat} (hi : i < 4) {s : ByteArray} (h : S.sl i = some (bt s)) {k : Nat} (hk : k < 64) : byteS S ((slotA i + k) % 18446744073709551616) = some (bt s k) := by
 unfold byteS slotA; rw [show (512 + 64 * i + k) % 18446744073709551616 = 512 + 64 * i + k from by omega, if_neg (by omega), if_pos (by omega), show (512 + 64 * i + k) / 64 - 8 = i from by omega, h]; simp only [Option.map_some]; rw [show (512 + 64 * i + k) % 64 = k from by omega]
theorem value_addr {S : MemS} {i : Nat} (hi : i < 4) {ip port : Nat} (hip : ip < 4294967296) (hp : port < 65536) (h : S.sl i = some (bt (bytesOfL (bytesA ip port)))) : valueF S 3 (slotA i) = (0, ⟨⟨#[]⟩, (ip : Int), (port : Int)⟩) := by
 have hs : (bytesOfL (bytesA ip port)).size = 16 := rfl; have hr : readL (byteS S) (slotA i) 16 = some ((List.range 16).map (bt (bytesOfL (bytesA ip port)))) := readL_range 16 (fun k hk => byte_sealed hi h (by omega))
 have hb : strOfNums ((List.range 16).map (bt (bytesOfL (bytesA ip port)))) = bytesOfL (bytesA ip port) := by
  have := back_text (bytesOfL (bytesA ip port)); rw [hs] at this; exact this
 have hg : getF S (slotA i) = (0, bytesOfL (bytesA ip port)) := by
  unfold getF; rw [hr]; simp only; rw [hb]
 unfold valueF; rw [if_neg (by decide), hg]; simp only [ne_eq, not_true_eq_false, if_false]; have := readA_bytes ip port hip hp; rw [show bytesOfL (bytesA ip port) = ⟨(bytesA ip port).toArray⟩ from rfl, this]
theorem readT_text {f : Nat → Option Int} {a : Nat} {g : Nat → Int} (n : Nat) (hf : ∀ k, k ≤ n → f ((a + k) % 18446744073709551616) = some (g k)) (hnz : ∀ k, k < n → g k ≠ 0) (hz : g n = 0) (hn : n ≤ 40) :
  ∀ (m j : Nat), j + m = 41 → j ≤ n → readT f a m ((List.range j).map g) = (0, strOfNums ((List.range n).map g))
 | 0, j, h1, h2 => by omega
 | m + 1, j, h1, h2 => by
  rw [readT, show ((List.range j).map g).length = j from by simp, hf j h2]; simp only
  by_cases e : j = n
  ·subst e; rw [if_pos hz]
  ·rw [if_neg (hnz j (by omega)), if_neg (by omega)]; rw [show (List.range j).map g ++ [g j] = (List.range (j + 1)).map g from by rw [List.range_succ, List.map_append]; rfl]; exact readT_text n hf hnz hz hn m (j + 1) (by omega) (by omega)
theorem bt_get {s : ByteArray} {k : Nat} {b : UInt8} (h : s.data.toList[k]? = some b) : bt s k = (b.toNat : Int) := by
 have hk : k < s.data.toList.length := by
  rcases Nat.lt_or_ge k s.data.toList.length with h1 | h1
  ·exact h1
  ·rw [List.getElem?_eq_none h1] at h; cases h
 rw [bt_list s k hk]; rw [List.getElem?_eq_getElem hk] at h; rw [Option.some.inj h]
theorem nul_list (s : ByteArray) : (s ++ (⟨#[0]⟩ : ByteArray)).data.toList = s.data.toList ++ [0] := by simp
theorem value_path {S : MemS} {i : Nat} (hi : i < 4) {s : ByteArray} (hs : s.size ≤ 40) (hnz : ∀ b ∈ s.data.toList, b ≠ 0) (h : S.sl i = some (bt (s ++ ⟨#[0]⟩))) : valueF S 2 (slotA i) = (0, ⟨s, 0, 0⟩) := by
 have hlen : s.data.toList.length = s.size := by simp
 have hat : ∀ k, k < s.size → ∃ b, b ∈ s.data.toList ∧ s.data.toList[k]? = some b ∧ (s ++ (⟨#[0]⟩ : ByteArray)).data.toList[k]? = some b := fun k hk => by
  have hk2 : k < s.data.toList.length := by omega
  refine ⟨s.data.toList[k], List.getElem_mem hk2, List.getElem?_eq_getElem hk2, ?_⟩; rw [nul_list, List.getElem?_append_left hk2, List.getElem?_eq_getElem hk2]
 have hlow : ∀ k, k < s.size → bt (s ++ ⟨#[0]⟩) k = bt s k := fun k hk => by
  obtain ⟨b, _, h1, h2⟩ := hat k hk; rw [bt_get h1, bt_get h2]
 have hend : bt (s ++ ⟨#[0]⟩) s.size = 0 := by
  have : (s ++ (⟨#[0]⟩ : ByteArray)).data.toList[s.size]? = some 0 := by
   rw [nul_list, List.getElem?_append_right (by omega), show s.size - s.data.toList.length = 0 from by omega]; rfl
  rw [bt_get this]; rfl
 have hne : ∀ k, k < s.size → bt (s ++ ⟨#[0]⟩) k ≠ 0 := fun k hk => by
  obtain ⟨b, hb, _, h2⟩ := hat k hk; rw [bt_get h2]; intro e; apply hnz b hb; have : b.toNat = 0 := by omega
  exact UInt8.toNat_inj.1 (by rw [this]; rfl)
 have ht := readT_text (f := byteS S) (a := slotA i) (g := bt (s ++ ⟨#[0]⟩)) s.size (fun k hk => byte_sealed hi h (by omega)) hne hend hs 41 0 (by omega) (by omega); have hb : (List.range s.size).map (bt (s ++ ⟨#[0]⟩)) = (List.range s.size).map (bt s) := List.map_congr_left fun k hk => hlow k (List.mem_range.1 hk); rw [hb, back_text] at ht; unfold valueF textF; rw [if_pos rfl]
 have ht2 : readT (byteS S) (slotA i) 41 [] = (0, s) := ht; rw [ht2]
end Go.Proofs.YtmgngapkgcofnabGreatDoor
namespace Go.Proofs.YtmgngapkgcofnabGreatDoor
open Go.RowKit Go.PlainAid
theorem ptrK_skip (nr : Int) : ∀ (k a j : Nat), a ≤ j → j < ptrK nr a k → ¬ isP nr j
 | 0, a, j, h1, h2 => by unfold ptrK at h2; omega
 | k + 1, a, j, h1, h2 => by
  by_cases h : isP nr a
  ·have : ptrK nr a (k + 1) = a := by unfold ptrK; rw [if_neg (by unfold isP at h; omega)]
   omega
  ·have e1 : ptrK nr a (k + 1) = ptrK nr (a + 1) k := by rw [ptrK, if_pos (by unfold isP at h; omega)]
   rw [e1] at h2
   by_cases e : j = a
   ·rw [e]; exact h
   ·exact ptrK_skip nr k (a + 1) j (by omega) h2
theorem ptrN_skip (nr : Int) {a j : Nat} (h1 : a ≤ j) (h2 : j < ptrN nr a) : ¬ isP nr j := ptrK_skip nr _ a j h1 h2
structure ValOk (kind : Int) (x : ValD) : Prop where
 path : kind = 2 → x.ip = 0 ∧ x.port = 0 ∧ x.path.size ≤ 40 ∧ ∀ b ∈ x.path.data.toList, b ≠ 0
 addr : kind = 3 → x.path = ⟨#[]⟩ ∧ (0 ≤ x.ip ∧ x.ip < 4294967296) ∧ 0 ≤ x.port ∧ x.port ≤ 65535
def SealedT (M : MemS) (T : ThrS) : Prop := ∀ a, a < 4 →
 (isP T.now.nr a → ∃ i, i < 4 ∧ T.now.arg a = ((slotA i : Nat) : Int) ∧ slotA i ∈ T.seals ∧ M.sl i = some (bt (sealText (kindN T.now.nr a) (T.vals.at_ a))) ∧ ValOk (kindN T.now.nr a) (T.vals.at_ a)) ∧ (¬ isP T.now.nr a → T.vals.at_ a = zeroVal)
theorem value_at {M : MemS} {T : ThrS} (h : SealedT M T) {a : Nat} (ha : a < 4) (hp : isP T.now.nr a) : valueF M (kindN T.now.nr a) (T.now.arg a).toNat = (0, T.vals.at_ a) := by
 obtain ⟨i, hi, h1, _, h2, h3⟩ := (h a ha).1 hp; rw [h1, Int.toNat_natCast]; generalize T.vals.at_ a = x at *
 rcases hp with hk | hk
 ·rw [hk] at h2 h3 ⊢; obtain ⟨k1, k2, k3, k4⟩ := h3.path rfl; have e : sealText 2 x = x.path ++ ⟨#[0]⟩ := by unfold sealText; rw [if_neg (by decide)]
  rw [e] at h2; rw [value_path hi k3 k4 h2]; cases x; simp only at k1 k2 ⊢; rw [k1, k2]
 ·rw [hk] at h2 h3 ⊢; obtain ⟨k1, k2, k3, k4⟩ := h3.addr rfl; have e : sealText 3 x = bytesOfL (bytesA x.ip.toNat x.port.toNat) := by unfold sealText; rw [if_pos rfl, if_pos ⟨k3, k4⟩]
  rw [e] at h2; rw [value_addr hi (by omega) (by omega) h2]; cases x; simp only at k1 k2 k3 k4 ⊢; rw [k1, Int.toNat_of_nonneg k2.1, Int.toNat_of_nonneg k3]
theorem at_set (v : ValsD) (i j : Nat) (x : ValD) (hi : i < 4) (hj : j < 4) : (v.set i x).at_ j = if j = i then x else v.at_ j := by
 have h1 : i = 0 ∨ i = 1 ∨ i = 2 ∨ i = 3 := by omega
 have h2 : j = 0 ∨ j = 1 ∨ j = 2 ∨ j = 3 := by omega
 rcases h1 with rfl | rfl | rfl | rfl <;> rcases h2 with rfl | rfl | rfl | rfl <;> rfl
theorem vals_ext {v u : ValsD} (h : ∀ j, j < 4 → v.at_ j = u.at_ j) : v = u := by
 have h0 := h 0 (by omega); have h1 := h 1 (by omega); have h2 := h 2 (by omega); have h3 := h 3 (by omega)
 cases v; cases u
 simp only [ValsD.at_] at h0 h1 h2 h3; simp_all
theorem leads_judged {M : MemS} {T : ThrS} (h : SealedT M T) : ∀ (k a : Nat) (v : ValsD), a ≤ 4 → 4 ≤ a + k → (a < 4 → isP T.now.nr a) → (∀ j, j < 4 → v.at_ j = if j < a then T.vals.at_ j else zeroVal) → leadsK M T.now v a k = (0, T.vals)
 | 0, a, v, h1, h2, _, hv => by
  rw [leadsK]; rw [vals_ext (fun j hj => (hv j hj).trans (if_pos (by omega)))]
 | k + 1, a, v, h1, h2, hp, hv => by
  rw [leadsK]; split
  ·rw [vals_ext (fun j hj => (hv j hj).trans (if_pos (by omega)))]
  ·rename_i h4; rw [value_at h (by omega) (hp (by omega))]; simp only [ne_eq, not_true_eq_false, if_false]; obtain ⟨q1, q2⟩ := cnt_ptr T.now.nr (a + 1) (by omega); obtain ⟨r1, r2, _⟩ := ptrN_le T.now.nr (a + 1) (by omega); refine leads_judged h k _ _ r2 (by omega) q2 (fun j hj => ?_); rw [at_set v a j _ (by omega) hj]
   by_cases e : j = a
   ·rw [if_pos e, if_pos (by omega), e]
   ·rw [if_neg e, hv j hj]
    by_cases hja : j < a
    ·rw [if_pos hja, if_pos (by omega)]
    ·rw [if_neg hja]
     by_cases hjp : j < ptrN T.now.nr (a + 1)
     ·rw [if_pos hjp]; exact ((h j hj).2 (ptrN_skip T.now.nr (by omega) hjp)).symm
     ·rw [if_neg hjp]
theorem exec_judged {M : MemS} {T : ThrS} (h : SealedT M T) : leadsK M T.now zeroVals (ptrN T.now.nr 0) 5 = (0, T.vals) := by
 obtain ⟨q1, q2⟩ := cnt_ptr T.now.nr 0 (by omega); obtain ⟨r1, r2, _⟩ := ptrN_le T.now.nr 0 (by omega); refine leads_judged h 5 _ _ r2 (by omega) q2 (fun j hj => ?_)
 have hz : zeroVals.at_ j = zeroVal := by
  have h2 : j = 0 ∨ j = 1 ∨ j = 2 ∨ j = 3 := by omega
  rcases h2 with rfl | rfl | rfl | rfl <;> rfl
 rw [hz]; split
 ·rename_i hlt; exact ((h j hj).2 (ptrN_skip T.now.nr (by omega) hlt)).symm
 ·rfl
end Go.Proofs.YtmgngapkgcofnabGreatDoor
namespace Go.Proofs.YtmgngapkgcofnabGreatDoor
open Go.RowKit Go.PlainAid
theorem arg_set (c : CallD) (i j : Nat) (x : Int) (hi : i < 4) (hj : j < 4) : (c.setArg i x).arg j = if j = i then x else c.arg j := by
 have h1 : i = 0 ∨ i = 1 ∨ i = 2 ∨ i = 3 := by omega
 have h2 : j = 0 ∨ j = 1 ∨ j = 2 ∨ j = 3 := by omega
 rcases h1 with rfl | rfl | rfl | rfl <;> rcases h2 with rfl | rfl | rfl | rfl <;> rfl
def ReadT (T : ThrS) : Prop := ∀ j, j < 4 → (isP T.now.nr j → ValOk (kindN T.now.nr j) (T.vals.at_ j)) ∧ (¬ isP T.now.nr j → T.vals.at_ j = zeroVal)
def PartT (M : MemS) (T : ThrS) (a : Nat) : Prop := ∀ j, j < 4 → j < a → isP T.now.nr j → ∃ i, i < 4 ∧ T.now.arg j = ((slotA i : Nat) : Int) ∧ slotA i ∈ T.seals ∧ M.sl i = some (bt (sealText (kindN T.now.nr j) (T.vals.at_ j)))
theorem part_seal {M : MemS} {T : ThrS} {a i : Nat} (h : PartT M T a) (ha : a < 4) (hi : i < 4) (hfree : (M.sl i).isSome = false) :
  PartT (M.sealAt i (bt (sealText (kindN T.now.nr a) (T.vals.at_ a)))) { T with seals := T.seals ++ [slotA i], now := T.now.setArg a ((slotA i : Nat) : Int) } (ptrN T.now.nr (a + 1)) := by
 intro j hj hja hp; have hnr : (T.now.setArg a ((slotA i : Nat) : Int)).nr = T.now.nr := setArg_nr _ _ _; simp only at hp ⊢; rw [hnr] at hp ⊢
 by_cases e : j = a
 ·subst e; exact ⟨i, hi, by rw [arg_set _ _ _ _ hj hj, if_pos rfl], by simp, if_pos rfl⟩
 ·by_cases hlt : j < a
  ·obtain ⟨q, h1, h2, h3, h4⟩ := h j hj hlt hp; have hqi : q ≠ i := fun e2 => by rw [e2] at h4; rw [h4] at hfree; simp at hfree
   exact ⟨q, h1, by rw [arg_set _ _ _ _ ha hj, if_neg e]; exact h2, List.mem_append_left _ h3, (if_neg hqi).trans h4⟩
  ·exact absurd hp (ptrN_skip T.now.nr (by omega) hja)
theorem sealed_of_part {M : MemS} {T : ThrS} (h : PartT M T 4) (hr : ReadT T) : SealedT M T := fun a ha =>
 ⟨fun hp => by
  obtain ⟨i, h1, h2, h3, h4⟩ := h a ha ha hp; exact ⟨i, h1, h2, h3, h4, (hr a ha).1 hp⟩, (hr a ha).2⟩
theorem sealed_K {n : Nat} : ∀ (k a : Nat) (S : WardS), a ≤ 4 → 4 ≤ a + k → (a < 4 → isP (S.t n).now.nr a) → PartT S.m (S.t n) a → ReadT (S.t n) →
  (((sealK S n a k).t n).phase = 5 ∧ ((sealK S n a k).t n).asked = (S.t n).asked ∧ ((sealK S n a k).t n).vals = (S.t n).vals ∧ SealedT (sealK S n a k).m ((sealK S n a k).t n) ∧ (sealK S n a k).log = S.log) ∨
  (∃ S0 : WardS, sealK S n a k = endsS S0 n 2 12 zeroVals ∧ S0.log = S.log)
 | 0, a, S, h1, h2, _, hpt, hr => by
  left; rw [sealK]; have e : (setPh S n 5).t n = { S.t n with phase := 5 } := if_pos rfl; rw [e]; obtain rfl : a = 4 := by omega
  exact ⟨rfl, rfl, rfl, sealed_of_part hpt hr, rfl⟩
 | k + 1, a, S, h1, h2, hip, hpt, hr => by
  rw [sealK]; split
  ·left; have e : (setPh S n 5).t n = { S.t n with phase := 5 } := if_pos rfl; rw [e]; obtain rfl : a = 4 := by omega
   exact ⟨rfl, rfl, rfl, sealed_of_part hpt hr, rfl⟩
  ·rename_i h4; rcases sealX_cases S.m (sealText (kindN (S.t n).now.nr a) ((S.t n).vals.at_ a)) with ⟨hx, hs⟩ | ⟨i, hi, hx, hs, hfree, _⟩
   ·right; split; rename_i x f hxf; rw [hxf] at hx; rw [if_pos hx, hs]; exact ⟨_, rfl, rfl⟩
   ·rw [hx, hs]; simp only; rw [if_neg (by simp), Int.toNat_natCast]; have e : ((S.setM (S.m.sealAt i (bt (sealText (kindN (S.t n).now.nr a) ((S.t n).vals.at_ a))))).setT n { S.t n with seals := (S.t n).seals ++ [slotA i], now := (S.t n).now.setArg a ((slotA i : Nat) : Int) }).t n = { S.t n with seals := (S.t n).seals ++ [slotA i], now := (S.t n).now.setArg a ((slotA i : Nat) : Int) } := if_pos rfl
    have hnr : ((S.t n).now.setArg a ((slotA i : Nat) : Int)).nr = (S.t n).now.nr := setArg_nr _ _ _; obtain ⟨q1, q2⟩ := cnt_ptr (S.t n).now.nr (a + 1) (by omega); obtain ⟨r1, r2, _⟩ := ptrN_le (S.t n).now.nr (a + 1) (by omega)
    have ih := sealed_K (n := n) k (ptrN (S.t n).now.nr (a + 1)) ((S.setM (S.m.sealAt i (bt (sealText (kindN (S.t n).now.nr a) ((S.t n).vals.at_ a))))).setT n { S.t n with seals := (S.t n).seals ++ [slotA i], now := (S.t n).now.setArg a ((slotA i : Nat) : Int) }) r2 (by omega)
     (by rw [e]; show _ → isP ((S.t n).now.setArg a ((slotA i : Nat) : Int)).nr _; rw [hnr]; exact q2)
     (by rw [e]; exact part_seal hpt (by omega) hi hfree)
     (by
      rw [e]; intro j hj; have := hr j hj; show (isP ((S.t n).now.setArg a ((slotA i : Nat) : Int)).nr j → ValOk (kindN ((S.t n).now.setArg a ((slotA i : Nat) : Int)).nr j) ((S.t n).vals.at_ j)) ∧ (¬ isP ((S.t n).now.setArg a ((slotA i : Nat) : Int)).nr j → (S.t n).vals.at_ j = zeroVal)
      rw [hnr]; exact this)
    rw [e] at ih; exact ih
end Go.Proofs.YtmgngapkgcofnabGreatDoor
namespace Go.Proofs.YtmgngapkgcofnabGreatDoor
open Go.RowKit Go.PlainAid
structure SafeT (p : PolD) (M : MemS) (T : ThrS) : Prop where
 v1 : T.phase = 1 → T.vals = zeroVals
 v2 : T.phase = 2 → (∀ j, j < 4 → (isP T.now.nr j → j < T.arg → ValOk (kindN T.now.nr j) (T.vals.at_ j)) ∧ (¬ (isP T.now.nr j ∧ j < T.arg) → T.vals.at_ j = zeroVal)) ∧ (kindN T.now.nr T.arg = 2 → ∀ b ∈ T.buf, 1 ≤ b ∧ b ≤ 255)
 v3 : T.phase = 3 ∨ T.phase = 4 → ReadT T
 v4 : T.phase = 4 → (decideF p T.asked T.vals).1 = 1
 v5 : T.phase = 5 → (∀ v, (decideF p T.asked v).1 = 1) ∨ ((decideF p T.asked T.vals).1 = 1 ∧ SealedT M T)
structure SafeA (p : PolD) (S : WardS) : Prop where
 thr : ∀ n, SafeT p S.m (S.t n)
 live : ∀ n a, a ∈ (S.t n).seals → ∃ i, i < 4 ∧ a = slotA i ∧ S.m.sl i ≠ none
 disj : ∀ n k a, n ≠ k → a ∈ (S.t n).seals → a ∉ (S.t k).seals
 log : ∀ e ∈ S.log, e.kind = 1 → (decideF p e.call e.vals).1 = 1
theorem safeT_mono {p : PolD} {M M' : MemS} {T : ThrS} (h : SafeT p M T) (hm : ∀ i, i < 4 → slotA i ∈ T.seals → M'.sl i = M.sl i) : SafeT p M' T := by
 refine ⟨h.v1, h.v2, h.v3, h.v4, fun e => ?_⟩; rcases h.v5 e with h5 | ⟨h5, h6⟩
 ·exact .inl h5
 ·refine .inr ⟨h5, fun a ha => ⟨fun hp => ?_, (h6 a ha).2⟩⟩; obtain ⟨i, k1, k2, k3, k4, k5⟩ := (h6 a ha).1 hp; exact ⟨i, k1, k2, k3, (hm i k1 k3).trans k4, k5⟩
theorem safeT_rest (p : PolD) (M : MemS) {T : ThrS} (h : T.phase = 0 ∨ T.phase = 6) : SafeT p M T :=
 ⟨fun e => by omega, fun e => by omega, fun e => by omega, fun e => by omega, fun e => by omega⟩
theorem safeA_new (p : PolD) : SafeA p WardS.new :=
 ⟨fun _ => safeT_rest p _ (.inl rfl), fun _ _ h => by simp [WardS.new, ThrS.zero] at h, fun _ _ _ _ h => by simp [WardS.new, ThrS.zero] at h, fun _ h => by simp [WardS.new] at h⟩
theorem safeA_ends {p : PolD} {S : WardS} (h : SafeA p S) (n : Nat) (kind errno : Int) (v : ValsD) (hk : kind = 1 → (decideF p (S.t n).asked v).1 = 1) : SafeA p (endsS S n kind errno v) := by
 have et : ∀ k, (endsS S n kind errno v).t k = if k = n then (if kind = 3 then ThrS.dead else ThrS.zero) else S.t k := fun _ => rfl
 have en : ((endsS S n kind errno v).t n).seals = [] := by rw [et, if_pos rfl]; split <;> rfl
 have em : ∀ i, i < 4 → (endsS S n kind errno v).m.sl i = if slotA i ∈ (S.t n).seals then none else S.m.sl i := fun i hi => freesS_sl _ _ i hi
 refine ⟨fun k => ?_, fun k a ha => ?_, fun k j a hkj ha => ?_, fun e he h1 => ?_⟩
 ·by_cases e : k = n
  ·rw [e]; refine safeT_rest p _ ?_; rw [et, if_pos rfl]; split
   ·exact .inr rfl
   ·exact .inl rfl
  ·rw [et, if_neg e]; exact safeT_mono (h.thr k) fun i hi hm => (em i hi).trans (if_neg (h.disj k n _ e hm))
 ·by_cases e : k = n
  ·rw [e, en] at ha; cases ha
  ·rw [et, if_neg e] at ha; obtain ⟨i, h1, h2, h3⟩ := h.live k a ha; refine ⟨i, h1, h2, ?_⟩; rw [em i h1, if_neg (by rw [← h2]; exact h.disj k n a e ha)]; exact h3
 ·by_cases e : k = n
  ·rw [e, en] at ha; cases ha
  ·rw [et, if_neg e] at ha
   by_cases e2 : j = n
   ·rw [e2, en]; simp
   ·rw [et, if_neg e2]; exact h.disj k j a hkj ha
 ·have el : (endsS S n kind errno v).log = S.log ++ [⟨kind, n, (S.t n).asked, v, errno⟩] := rfl; rw [el] at he; rcases List.mem_append.1 he with he | he
  ·exact h.log e he h1
  ·rw [List.mem_singleton] at he; subst he; exact hk h1
theorem safeA_setT {p : PolD} {S : WardS} (h : SafeA p S) {n : Nat} {T : ThrS} (hs : T.seals = (S.t n).seals) (hT : SafeT p S.m T) : SafeA p (S.setT n T) := by
 have et : ∀ k, (S.setT n T).t k = if k = n then T else S.t k := fun _ => rfl
 have es : ∀ k, ((S.setT n T).t k).seals = (S.t k).seals := fun k => by
  rw [et]; split
  ·rename_i e; rw [e]; exact hs
  ·rfl
 refine ⟨fun k => ?_, fun k a ha => ?_, fun k j a hkj ha => ?_, h.log⟩
 ·rw [et]; split
  ·exact hT
  ·exact h.thr k
 ·rw [es] at ha; exact h.live k a ha
 ·rw [es] at ha ⊢; exact h.disj k j a hkj ha
theorem safeA_setM {p : PolD} {S : WardS} (h : SafeA p S) {M : MemS} (hm : M.sl = S.m.sl) : SafeA p (S.setM M) :=
 ⟨fun k => safeT_mono (h.thr k) fun i _ _ => by show M.sl i = _; rw [hm], fun k a ha => by
  obtain ⟨i, h1, h2, h3⟩ := h.live k a ha; exact ⟨i, h1, h2, by show M.sl i ≠ none; rw [hm]; exact h3⟩, h.disj, h.log⟩
theorem safeA_does {p : PolD} {S : WardS} (h : SafeA p S) (n : Nat) (a : Int × Int) : SafeA p (doesS S n a) := by
 unfold doesS; split
 ·exact h
 ·split
  ·exact safeA_ends h n _ _ _ (fun e => by omega)
  ·exact safeA_ends h n _ _ _ (fun e => by omega)
theorem safeA_exec {p : PolD} {S : WardS} (h : SafeA p S) (n : Nat) (h5 : (S.t n).phase = 5) : SafeA p (execS S n) := by
 unfold execS; split
 ·exact safeA_ends h n _ _ _ (fun e => by omega)
 ·split; rename_i f v hl; split
  ·exact safeA_ends h n _ _ _ (fun e => by omega)
  ·refine safeA_ends h n _ _ _ (fun _ => ?_); rcases (h.thr n).v5 h5 with k | ⟨k1, k2⟩
   ·exact k v
   ·rw [exec_judged k2] at hl; simp only [Prod.mk.injEq] at hl; rw [← hl.2]; exact k1
theorem safeA_filter {p : PolD} (hf : polF p = 0) {S : WardS} (h : SafeA p S) (n : Nat) (hg : GoodT (S.t n)) (h1 : (S.t n).phase = 1) : SafeA p (filterS p S n) := by
 have hv := (h.thr n).v1 h1; obtain ⟨_, hna⟩ := hg.sea (by omega); unfold filterS; split
 ·rename_i h4; obtain ⟨q1, q2, _⟩ := trace_ptr hf h4; refine safeA_setT h rfl ⟨fun e => by simp at e, fun _ => ⟨fun j hj => ⟨fun hp hlt => absurd hp (ptrN_skip _ (Nat.zero_le _) hlt), fun _ => ?_⟩, fun _ b hb => ?_⟩, fun e => by simp at e, fun e => by simp at e, fun e => by simp at e⟩
  ·show (S.t n).vals.at_ j = zeroVal; rw [hv]; have h2 : j = 0 ∨ j = 1 ∨ j = 2 ∨ j = 3 := by omega
   rcases h2 with rfl | rfl | rfl | rfl <;> rfl
  ·have : b ∈ (S.t n).buf := hb; rw [hg.at1 h1] at this; cases this
 ·split
  ·rename_i h4 h5; refine safeA_setT h rfl ⟨fun e => by simp at e, fun e => by simp at e, fun e => by simp at e, fun e => by simp at e, fun _ => .inl fun v => ?_⟩; show (decideF p (S.t n).asked v).1 = 1; rw [← hna]; rw [(judge_tells hf (S.t n).now v (by omega)).1]; exact h5
  ·exact safeA_does h _ _
theorem safeA_judge {p : PolD} {S : WardS} (h : SafeA p S) (n : Nat) (h3 : (S.t n).phase = 3) : SafeA p (judgeS p S n) := by
 have hr := (h.thr n).v3 (.inl h3); unfold judgeS; split
 ·rename_i hd; exact safeA_setT h rfl ⟨fun e => by simp at e, fun e => by simp at e, fun _ => hr, fun _ => hd, fun e => by simp at e⟩
 ·exact safeA_does h _ _
end Go.Proofs.YtmgngapkgcofnabGreatDoor
namespace Go.Proofs.YtmgngapkgcofnabGreatDoor
open Go.RowKit Go.PlainAid
theorem slotA_inj {i j : Nat} (h : slotA i = slotA j) : i = j := by unfold slotA at h; omega
theorem safeA_sealPut {p : PolD} {S : WardS} (h : SafeA p S) {n i : Nat} (h4 : (S.t n).phase = 4) (hi : i < 4) (hfree : (S.m.sl i).isSome = false) (f : Nat → Int) (a : Nat) :
  SafeA p ((S.setM (S.m.sealAt i f)).setT n { S.t n with seals := (S.t n).seals ++ [slotA i], now := (S.t n).now.setArg a ((slotA i : Nat) : Int) }) := by
 have et : ∀ k, ((S.setM (S.m.sealAt i f)).setT n { S.t n with seals := (S.t n).seals ++ [slotA i], now := (S.t n).now.setArg a ((slotA i : Nat) : Int) }).t k = if k = n then { S.t n with seals := (S.t n).seals ++ [slotA i], now := (S.t n).now.setArg a ((slotA i : Nat) : Int) } else S.t k := fun _ => rfl
 have em : ∀ j, ((S.setM (S.m.sealAt i f)).setT n { S.t n with seals := (S.t n).seals ++ [slotA i], now := (S.t n).now.setArg a ((slotA i : Nat) : Int) }).m.sl j = if j = i then some f else S.m.sl j := fun _ => rfl
 have hnr : ((S.t n).now.setArg a ((slotA i : Nat) : Int)).nr = (S.t n).now.nr := setArg_nr _ _ _
 have hno : ∀ k, slotA i ∉ (S.t k).seals := fun k hm => by
  obtain ⟨j, h1, h2, h3⟩ := h.live k _ hm; rw [← slotA_inj h2] at h3
  cases hs : S.m.sl i with
  | none => exact h3 hs
  | some x => rw [hs] at hfree; simp at hfree
 refine ⟨fun k => ?_, fun k b hb => ?_, fun k j b hkj hb => ?_, h.log⟩
 ·rw [et]; split
  ·refine ⟨fun e => ?_, fun e => ?_, fun _ => ?_, fun _ => (h.thr n).v4 h4, fun e => ?_⟩
   ·simp only at e; omega
   ·simp only at e; omega
   ·intro j hj; have := (h.thr n).v3 (.inr h4) j hj; show (isP ((S.t n).now.setArg a ((slotA i : Nat) : Int)).nr j → ValOk (kindN ((S.t n).now.setArg a ((slotA i : Nat) : Int)).nr j) ((S.t n).vals.at_ j)) ∧ (¬ isP ((S.t n).now.setArg a ((slotA i : Nat) : Int)).nr j → (S.t n).vals.at_ j = zeroVal)
    rw [hnr]; exact this
   ·simp only at e; omega
  ·exact safeT_mono (h.thr k) fun j hj hm => (em j).trans (if_neg fun e => hno k (by rw [← e]; exact hm))
 ·have hold : ∀ b, (∃ j, j < 4 ∧ b = slotA j ∧ S.m.sl j ≠ none) → ∃ j, j < 4 ∧ b = slotA j ∧ ((S.setM (S.m.sealAt i f)).setT n { S.t n with seals := (S.t n).seals ++ [slotA i], now := (S.t n).now.setArg a ((slotA i : Nat) : Int) }).m.sl j ≠ none := fun b hb2 => by
   obtain ⟨j, h1, h2, h3⟩ := hb2; refine ⟨j, h1, h2, ?_⟩; rw [em]; split
   ·simp
   ·exact h3
  rw [et] at hb; split at hb
  ·rcases List.mem_append.1 hb with hb | hb
   ·exact hold b (h.live n b hb)
   ·rw [List.mem_singleton] at hb; exact ⟨i, hi, hb, by rw [em, if_pos rfl]; simp⟩
  ·exact hold b (h.live k b hb)
 ·rw [et] at hb ⊢
  by_cases e : k = n
  ·rw [if_pos e] at hb; have hjn : j ≠ n := fun e2 => hkj (e.trans e2.symm); rw [if_neg hjn]; rcases List.mem_append.1 hb with hb | hb
   ·exact h.disj n j b (fun e2 => hjn e2.symm) hb
   ·rw [List.mem_singleton] at hb; rw [hb]; exact hno j
  ·rw [if_neg e] at hb
   by_cases e2 : j = n
   ·rw [if_pos e2]; intro hm; rcases List.mem_append.1 hm with hm | hm
    ·exact h.disj k n b e hb hm
    ·rw [List.mem_singleton] at hm; rw [hm] at hb; exact hno k hb
   ·rw [if_neg e2]; exact h.disj k j b hkj hb
theorem safeA_ph5 {p : PolD} {S : WardS} (h : SafeA p S) {n : Nat} (h4 : (S.t n).phase = 4) (hs : SealedT S.m (S.t n)) : SafeA p (setPh S n 5) :=
 safeA_setT h rfl ⟨fun e => by simp at e, fun e => by simp at e, fun e => by simp at e, fun e => by simp at e, fun _ => .inr ⟨(h.thr n).v4 h4, hs⟩⟩
theorem safeA_sealK {p : PolD} {n : Nat} : ∀ (k a : Nat) (S : WardS), SafeA p S → (S.t n).phase = 4 → a ≤ 4 → 4 ≤ a + k → (a < 4 → isP (S.t n).now.nr a) → PartT S.m (S.t n) a → SafeA p (sealK S n a k)
 | 0, a, S, h, h4, h1, h2, _, hpt => by
  rw [sealK]; obtain rfl : a = 4 := by omega
  exact safeA_ph5 h h4 (sealed_of_part hpt ((h.thr n).v3 (.inr h4)))
 | k + 1, a, S, h, h4, h1, h2, hip, hpt => by
  rw [sealK]; split
  ·obtain rfl : a = 4 := by omega
   exact safeA_ph5 h h4 (sealed_of_part hpt ((h.thr n).v3 (.inr h4)))
  ·rename_i hlt; rcases sealX_cases S.m (sealText (kindN (S.t n).now.nr a) ((S.t n).vals.at_ a)) with ⟨hx, hs⟩ | ⟨i, hi, hx, hs, hfree, _⟩
   ·split; rename_i x f hxf; rw [hxf] at hx; rw [if_pos hx, hs]; exact safeA_ends (safeA_setM h rfl) n _ _ _ (fun e => by omega)
   ·rw [hx, hs]; simp only; rw [if_neg (by simp), Int.toNat_natCast]; have e : ((S.setM (S.m.sealAt i (bt (sealText (kindN (S.t n).now.nr a) ((S.t n).vals.at_ a))))).setT n { S.t n with seals := (S.t n).seals ++ [slotA i], now := (S.t n).now.setArg a ((slotA i : Nat) : Int) }).t n = { S.t n with seals := (S.t n).seals ++ [slotA i], now := (S.t n).now.setArg a ((slotA i : Nat) : Int) } := if_pos rfl
    have hnr : ((S.t n).now.setArg a ((slotA i : Nat) : Int)).nr = (S.t n).now.nr := setArg_nr _ _ _; obtain ⟨q1, q2⟩ := cnt_ptr (S.t n).now.nr (a + 1) (by omega); obtain ⟨r1, r2, _⟩ := ptrN_le (S.t n).now.nr (a + 1) (by omega)
    exact safeA_sealK (n := n) k (ptrN (S.t n).now.nr (a + 1)) _ (safeA_sealPut h h4 hi hfree _ a) (by rw [e]; exact h4) r2 (by omega)
     (by rw [e]; show _ → isP ((S.t n).now.setArg a ((slotA i : Nat) : Int)).nr _; rw [hnr]; exact q2)
     (by rw [e]; exact part_seal hpt (by omega) hi hfree)
theorem safeA_seal {p : PolD} {S : WardS} (h : SafeA p S) (n : Nat) (h4 : (S.t n).phase = 4) : SafeA p (sealStep S n) := by
 obtain ⟨q1, q2⟩ := cnt_ptr (S.t n).now.nr 0 (by omega); obtain ⟨r1, r2, _⟩ := ptrN_le (S.t n).now.nr 0 (by omega); exact safeA_sealK 5 _ S h h4 r2 (by omega) q2 (fun j hj hlt hp => absurd hp (ptrN_skip _ (Nat.zero_le _) hlt))
end Go.Proofs.YtmgngapkgcofnabGreatDoor
namespace Go.Proofs.YtmgngapkgcofnabGreatDoor
open Go.RowKit Go.PlainAid
theorem safeT_further {p : PolD} {M : MemS} {T : ThrS} (h : SafeT p M T) (hg : GoodT T) (h2 : T.phase = 2) {x : ValD} (hx : ValOk (kindN T.now.nr T.arg) x) : SafeT p M (furtherT { T with vals := T.vals.set T.arg x }) := by
 obtain ⟨b1, b2, _⟩ := hg.at2 h2; obtain ⟨k1, _⟩ := h.v2 h2; obtain ⟨r1, r2, _⟩ := ptrN_le T.now.nr (T.arg + 1) (by omega)
 have hf : furtherT { T with vals := T.vals.set T.arg x } = { T with vals := T.vals.set T.arg x, buf := [], arg := ptrN T.now.nr (T.arg + 1), phase := if ptrN T.now.nr (T.arg + 1) = 4 then 3 else 2 } := by
  unfold furtherT; simp only [h2]
 have hval : ∀ j, j < 4 → (isP T.now.nr j → j < ptrN T.now.nr (T.arg + 1) → ValOk (kindN T.now.nr j) ((T.vals.set T.arg x).at_ j)) ∧ (¬ (isP T.now.nr j ∧ j < ptrN T.now.nr (T.arg + 1)) → (T.vals.set T.arg x).at_ j = zeroVal) := fun j hj => by
  rw [at_set _ _ _ _ b1 hj]; refine ⟨fun hp hlt => ?_, fun hn => ?_⟩
  ·by_cases e : j = T.arg
   ·rw [if_pos e, e]; exact hx
   ·rw [if_neg e]
    by_cases hja : j < T.arg
    ·exact (k1 j hj).1 hp hja
    ·exact absurd hp (ptrN_skip _ (by omega) hlt)
  ·by_cases e : j = T.arg
   ·exact absurd ⟨by rw [e]; exact b2, by omega⟩ hn
   ·rw [if_neg e]; exact (k1 j hj).2 fun hh => hn ⟨hh.1, by omega⟩
 rw [hf]
 by_cases h4 : ptrN T.now.nr (T.arg + 1) = 4
 ·rw [if_pos h4]; refine ⟨fun e => by simp at e, fun e => by simp at e, fun _ j hj => ?_, fun e => by simp at e, fun e => by simp at e⟩; have := hval j hj; rw [h4] at this; exact ⟨fun hp => this.1 hp hj, fun hp => this.2 fun hh => hp hh.1⟩
 ·rw [if_neg h4]; exact ⟨fun e => by simp at e, fun _ => ⟨hval, fun _ b hb => by cases hb⟩, fun e => by simp at e, fun e => by simp at e, fun e => by simp at e⟩
theorem valOk_path {buf : List Int} (hl : buf.length ≤ 40) (hb : ∀ b ∈ buf, 1 ≤ b ∧ b ≤ 255) : ValOk 2 ⟨strOfNums buf, 0, 0⟩ := by
 refine ⟨fun _ => ⟨rfl, rfl, ?_, fun b hm => ?_⟩, fun e => by omega⟩
 ·show (strOfNums buf).size ≤ 40; rw [strOfNums_size]; exact hl
 ·have hm2 : b ∈ (strOfNums buf).data.toList := hm; rw [strOfNums_data] at hm2; obtain ⟨y, hy, rfl⟩ := List.mem_map.1 hm2; have := hb y hy; intro e; have h3 : (UInt8.ofNat y.toNat).toNat = 0 := by rw [e]; rfl
  rw [ofNat_n (by omega)] at h3; omega
theorem valOk_addr {s : ByteArray} {ip port : Nat} (h : readA s = some (ip, port)) : ValOk 3 ⟨⟨#[]⟩, (ip : Int), (port : Int)⟩ := by
 unfold readA at h; split at h
 ·simp only [Option.some.injEq, Prod.mk.injEq] at h; obtain ⟨rfl, rfl⟩ := h; have h1 := ipOf_lt s; have h2 := portOf_lt s; exact ⟨fun e => by omega, fun _ => ⟨rfl, ⟨by simp, by show ((ipOf s : Nat) : Int) < _; omega⟩, by simp, by show ((portOf s : Nat) : Int) ≤ _; omega⟩⟩
 ·cases h
theorem safeA_snap {p : PolD} {S : WardS} (h : SafeA p S) (hok : S.m.ok) (n : Nat) (hg : GoodT (S.t n)) (h2 : (S.t n).phase = 2) : SafeA p (snapS S n) := by
 obtain ⟨b1, b2, b3⟩ := hg.at2 h2; obtain ⟨k1, k2⟩ := (h.thr n).v2 h2; have hz : (S.t n).vals.at_ (S.t n).arg = zeroVal := (k1 _ b1).2 fun hh => by omega
 have hmore : ∀ b, (kindN (S.t n).now.nr (S.t n).arg = 2 → 1 ≤ b ∧ b ≤ 255) → SafeT p S.m { S.t n with buf := (S.t n).buf ++ [b] } := fun b hb =>
  ⟨fun e => by have : (S.t n).phase = 1 := e; omega, fun _ => ⟨k1, fun hk c hc => by
   rcases List.mem_append.1 hc with hc | hc
   ·exact k2 hk c hc
   ·rw [List.mem_singleton] at hc; rw [hc]; exact hb hk⟩, fun e => by have : (S.t n).phase = 3 ∨ (S.t n).phase = 4 := e; omega, fun e => by have : (S.t n).phase = 4 := e; omega, fun e => by have : (S.t n).phase = 5 := e; omega⟩
 unfold snapS; split
 ·exact safeA_ends h n _ _ _ (fun e => by omega)
 ·rename_i b hb; have hby := byteS_byte hok hb; split
  ·rename_i hk; split
   ·rw [hz]; have hv := valOk_path b3 (k2 hk); rw [← hk] at hv; exact safeA_setT h rfl (safeT_further (h.thr n) hg h2 hv)
   ·split
    ·exact safeA_ends h n _ _ _ (fun e => by omega)
    ·rename_i hb0 _; exact safeA_setT h rfl (hmore b fun _ => by omega)
  ·rename_i hk; split
   ·exact safeA_setT h rfl (hmore b fun e => absurd e hk)
   ·split
    ·exact safeA_ends (safeA_setT (n := n) (T := { S.t n with buf := (S.t n).buf ++ [b] }) h rfl (hmore b fun e => absurd e hk)) n _ _ _ (fun e => by omega)
    ·rename_i ip port hr; rw [hz]; have hk3 : kindN (S.t n).now.nr (S.t n).arg = 3 := b2.resolve_left hk; have hv := valOk_addr hr; rw [← hk3] at hv; exact safeA_setT h rfl (safeT_further (h.thr n) hg h2 hv)
theorem safeA_step {p : PolD} (hf : polF p = 0) {S : WardS} (h : SafeA p S) (hok : S.m.ok) (n : Nat) (hg : GoodT (S.t n)) : SafeA p (stepT p S n) := by
 unfold stepT; split
 ·exact safeA_filter hf h n hg (by assumption)
 ·split
  ·exact safeA_snap h hok n hg (by assumption)
  ·split
   ·exact safeA_judge h n (by assumption)
   ·split
    ·exact safeA_seal h n (by assumption)
    ·split
     ·exact safeA_exec h n (by assumption)
     ·exact h
theorem safeA_enter {p : PolD} {S : WardS} (h : SafeA p S) (hG : ∀ k, GoodT (S.t k)) (n : Int) (c : CallD) : SafeA p (enterS S n c) := by
 unfold enterS; split
 ·rename_i he
  have h0 : (S.t n.toNat).phase = 0 := by
   unfold enterE at he; split at he
   ·omega
   ·split at he
    ·assumption
    ·split at he <;> omega
  refine safeA_setT h ?_ ⟨fun _ => rfl, fun e => by simp at e, fun e => by simp at e, fun e => by simp at e, fun e => by simp at e⟩; exact ((hG _).sea (by omega)).1.symm
 ·exact h
end Go.Proofs.YtmgngapkgcofnabGreatDoor
namespace Go.Proofs.YtmgngapkgcofnabGreatDoor
open Go.RowKit Go.PlainAid
theorem mapS_okS {M : MemS} (h : M.ok) (n : Int) (wr : Bool) : (mapS M n wr).ok := by
 unfold mapS; split
 ·exact h
 ·exact map_ok h _ _
theorem unmapS_okS {M : MemS} (h : M.ok) (n : Int) : (unmapS M n).ok := by
 unfold unmapS; split
 ·exact unmap_ok h _
 ·exact h
theorem putN_okS {M : MemS} (h : M.ok) (a : Nat) {f : Nat → Int} (hf : ∀ k, 0 ≤ f k ∧ f k ≤ 255) : ∀ k, (putN M a f k).ok
 | 0 => h
 | k + 1 => by rw [putN]; exact poke_ok (putN_okS h a hf k) _ (hf k).1 (hf k).2
theorem putS_okS {M : MemS} (h : M.ok) (a : Nat) (s : ByteArray) : (putS M a s).ok := by
 unfold putS; split
 ·exact putN_okS h a (bt_range s) _
 ·exact h
theorem freesS_ok : ∀ (l : List Nat) {M : MemS}, M.ok → (freesS M l).ok
 | [], _, h => h
 | a :: r, M, h => by
  rw [freesS]; refine freesS_ok r ?_; unfold freeS; split
  ·exact free_ok h _
  ·exact h
theorem ends_ok {S : WardS} (h : S.m.ok) (n : Nat) (kind errno : Int) (v : ValsD) : (endsS S n kind errno v).m.ok := freesS_ok _ h
theorem does_ok {S : WardS} (h : S.m.ok) (n : Nat) (a : Int × Int) : (doesS S n a).m.ok := by
 unfold doesS; split
 ·exact h
 ·split <;> exact ends_ok h _ _ _ _
theorem sealK_ok {n : Nat} : ∀ (k a : Nat) (S : WardS), S.m.ok → (sealK S n a k).m.ok
 | 0, a, S, h => h
 | k + 1, a, S, h => by
  rw [sealK]; split
  ·exact h
  ·rcases sealX_cases S.m (sealText (kindN (S.t n).now.nr a) ((S.t n).vals.at_ a)) with ⟨hx, hs⟩ | ⟨i, hi, hx, hs, _, _⟩
   ·split; rename_i x f hxf; rw [hxf] at hx; rw [if_pos hx, hs]; exact ends_ok h _ _ _ _
   ·rw [hx, hs]; simp only; rw [if_neg (by simp)]; exact sealK_ok k _ _ (sealAt_ok h i (bt_range _))
theorem step_ok {p : PolD} {S : WardS} (h : S.m.ok) (n : Nat) : (stepT p S n).m.ok := by
 unfold stepT; split
 ·unfold filterS; split
  ·exact h
  ·split
   ·exact h
   ·exact does_ok h _ _
 ·split
  ·unfold snapS; split
   ·exact ends_ok h _ _ _ _
   ·split
    ·split
     ·exact h
     ·split
      ·exact ends_ok h _ _ _ _
      ·exact h
    ·split
     ·exact h
     ·split
      ·refine ends_ok ?_ _ _ _ _; exact h
      ·exact h
  ·split
   ·unfold judgeS; split
    ·exact h
    ·exact does_ok h _ _
   ·split
    ·exact sealK_ok 5 _ S h
    ·split
     ·unfold execS; split
      ·exact ends_ok h _ _ _ _
      ·split; split
       ·exact ends_ok h _ _ _ _
       ·exact ends_ok h _ _ _ _
     ·exact h
theorem safeA_stepI {p : PolD} (hf : polF p = 0) {S : WardS} (h : SafeA p S) (hok : S.m.ok) (hG : ∀ k, GoodT (S.t k)) (n : Int) : SafeA p (stepS p S n) ∧ (stepS p S n).m.ok := by
 unfold stepS; split
 ·exact ⟨h, hok⟩
 ·exact ⟨safeA_step hf h hok _ (hG _), step_ok hok _⟩
theorem safeA_steps {p : PolD} (hf : polF p = 0) {S : WardS} {L : Nat} (h : SafeA p S) (hok : S.m.ok) (hG : GoodS S L) (n : Int) : ∀ k, SafeA p (stepsS p S n k) ∧ (stepsS p S n k).m.ok
 | 0 => ⟨h, hok⟩
 | k + 1 => by
  obtain ⟨h1, h2⟩ := safeA_steps hf h hok hG n k; exact safeA_stepI hf h1 h2 (good_steps hf hG n k).thr n
theorem enter_m (S : WardS) (n : Int) (c : CallD) : (enterS S n c).m = S.m := by unfold enterS; split <;> rfl
theorem safeA_did {p : PolD} (hf : polF p = 0) {S : WardS} {L : Nat} (h : SafeA p S) (hok : S.m.ok) (hG : GoodS S L) (a : ActD) : SafeA p (didS p S a) ∧ (didS p S a).m.ok := by
 unfold didS; split
 ·exact ⟨safeA_setM h (mapS_sl _ _ _), mapS_okS hok _ _⟩
 ·split
  ·exact ⟨safeA_setM h (unmapS_sl _ _), unmapS_okS hok _⟩
  ·split
   ·exact ⟨safeA_setM h (putS_sl _ _ _), putS_okS hok _ _⟩
   ·split
    ·exact ⟨safeA_enter h hG.thr _ _, by rw [enter_m]; exact hok⟩
    ·split
     ·exact safeA_steps hf h hok hG _ _
     ·exact safeA_stepI hf h hok hG.thr _
end Go.Proofs.YtmgngapkgcofnabGreatDoor
namespace Go.Proofs.YtmgngapkgcofnabGreatDoor
open Go.RowKit Go.PlainAid
theorem readT_size (f : Nat → Option Int) (a : Nat) : ∀ (n : Nat) (l : List Int), l.length ≤ 40 → (readT f a n l).2.size ≤ 40
 | 0, l, _ => by rw [readT]; exact Nat.zero_le _
 | n + 1, l, h => by
  rw [readT]; split
  ·exact Nat.zero_le _
  ·split
   ·show (strOfNums l).size ≤ 40; rw [strOfNums_size]; exact h
   ·split
    ·exact Nat.zero_le _
    ·exact readT_size f a n _ (by simp; omega)
theorem zeroVal_ok2 : zeroVal.ok := ⟨Nat.zero_le _, by decide, by decide⟩
theorem valueF_ok (M : MemS) (kind : Int) (a : Nat) : (valueF M kind a).2.ok := by
 unfold valueF; split
 ·refine ⟨?_, by simp, by simp⟩; have : (textF M a).2.size ≤ 40 := readT_size _ _ _ _ (by simp); show (textF M a).2.size ≤ 100000; omega
 ·split
  ·exact zeroVal_ok2
  ·split
   ·exact zeroVal_ok2
   ·rename_i ip port hr; have hv := (valOk_addr hr).addr rfl; exact ⟨Nat.zero_le _, hv.2.1⟩
theorem leads_ok (M : MemS) (c : CallD) : ∀ (k a : Nat) (v : ValsD), v.ok → (leadsK M c v a k).2.ok
 | 0, a, v, h => h
 | k + 1, a, v, h => by
  rw [leadsK]; split
  ·exact h
  ·split; rename_i f x hx; split
   ·exact h
   ·refine leads_ok M c k _ _ (valsSet_ok h a ?_); have := valueF_ok M (kindN c.nr a) (c.arg a).toNat; rw [hx] at this; exact this
def LogOk (S : WardS) : Prop := ∀ e ∈ S.log, e.kind = 1 → e.vals.ok
theorem logOk_ends {S : WardS} (h : LogOk S) (n : Nat) (kind errno : Int) {v : ValsD} (hv : kind = 1 → v.ok) : LogOk (endsS S n kind errno v) := fun e he h1 => by
 have el : (endsS S n kind errno v).log = S.log ++ [⟨kind, n, (S.t n).asked, v, errno⟩] := rfl; rw [el] at he; rcases List.mem_append.1 he with he | he
 ·exact h e he h1
 ·rw [List.mem_singleton] at he; subst he; exact hv h1
theorem logOk_does {S : WardS} (h : LogOk S) (n : Nat) (a : Int × Int) : LogOk (doesS S n a) := by
 unfold doesS; split
 ·exact h
 ·split <;> exact logOk_ends h _ _ _ (fun e => by omega)
theorem logOk_sealK {n : Nat} : ∀ (k a : Nat) (S : WardS), LogOk S → LogOk (sealK S n a k)
 | 0, a, S, h => h
 | k + 1, a, S, h => by
  rw [sealK]; split
  ·exact h
  ·split; split
   ·refine logOk_ends ?_ _ _ _ (fun e => by omega); exact h
   ·exact logOk_sealK k _ _ h
theorem logOk_step {p : PolD} {S : WardS} (h : LogOk S) (n : Nat) : LogOk (stepT p S n) := by
 unfold stepT; split
 ·unfold filterS; split
  ·exact h
  ·split
   ·exact h
   ·exact logOk_does h _ _
 ·split
  ·unfold snapS; split
   ·exact logOk_ends h _ _ _ (fun e => by omega)
   ·split
    ·split
     ·exact h
     ·split
      ·exact logOk_ends h _ _ _ (fun e => by omega)
      ·exact h
    ·split
     ·exact h
     ·split
      ·refine logOk_ends ?_ _ _ _ (fun e => by omega); exact h
      ·exact h
  ·split
   ·unfold judgeS; split
    ·exact h
    ·exact logOk_does h _ _
   ·split
    ·exact logOk_sealK 5 _ S h
    ·split
     ·unfold execS; split
      ·exact logOk_ends h _ _ _ (fun e => by omega)
      ·split; rename_i f v hl; split
       ·exact logOk_ends h _ _ _ (fun e => by omega)
       ·refine logOk_ends h _ _ _ (fun _ => ?_); have := leads_ok S.m (S.t n).now 5 (ptrN (S.t n).now.nr 0) zeroVals ⟨zeroVal_ok2, zeroVal_ok2, zeroVal_ok2, zeroVal_ok2⟩; rw [hl] at this; exact this
     ·exact h
theorem logOk_stepI {p : PolD} {S : WardS} (h : LogOk S) (n : Int) : LogOk (stepS p S n) := by
 unfold stepS; split
 ·exact h
 ·exact logOk_step h _
theorem logOk_steps {p : PolD} {S : WardS} (h : LogOk S) (n : Int) : ∀ k, LogOk (stepsS p S n k)
 | 0 => h
 | k + 1 => logOk_stepI (logOk_steps h n k) n
theorem logOk_did {p : PolD} {S : WardS} (h : LogOk S) (a : ActD) : LogOk (didS p S a) := by
 unfold didS; split
 ·exact h
 ·split
  ·exact h
  ·split
   ·exact h
   ·split
    ·unfold enterS; split <;> exact h
    ·split
     ·exact logOk_steps h _ _
     ·exact logOk_stepI h _
end Go.Proofs.YtmgngapkgcofnabGreatDoor
namespace Go.Proofs.YtmgngapkgcofnabGreatDoor
open Go.RowKit Go.PlainAid
theorem heaps1 (w : World) (o1 : Obj) (W : World) (h : Below (w.alloc o1).heap.size (w.alloc o1) W) : Below w.heap.size w W ∧ W.heap[w.heap.size]? = some o1 :=
 ⟨((Below.refl _ _).alloc (Nat.le_refl _) o1).trans (h.mono (by simp)), (h.block _ (by simp)).trans (heap_alloc_new w o1)⟩
theorem tcrow3 {W : World} {b : Nat} {t : TypeId} {a0 a1 a2 : Value} (h : W.heap[b]? = some (.cells #[a0, a1, a2] t (0, 0))) : W.cell? ⟨b, 0, none⟩ = some a0 ∧ W.cell? ⟨b, 1, none⟩ = some a1 ∧ W.cell? ⟨b, 2, none⟩ = some a2 :=
 ⟨(cell_of_row _ _ _ _ _ _ h).trans rfl, (cell_of_row _ _ _ _ _ _ h).trans rfl, (cell_of_row _ _ _ _ _ _ h).trans rfl⟩
theorem tcrow6 {W : World} {b : Nat} {t : TypeId} {a0 a1 a2 a3 a4 a5 : Value} (h : W.heap[b]? = some (.cells #[a0, a1, a2, a3, a4, a5] t (0, 0))) : W.cell? ⟨b, 0, none⟩ = some a0 ∧ W.cell? ⟨b, 1, none⟩ = some a1 ∧ W.cell? ⟨b, 2, none⟩ = some a2 ∧ W.cell? ⟨b, 3, none⟩ = some a3 ∧ W.cell? ⟨b, 4, none⟩ = some a4 ∧ W.cell? ⟨b, 5, none⟩ = some a5 :=
 ⟨(cell_of_row _ _ _ _ _ _ h).trans rfl, (cell_of_row _ _ _ _ _ _ h).trans rfl, (cell_of_row _ _ _ _ _ _ h).trans rfl, (cell_of_row _ _ _ _ _ _ h).trans rfl, (cell_of_row _ _ _ _ _ _ h).trans rfl, (cell_of_row _ _ _ _ _ _ h).trans rfl⟩
theorem tlight_bounds {p : PolD} (h : lightP p = true) : (∀ r ∈ p.rules, ∀ c ∈ r.conds, c.glob.size ≤ 4096) ∧ p.rules.length ≤ 4096 ∧ ∀ r ∈ p.rules, r.conds.length ≤ 4096 := by
 obtain ⟨h1, h2⟩ := (lightP_iff p).1 h; exact ⟨fun r hr c hc => by have := (h2 r hr).2 c hc; omega, by omega, fun r hr => by have := (h2 r hr).1; omega⟩
theorem tact_info : (Tryz.prog.info? 54).map (·.size) = some 11 := by kernel_rfl
theorem acts_at {w : World} {H : Nat} {v : Value} {l : List ActD} (h : ActsSl w H v l) : ∃ A c, v = .slice A l.length c ∧ (∀ x ∈ l, x.ok) ∧ ∀ i x, l[i]? = some x → ∃ b o, A = some ⟨b, o, none⟩ ∧ ∀ W, Below H w W → W.rangeAt b (o + i * 11) x.row := by
 obtain ⟨h0, A, c, rfl, h2⟩ := h; refine ⟨A, c, rfl, h0, fun i x hx => ?_⟩; rcases h2 with h2 | ⟨b, o, ha, hB, hr⟩
 ·rw [h2] at hx; simp at hx
 ·exact ⟨b, o, ha, fun W hb => hr.below hb hB i x hx⟩
def secN (S : WardS) : Nat → Nat
 | 0 => 0
 | k + 1 => secN S k + if (S.t k).phase = 5 then 2 else 0
theorem dids_safe {p : PolD} (hf : polF p = 0) (l : List ActD) : ∀ k, SafeO (didsS p WardS.new l k) ∧ SafeA p (didsS p WardS.new l k) ∧ (didsS p WardS.new l k).m.ok ∧ LogOk (didsS p WardS.new l k)
 | 0 => ⟨safeO_new, safeA_new p, new_ok, fun e h => by simp [didsS, WardS.new] at h⟩
 | k + 1 => by
  obtain ⟨h1, h2, h3, h4⟩ := dids_safe hf l k; have hG := good_dids hf good_new l k; rw [didsS]; split
  ·obtain ⟨k1, k2⟩ := safeA_did hf h2 h3 hG _; exact ⟨safeO_did hf h1 hG _, k1, k2, logOk_did h4 _⟩
  ·exact ⟨h1, h2, h3, h4⟩
theorem did_sealed {p : PolD} (hf : polF p = 0) (l : List ActD) (k : Nat) : cntSl (didsS p WardS.new l k).m 4 ≤ secN (didsS p WardS.new l k) 3 := by
 have := sealed_le (dids_safe hf l k).1 (good_dids hf good_new l k).thr; simp only [secN]; omega
theorem logSl_cells {w : World} {H : Nat} {A : Option Addr} {c : Nat} {l : List EntD} (h : LogSl w H (.slice A l.length c) l) {j : Nat} {e : EntD} (hj : l[j]? = some e) :
  ∃ b, A = some ⟨b, 0, none⟩ ∧ b < w.heap.size ∧ w.rangeAt b (j * 21) (entCells e) := by
 obtain ⟨b, hA, k0, _⟩ := logSl_at h hj; refine ⟨b, hA, World.block_lt_of_cell? w ⟨b, j * 21 + 0, none⟩ k0, fun i u hu => ?_⟩; have hr := Reads.of_own h
 have hlt : j < l.length := by
  rcases Nat.lt_or_ge j l.length with h1 | h1
  ·exact h1
  ·rw [List.getElem?_eq_none h1] at hj; cases hj
 have hi : i < 21 := by
  rcases Nat.lt_or_ge i 21 with h1 | h1
  ·exact h1
  ·rw [List.getElem?_eq_none (by rw [entCells_len]; exact h1)] at hu; cases hu
 obtain ⟨ad, ha, _, hc⟩ := hr.2 (by omega); rw [hA] at ha; simp only [Option.some.injEq] at ha; subst ha; have := hc (j * 21 + i) u ((logCells_get l j e i hj hi).trans hu); rw [show (⟨b, 0, none⟩ : Addr).add (j * 21 + i) = ⟨b, j * 21 + i, none⟩ from by unfold Addr.add; split <;> simp] at this; exact this
end Go.Proofs.YtmgngapkgcofnabGreatDoor
namespace Go.Proofs.YtmgngapkgcofnabGreatDoor
open Go.RowKit Go.PlainAid
set_option linter.unusedSimpArgs false in
set_option maxRecDepth 100000 in
set_option maxHeartbeats 16000000 in
theorem topSafe_walk (HN : NumSaid) (v0 v1 : Value) (p : PolD) (l1 : List ActD) (w : World) (hS : Shelf0 w) (h0 : PolAt w w.heap.size v0 p) (h1 : ActsSl w w.heap.size v1 l1) :
  Calls Tryz.prog 6 #[v0, v1] w fun e w' => e = .returned (.bool true) ∧ Below w.heap.size w w' := by
 have hpol := h0; obtain ⟨A, cp, rfl, _⟩ := h0; obtain ⟨A1, c1, rfl, hok1, hat1⟩ := acts_at h1; obtain ⟨b0, hb0⟩ : ∃ b0, lightP p = b0 := ⟨_, rfl⟩
 obtain ⟨b1, hb1⟩ : ∃ b1, lightF l1 60 = b1 := ⟨_, rfl⟩
 have HLP : Hid (∀ W, Below w.heap.size w W → Calls Tryz.prog 9 #[.agg #[.slice A p.rules.length cp, .int .i64 p.kind, .int .i64 p.errno]] W fun e w' => e = .returned (.bool b0) ∧ Below W.heap.size W w') := fun W hb => by rw [← hb0]; exact lightPolicy_any _ _ W (polAt_up hpol hb)
 have HL1 : Hid (∀ W, Below w.heap.size w W → Calls Tryz.prog 10 #[.slice A1 l1.length c1, .int .i64 60] W fun e w' => e = .returned (.bool b1) ∧ W = w') := fun W hb => by rw [← hb1]; exact light_any _ _ _ W ((h1.below hb).mono hb.size) (by omega)
 have HNW : Hid (∀ W, Below w.heap.size w W → b0 = true → Calls Tryz.prog 12 #[.agg #[.slice A p.rules.length cp, .int .i64 p.kind, .int .i64 p.errno]] W fun e w' => Below W.heap.size W w' ∧ ((polF p ≠ 0 ∧ e = .returned (.tuple #[.pointer none, errV (polF p)])) ∨ (polF p = 0 ∧ ∃ g H, e = .returned (.tuple #[.pointer (some ⟨g, 0, none⟩), .nilIface]) ∧ W.heap.size ≤ H ∧ WardAt w' H (fun k => H ≤ k) g p WardS.new))) := fun W hb hb2 => by
  obtain ⟨g1, g2, g3⟩ := tlight_bounds (hb0.trans hb2); exact wardNew_any HN _ p W (polAt_up hpol hb) (hS.up hb) g1 g2 g3
 have HDC : Hid (∀ W (c : CallD) (vs : ValsD), Below w.heap.size w W → b0 = true → vs.ok → Calls Tryz.prog 32 #[.agg #[.slice A p.rules.length cp, .int .i64 p.kind, .int .i64 p.errno], c.v, vs.v] W fun e w' => e = .returned (decideV (polF p) (decideF p c vs)) ∧ Below W.heap.size W w') := fun W c vs hb hb2 hv => by
  obtain ⟨g1, g2, g3⟩ := tlight_bounds (hb0.trans hb2); exact decide_any _ p c vs W (polAt_up hpol hb) g1 (by omega) (fun r hr => by have := g3 r hr; omega) hv
 have HLL : Hid (b1 = true → l1.length ≤ 60 ∧ ∀ x ∈ l1, x.s.size ≤ 200) := fun k1 => by
  obtain ⟨q1, q2⟩ := lightF_len (hb1.trans k1); exact ⟨by omega, q2⟩
 have HAT1 := Lib.hid hat1; have HOK1 := Lib.hid hok1; clear hpol h1 hS hb0 hb1 hat1 hok1
 have HIN := Lib.hid (fun W (h : Below (w.alloc (.cells #[.slice A p.rules.length cp, .int .i64 p.kind, .int .i64 p.errno] 26)).heap.size (w.alloc (.cells #[.slice A p.rules.length cp, .int .i64 p.kind, .int .i64 p.errno] 26)) W) => heaps1 w (.cells #[.slice A p.rules.length cp, .int .i64 p.kind, .int .i64 p.errno] 26) W h)
 have HB0 : Hid (Below (w.alloc (.cells #[.slice A p.rules.length cp, .int .i64 p.kind, .int .i64 p.errno] 26)).heap.size (w.alloc (.cells #[.slice A p.rules.length cp, .int .i64 p.kind, .int .i64 p.errno] 26)) (w.alloc (.cells #[.slice A p.rules.length cp, .int .i64 p.kind, .int .i64 p.errno] 26))) := Below.refl _ _
 cases b0 with
 | false =>
  as_aux_lemma =>
   clear HL1 HNW HLL HAT1 HOK1 HDC; go_enter Tryz.func6, Tryz.ntmps6; go_upto_region 1 with fail; generalize (w.alloc (.cells #[.slice A p.rules.length cp, .int .i64 p.kind, .int .i64 p.errno] 26)) = W0 at *
   obtain ⟨hbl, hpp⟩ := HIN.out W0 HB0.out; have HBL := Lib.hid hbl; obtain ⟨s0, s1, s2⟩ := tcrow3 hpp; clear hpp hbl
   go_wp2_with (first | (go_at_call 9; refine cargs (by simp [Act.eval]) ((HLP.out _ HBL.out).mono ?_); rintro e w1 ⟨rfl, hq⟩; have HB1 := Lib.hid (HB0.out.trans hq); have HBL1 := Lib.hid (HBL.out.trans (hq.mono HBL.out.size)); clear hq) | fail)
   go_ret; exact ⟨rfl, HBL1.out⟩
 | true =>
  cases b1 with
  | false =>
   as_aux_lemma =>
    clear HNW HLL HAT1 HOK1 HDC; go_enter Tryz.func6, Tryz.ntmps6; go_upto_region 1 with fail; generalize (w.alloc (.cells #[.slice A p.rules.length cp, .int .i64 p.kind, .int .i64 p.errno] 26)) = W0 at *
    obtain ⟨hbl, hpp⟩ := HIN.out W0 HB0.out; have HBL := Lib.hid hbl; obtain ⟨s0, s1, s2⟩ := tcrow3 hpp; clear hpp hbl
    go_wp2_with (first | (go_at_call 9; refine cargs (by simp [Act.eval]) ((HLP.out _ HBL.out).mono ?_); rintro e w1 ⟨rfl, hq⟩; have HB1 := Lib.hid (HB0.out.trans hq); have HBL1 := Lib.hid (HBL.out.trans (hq.mono HBL.out.size)); clear hq) | (go_at_call 10; refine cargs (by simp [Act.eval]) ((HL1.out _ HBL1.out).mono ?_); rintro e w2 ⟨rfl, rfl⟩) | fail)
    go_ret; exact ⟨rfl, HBL1.out⟩
  | true =>
   as_aux_lemma =>
    obtain ⟨n1, sm1⟩ := HLL.out rfl
    by_cases hf : polF p = 0
    ·have HFP := Lib.hid hf; clear hf HLL; go_enter Tryz.func6, Tryz.ntmps6; go_upto_region 1 with fail; generalize (w.alloc (.cells #[.slice A p.rules.length cp, .int .i64 p.kind, .int .i64 p.errno] 26)) = W0 at *
     obtain ⟨hbl, hpp⟩ := HIN.out W0 HB0.out; have HBL := Lib.hid hbl; obtain ⟨s0, s1, s2⟩ := tcrow3 hpp; clear hpp hbl
     go_upto_region 3 with (first | (go_at_call 9; refine cargs (by simp [Act.eval]) ((HLP.out _ HBL.out).mono ?_); rintro e w1 ⟨rfl, hq⟩; have HB1 := Lib.hid (HB0.out.trans hq); have HBL1 := Lib.hid (HBL.out.trans (hq.mono HBL.out.size)); clear hq) | (go_at_call 10; refine cargs (by simp [Act.eval]) ((HL1.out _ HBL1.out).mono ?_); rintro e w2 ⟨rfl, rfl⟩) | fail)
     obtain ⟨_, hpp1⟩ := HIN.out _ HB1.out; obtain ⟨p0, p1, p2⟩ := tcrow3 hpp1; clear hpp1 HLP HL1 s0 s1 s2; have HNW1 := Lib.hid (HNW.out _ HBL1.out (by trivial)); clear HNW
     go_upto_region 8 with (first | (go_at_call 12; refine cargs (by simp [Act.eval]) (HNW1.out.mono ?_); rintro e w3 ⟨hq, hr⟩; obtain ⟨hp0, g, H, rfl, hH, hW⟩ := hr.resolve_left (fun hh => hh.1 HFP.out); have HB3 := Lib.hid (HB1.out.trans (hq.mono HB1.out.size)); have HHH := Lib.hid (Nat.le_trans HB1.out.size hH); have HWA := Lib.hid hW; clear hq hr hp0 hH hW) | fail)
     clear HNW1 p0 p1 p2
     go_wp2_with fail
     go_loopw [7] (fun iv wr => ∃ i : Nat, i ≤ l1.length ∧ iv = .int .i64 i ∧ Hid (WardAt wr H (fun k => H ≤ k) g p (didsS p WardS.new l1 i)) ∧ Hid (Below W0.heap.size W0 wr)) (fun iv _ => l1.length - (intOf iv).toNat)
     case atStart => exact ⟨0, Nat.zero_le _, rfl, HWA, HB3⟩
     case round =>
      obtain ⟨i, hi, rfl, HI, HBI⟩ := hrel; clear HWA HB3 HBL1 HB1 HBL HB0
      by_cases hlt : i < l1.length
      ·have x1 : (i : Int) < (l1.length : Int) := by omega
       have x2 : (0 : Int) ≤ (i : Int) := by omega
       have hl : l1[i]? = some l1[i] := by simp
       obtain ⟨b, o, rfl, hra⟩ := HAT1.out i _ hl; have HRA := Lib.hid (hra wr ((HIN.out wr HBI.out).1)); have HDID := Lib.hid (did_any H (fun k => H ≤ k) g p (didsS p WardS.new l1 i) (90 * i) l1[i] wr HI.out HFP.out ((good_dids HFP.out good_new l1 i).mono (by omega)) (by omega) (fun k hk => Nat.le_trans HI.out.few hk) (HOK1.out _ (by simp)) (by have := sm1 _ (List.getElem_mem hlt); omega))
       have HNX : Hid (∀ w', WardAt w' H (fun k => H ≤ k) g p (didS p (didsS p WardS.new l1 i) l1[i]) → Frame (fun k => H ≤ k) wr w' → Hid (WardAt w' H (fun k => H ≤ k) g p (didsS p WardS.new l1 (i + 1))) ∧ Hid (Below W0.heap.size W0 w')) := fun w' k1 k2 => ⟨by rw [didsS_at hl]; exact k1, HBI.out.trans ((k2.below (fun k hk => hk) HI.out.few).mono HHH.out)⟩
       have HRL : Hid (l1[i].row.length = 11) := rfl; generalize didS p (didsS p WardS.new l1 i) l1[i] = S2 at *
       generalize l1[i].row = R at *
       clear hl hra HAT1 HOK1 sm1
       go_upto_region 12 with (first
        | (refine wpList_load_mid rfl 54 (.tmp 43) rfl b (o + i * 11) (by simp [Act.eval, Act.put]) R _ HRA.out Tryz.underlying54 rfl (by rw [HRL.out]; exact tact_info) ?_)
        | (go_at_call 27; refine cargs (by simp [Act.eval]) (HDID.out.mono ?_); rintro e w5 ⟨rfl, hx⟩; have HX := Lib.hid (HNX.out _ hx.1 hx.2); clear hx)
        | fail)
       obtain ⟨S3, hS3⟩ : ∃ S3, didsS p WardS.new l1 (i + 1) = S3 := ⟨_, rfl⟩
       rw [hS3] at HX; have HE3 := Lib.hid hS3; clear hS3; have HW5 := HX.out.1; have HB5 := HX.out.2
       have HPH : Hid (∀ k : Nat, k < 3 → Calls Tryz.prog 29 #[.pointer (some ⟨g, 0, none⟩), .int .i64 (k : Int)] w5 fun e w' => e = .returned (.int .i64 (S3.t k).phase) ∧ w5 = w') := fun k hk => by
        have := wardPhase_any H (fun k => H ≤ k) g p S3 k w5 HW5.out; rw [show phaseF S3 k = (S3.t k).phase from by unfold phaseF; rw [if_neg (by omega)]; simp] at this; exact this
       clear HI HBI HRA HDID HNX
       go_wp2_with fail
       go_loop [8, 9] (fun sv nv => ∃ k c : Nat, k ≤ 3 ∧ nv = .int .i64 (k : Int) ∧ sv = .int .i64 (c : Int) ∧ c ≤ 2 * k ∧ Hid (c = secN S3 k)) (fun _ nv => 3 - (intOf nv).toNat)
       case atStart => exact ⟨0, 0, by omega, rfl, rfl, by omega, rfl⟩
       case round =>
        obtain ⟨k, c, hk, rfl, rfl, hc, HC⟩ := hrel
        by_cases hk3 : k < 3
        ·have y1 : (k : Int) < 3 := by omega
         have y0 : (0 : Int) ≤ (k : Int) := by omega
         have HP := Lib.hid (HPH.out k hk3)
         by_cases h5 : (S3.t k).phase = 5
         ·have HC2 : Hid (c + 2 = secN S3 (k + 1)) := by show _ = _; rw [secN, if_pos h5, ← HC.out]
          rw [h5] at HP
          go_wp2_with (first | (go_at_call 29; refine cargs (by simp [Act.eval]) (HP.out.mono ?_); rintro e w8 ⟨rfl, rfl⟩) | fail)
          go_round
          case rel => exact ⟨k + 1, c + 2, by omega, by go_num, by go_num, by omega, HC2⟩
          case measure => simp [intOf]; omega
         ·have HC2 : Hid (c = secN S3 (k + 1)) := by show _ = _; rw [secN, if_neg h5, ← HC.out]; rfl
          generalize (S3.t k).phase = ph at *
          go_wp2_with (first | (go_at_call 29; refine cargs (by simp [Act.eval]) (HP.out.mono ?_); rintro e w8 ⟨rfl, rfl⟩) | fail)
          go_round
          case rel => exact ⟨k + 1, c, by omega, by go_num, rfl, by omega, HC2⟩
          case measure => simp [intOf]; omega
        ·obtain rfl : k = 3 := by omega
         have y1 : ¬ ((3 : Nat) : Int) < 3 := by omega
         have HME := Lib.hid (wardMem_any H (fun k => H ≤ k) g p S3 w5 HW5.out)
         have hle : cntSl S3.m 4 ≤ c := by
          rw [HC.out, ← HE3.out]; exact did_sealed HFP.out l1 (i + 1)
         obtain ⟨cs, hcs⟩ : ∃ cs, cntSl S3.m 4 = cs := ⟨_, rfl⟩
         rw [hcs] at hle; have HCS := Lib.hid hcs; have y2 : ¬ (c : Int) < (cs : Int) := by omega
         have hW5 := HW5.out.few; clear hcs HPH HC
         go_wp2_with (first
          | (go_at_call 30; refine cargs (by simp [Act.eval]) (HME.out.mono ?_); rintro e w6 ⟨rfl, hm6, hb6⟩; have HM6 := Lib.hid (memSealed_any _ _ _ _ hm6); rw [HCS.out] at HM6; have HW6 := Lib.hid (HW5.out.below hb6); have HB6 := Lib.hid (HB5.out.trans (hb6.mono HB5.out.size)); clear hm6 hb6)
          | (go_at_call 31; refine cargs (by simp [Act.eval]) (HM6.out.mono ?_); rintro e w7 ⟨rfl, rfl⟩)
          | fail)
         go_roundw
         case rel => exact ⟨i + 1, by omega, by go_num, by rw [HE3.out]; exact HW6, HB6⟩
         case measure => simp [intOf]; omega
      ·obtain rfl : i = l1.length := by omega
       have HSF := Lib.hid (dids_safe HFP.out l1 l1.length); have HFEW : Hid ((didsS p WardS.new l1 l1.length).log.length ≤ 100000) := by show _ ≤ _; have := (good_dids HFP.out good_new l1 l1.length).few; omega
       generalize didsS p WardS.new l1 l1.length = S at *
       have HLG := Lib.hid (wardLog_any H (fun k => H ≤ k) g p S wr HI.out); clear HAT1 HOK1 sm1 hlt hi
       go_upto_region 22 with (first | (go_at_call 28; refine cargs (by simp [Act.eval]) (HLG.out.mono ?_); rintro e w7 ⟨AL, cL, rfl, hls, hb7⟩; have HLS := Lib.hid hls; have HB7 := Lib.hid (HBI.out.trans (hb7.mono HBI.out.size)); clear hls hb7) | fail)
       have HB70 : Hid (Below w7.heap.size w7 w7) := Below.refl _ _
       go_wp2_with fail
       go_loopw [12] (fun iv wl => ∃ J : Nat, J ≤ S.log.length ∧ iv = .int .i64 (J : Int) ∧ Hid (Below w7.heap.size w7 wl)) (fun iv _ => S.log.length - (intOf iv).toNat)
       case atStart => exact ⟨0, Nat.zero_le _, rfl, HB70⟩
       case round =>
        obtain ⟨J, hJ, rfl, HB8⟩ := hrel; obtain ⟨hbw8, hpp8⟩ := HIN.out wr (HB7.out.trans (HB8.out.mono HB7.out.size)); have HBW8 := Lib.hid hbw8; have u1 : (0 : Int) ≤ (J : Int) := by omega
        have hfw := HFEW.out
        by_cases hlt : J < S.log.length
        ·have y1 : (J : Int) < (S.log.length : Int) := by omega
         have hx : S.log[J]? = some S.log[J] := by simp
         obtain ⟨b, rfl, hb7, hra7⟩ := logSl_cells HLS.out hx; have hok := HSF.out.2.1.log _ (List.getElem_mem hlt); have hvok := HSF.out.2.2.2 _ (List.getElem_mem hlt); have HRT : Hid (∀ W, Below wr.heap.size wr W → Below w.heap.size w W) := fun W hb => ((HIN.out W (HB7.out.trans ((HB8.out.trans (hb.mono HB8.out.size)).mono HB7.out.size))).1)
         have HPB : Hid (∀ W, Below wr.heap.size wr W → W.heap[w.heap.size]? = some (.cells #[.slice A p.rules.length cp, .int .i64 p.kind, .int .i64 p.errno] 26)) := fun W hb => ((HIN.out W (HB7.out.trans ((HB8.out.trans (hb.mono HB8.out.size)).mono HB7.out.size))).2)
         have hra : Hid (∀ W, Below wr.heap.size wr W → W.rangeAt b (J * 21) (entCells S.log[J])) := fun W hb i u hu => ((HB8.out.trans (hb.mono HB8.out.size)).cell (p := ⟨b, _, none⟩) hb7).trans (hra7 i u hu); have k0 : wr.cell? ⟨b, J * 21, none⟩ = some (.int .i64 S.log[J].kind) := by simpa using hra.out wr (Below.refl _ _) 0 _ rfl
         clear hra7 hx
         by_cases hk : S.log[J].kind = 1
         ·have hd1 := hok hk; have hv := hvok hk; rw [hk] at k0; clear hok hvok hk; generalize S.log[J] = en at *
          obtain ⟨kd, th, ⟨arch, nr, x0, x1, x2, x3⟩, ⟨⟨p0, i0, q0⟩, ⟨p1, i1, q1⟩, ⟨p2, i2, q2⟩, ⟨p3, i3, q3⟩⟩, er⟩ := en; simp only at hd1 hv; obtain ⟨d2, hd2⟩ : ∃ d2, (decideF p ⟨arch, nr, x0, x1, x2, x3⟩ ⟨⟨p0, i0, q0⟩, ⟨p1, i1, q1⟩, ⟨p2, i2, q2⟩, ⟨p3, i3, q3⟩⟩).2 = d2 := ⟨_, rfl⟩
          have HDE : Hid (∀ W, Below wr.heap.size wr W → Calls Tryz.prog 32 #[.agg #[.slice A p.rules.length cp, .int .i64 p.kind, .int .i64 p.errno], .agg #[.int .u32 arch, .int .u32 nr, .int .u64 x0, .int .u64 x1, .int .u64 x2, .int .u64 x3], .agg #[.string p0, .int .u32 i0, .int .i64 q0, .string p1, .int .u32 i1, .int .i64 q1, .string p2, .int .u32 i2, .int .i64 q2, .string p3, .int .u32 i3, .int .i64 q3]] W fun e w' => e = .returned (.tuple #[.agg #[.int .i64 1, .int .i64 d2], .nilIface]) ∧ Below W.heap.size W w') := fun W hb => by
           have := HDC.out W ⟨arch, nr, x0, x1, x2, x3⟩ ⟨⟨p0, i0, q0⟩, ⟨p1, i1, q1⟩, ⟨p2, i2, q2⟩, ⟨p3, i3, q3⟩⟩ (HRT.out W hb) (by trivial) hv; rw [HFP.out] at this; rw [← hd2, ← hd1]; exact this
          have HS : Hid (∀ W : World, Below wr.heap.size wr W → W.cell? ⟨w.heap.size, 0, none⟩ = some (.slice A p.rules.length cp) ∧ W.cell? ⟨w.heap.size, 1, none⟩ = some (.int .i64 p.kind) ∧ W.cell? ⟨w.heap.size, 2, none⟩ = some (.int .i64 p.errno) ∧ W.cell? ⟨b, J * 21 + 2, none⟩ = some (.int .u32 arch) ∧ W.cell? ⟨b, J * 21 + 3, none⟩ = some (.int .u32 nr) ∧ W.cell? ⟨b, J * 21 + 4, none⟩ = some (.int .u64 x0) ∧ W.cell? ⟨b, J * 21 + 5, none⟩ = some (.int .u64 x1) ∧ W.cell? ⟨b, J * 21 + 6, none⟩ = some (.int .u64 x2) ∧ W.cell? ⟨b, J * 21 + 7, none⟩ = some (.int .u64 x3) ∧ W.cell? ⟨b, J * 21 + 8, none⟩ = some (.string p0) ∧ W.cell? ⟨b, J * 21 + 9, none⟩ = some (.int .u32 i0) ∧ W.cell? ⟨b, J * 21 + 10, none⟩ = some (.int .i64 q0) ∧ W.cell? ⟨b, J * 21 + 11, none⟩ = some (.string p1) ∧ W.cell? ⟨b, J * 21 + 12, none⟩ = some (.int .u32 i1) ∧ W.cell? ⟨b, J * 21 + 13, none⟩ = some (.int .i64 q1) ∧ W.cell? ⟨b, J * 21 + 14, none⟩ = some (.string p2) ∧ W.cell? ⟨b, J * 21 + 15, none⟩ = some (.int .u32 i2) ∧ W.cell? ⟨b, J * 21 + 16, none⟩ = some (.int .i64 q2) ∧ W.cell? ⟨b, J * 21 + 17, none⟩ = some (.string p3) ∧ W.cell? ⟨b, J * 21 + 18, none⟩ = some (.int .u32 i3) ∧ W.cell? ⟨b, J * 21 + 19, none⟩ = some (.int .i64 q3)) := fun W hb => by
           obtain ⟨t0, t1, t2⟩ := tcrow3 (HPB.out W hb)
           exact ⟨t0, t1, t2, hra.out W hb 2 _ rfl, hra.out W hb 3 _ rfl, hra.out W hb 4 _ rfl, hra.out W hb 5 _ rfl, hra.out W hb 6 _ rfl, hra.out W hb 7 _ rfl, hra.out W hb 8 _ rfl, hra.out W hb 9 _ rfl, hra.out W hb 10 _ rfl, hra.out W hb 11 _ rfl, hra.out W hb 12 _ rfl, hra.out W hb 13 _ rfl, hra.out W hb 14 _ rfl, hra.out W hb 15 _ rfl, hra.out W hb 16 _ rfl, hra.out W hb 17 _ rfl, hra.out W hb 18 _ rfl, hra.out W hb 19 _ rfl⟩
          have HWR := Lib.hid (Below.refl wr.heap.size wr); have hfu : (0 : Int) ≤ (J : Int) := u1; clear hd1 hd2 hv hra HPB; go_upto_region 26 with fail
          go_cut [13, 14] (fun av ev wx => ev = .nilIface ∧ ∃ bx : Nat, av = .pointer (some ⟨bx, 0, none⟩) ∧ Hid (wx.heap[bx]? = some (.cells #[.int .i64 1, .int .i64 d2] 24 (0, 0))) ∧ Hid (Below wr.heap.size wr wx))
          case first =>
           obtain ⟨s0, s1, s2, HSR⟩ := HS.out wr HWR.out
           go_region_held3 (fun W : World => W.cell? ⟨w.heap.size, 0, none⟩ = some (.slice A p.rules.length cp) ∧ W.cell? ⟨w.heap.size, 1, none⟩ = some (.int .i64 p.kind) ∧ W.cell? ⟨w.heap.size, 2, none⟩ = some (.int .i64 p.errno) ∧ W.cell? ⟨b, J * 21 + 2, none⟩ = some (.int .u32 arch) ∧ W.cell? ⟨b, J * 21 + 3, none⟩ = some (.int .u32 nr) ∧ W.cell? ⟨b, J * 21 + 4, none⟩ = some (.int .u64 x0) ∧ W.cell? ⟨b, J * 21 + 5, none⟩ = some (.int .u64 x1) ∧ W.cell? ⟨b, J * 21 + 6, none⟩ = some (.int .u64 x2) ∧ W.cell? ⟨b, J * 21 + 7, none⟩ = some (.int .u64 x3) ∧ W.cell? ⟨b, J * 21 + 8, none⟩ = some (.string p0) ∧ W.cell? ⟨b, J * 21 + 9, none⟩ = some (.int .u32 i0) ∧ W.cell? ⟨b, J * 21 + 10, none⟩ = some (.int .i64 q0) ∧ W.cell? ⟨b, J * 21 + 11, none⟩ = some (.string p1) ∧ W.cell? ⟨b, J * 21 + 12, none⟩ = some (.int .u32 i1) ∧ W.cell? ⟨b, J * 21 + 13, none⟩ = some (.int .i64 q1) ∧ W.cell? ⟨b, J * 21 + 14, none⟩ = some (.string p2) ∧ W.cell? ⟨b, J * 21 + 15, none⟩ = some (.int .u32 i2) ∧ W.cell? ⟨b, J * 21 + 16, none⟩ = some (.int .i64 q2) ∧ W.cell? ⟨b, J * 21 + 17, none⟩ = some (.string p3) ∧ W.cell? ⟨b, J * 21 + 18, none⟩ = some (.int .u32 i3) ∧ W.cell? ⟨b, J * 21 + 19, none⟩ = some (.int .i64 q3))
            (first | exact HS.out _ HWR.out | exact HS.out _ HWR.out.drew | exact HS.out _ (HWR.out.alloc HWR.out.size _).drew | exact HS.out _ HB4.out | exact HS.out _ (HB4.out.alloc HB4.out.size _) | exact HS.out _ ((HB4.out.setCell (p := ⟨wr.heap.size, 0, none⟩) (by simp) _).setCell (p := ⟨wr.heap.size, 1, none⟩) (by simp) _) | fail)
            (first
             | (go_at_call 32; refine cargs (by simp [Act.eval]) ((HDE.out _ HWR.out.drew).mono ?_); rintro e w4 ⟨rfl, hb4⟩; have HB4 : Hid (Below wr.heap.size wr w4) := HWR.out.drew.trans hb4; clear hb4)
             | (go_at_call 32; refine cargs (by simp [Act.eval]) ((HDE.out _ (HWR.out.alloc HWR.out.size _).drew).mono ?_); rintro e w4 ⟨rfl, hb4⟩; have HB4 : Hid (Below wr.heap.size wr w4) := (HWR.out.alloc HWR.out.size _).drew.trans (hb4.mono (by rw [alloc_drew_size]; omega)); have HBX4 : Hid (w4.heap[wr.heap.size]? = some (.cells #[.int .i64 0, .int .i64 0] 24)) := (hb4.block wr.heap.size (by rw [alloc_drew_size]; omega)).trans (heap_alloc_new wr _); obtain ⟨z0, z1, f0, f1⟩ := prow2w HBX4.out; clear hb4)
             | fail)
           all_goals
            go_wp2_with fail
            go_meet
            first
             | exact ⟨rfl, w4.heap.size, rfl, heap_alloc_new w4 _, HB4.out.alloc HB4.out.size _⟩
             | exact ⟨rfl, wr.heap.size, rfl, (box_put2 HBX4.out (.int .i64 1) (.int .i64 d2) HB4.out (Nat.le_refl _)).1, (box_put2 HBX4.out (.int .i64 1) (.int .i64 d2) HB4.out (Nat.le_refl _)).2⟩
          case rest =>
           obtain ⟨rfl, bx, rfl, hbx, HBC⟩ := hcut; obtain ⟨z0, z1, _⟩ := prow2w hbx.out; clear HDE HS
           go_wp2_with fail; go_roundw
           case rel => exact ⟨J + 1, by omega, by go_num, HB8.out.trans (HBC.out.mono HB8.out.size)⟩
           case measure => simp [intOf]; omega
         ·have y2 : ¬ S.log[J].kind = 1 := hk; clear hok hvok hra; generalize S.log[J].kind = kd at *
          clear hk
          go_wp2_with fail; go_roundw
          case rel => exact ⟨J + 1, by omega, by go_num, HB8⟩
          case measure => simp [intOf]; omega
        ·have x1 : ¬ (J : Int) < (S.log.length : Int) := by omega
         obtain rfl : J = S.log.length := by omega
         go_wp2_with fail; go_ret; exact ⟨rfl, HBW8.out⟩
    ·have HFP := Lib.hid hf; clear hf HLL HAT1 HOK1 HDC; go_enter Tryz.func6, Tryz.ntmps6; go_upto_region 1 with fail; generalize (w.alloc (.cells #[.slice A p.rules.length cp, .int .i64 p.kind, .int .i64 p.errno] 26)) = W0 at *
     obtain ⟨hbl, hpp⟩ := HIN.out W0 HB0.out; have HBL := Lib.hid hbl; obtain ⟨s0, s1, s2⟩ := tcrow3 hpp; clear hpp hbl
     go_upto_region 3 with (first | (go_at_call 9; refine cargs (by simp [Act.eval]) ((HLP.out _ HBL.out).mono ?_); rintro e w1 ⟨rfl, hq⟩; have HB1 := Lib.hid (HB0.out.trans hq); have HBL1 := Lib.hid (HBL.out.trans (hq.mono HBL.out.size)); clear hq) | (go_at_call 10; refine cargs (by simp [Act.eval]) ((HL1.out _ HBL1.out).mono ?_); rintro e w2 ⟨rfl, rfl⟩) | fail)
     obtain ⟨_, hpp1⟩ := HIN.out _ HB1.out; obtain ⟨p0, p1, p2⟩ := tcrow3 hpp1; clear hpp1 HLP HL1 s0 s1 s2; have HNW1 := Lib.hid (HNW.out _ HBL1.out (by trivial)); rw [errV_pos HFP.out] at HNW1; clear HNW
     go_wp2_with (first | (go_at_call 12; refine cargs (by simp [Act.eval]) (HNW1.out.mono ?_); rintro e w3 ⟨hq, hr⟩; obtain ⟨_, rfl⟩ := hr.resolve_right (fun hh => HFP.out hh.1); have HBL3 := Lib.hid (HBL1.out.trans (hq.mono HBL1.out.size)); clear hq hr) | fail)
     go_ret; exact ⟨rfl, HBL3.out⟩
end Go.Proofs.YtmgngapkgcofnabGreatDoor
