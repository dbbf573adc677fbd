/- What snap's writes make of a ward. -/
import Derived.Test.YtmgngapkgcofnabGreatDoorP38
namespace Go.Proofs.YtmgngapkgcofnabGreatDoor
open Go.RowKit Go.PlainAid
theorem World.setCell_comm_off (w : World) (g i k : Nat) (u v : Value) (h : i ≠ k) : (w.setCell ⟨g, i, none⟩ u).setCell ⟨g, k, none⟩ v = (w.setCell ⟨g, k, none⟩ v).setCell ⟨g, i, none⟩ u := by
 unfold World.setCell; simp only [World.mk.injEq, and_true]; apply Array.ext_getElem?; intro j; simp only [Array.getElem?_modify]
 by_cases hj : g = j
 ·subst hj; simp only [if_true]
  cases w.heap[g]? with
  | none => rfl
  | some o =>
   simp only [Option.map_some, Option.some.injEq]
   cases o <;> try rfl
   simp only [Obj.cells.injEq, and_true]; exact Array.setIfInBounds_comm _ _ h
 ·simp only [if_neg hj]
theorem valsSet_ok {v : ValsD} (h : v.ok) (i : Nat) {x : ValD} (hx : x.ok) : (v.set i x).ok := by
 obtain ⟨h0, h1, h2, h3⟩ := h; unfold ValsD.set; split
 ·exact ⟨hx, h1, h2, h3⟩
 ·split
  ·exact ⟨h0, hx, h2, h3⟩
  ·split
   ·exact ⟨h0, h1, hx, h3⟩
   ·exact ⟨h0, h1, h2, hx⟩
theorem byteS_byte {M : MemS} (h : M.ok) {a : Nat} {b : Int} (hb : byteS M a = some b) : 0 ≤ b ∧ b ≤ 255 := by
 unfold byteS at hb; split at hb
 ·split at hb
  ·simp only [Option.some.injEq] at hb; rw [← hb]; exact h.1 _ _
  ·cases hb
 ·split at hb
  ·obtain ⟨f, h1, h2⟩ := Option.map_eq_some_iff.1 hb; rw [← h2]; exact h.2 _ f h1 _
  ·cases hb
section
variable {w W : World} {H : Nat} {B : Nat → Prop} {g : Nat} {p : PolD} {S : WardS} {n : Nat} {T : ThrS}
theorem WardAt.reads (h : WardAt W H B g p (S.setT n T)) (hn : n < 3) : W.cell? ⟨g, 5 + n * 28, none⟩ = some (.int .i64 T.phase) ∧ W.cell? ⟨g, 5 + n * 28 + 8, none⟩ = some (.int .u32 T.now.nr) ∧ W.cell? ⟨g, 5 + n * 28 + 13, none⟩ = some (.int .i64 T.arg) ∧ (∃ v, W.cell? ⟨g, 5 + n * 28 + 14, none⟩ = some v) ∧ (∀ i, W.frozen? ⟨g, i, none⟩ = false) ∧ g < W.heap.size := by
 obtain ⟨A, c, Ap, cp, m, lv, bv, sv, R⟩ := h.rep; have q0 := R.thr hn (j := 0) rfl; have q8 := R.thr hn (j := 8) rfl; have q13 := R.thr hn (j := 13) rfl; have q14 := R.thr hn (j := 14) rfl; rw [setT_self] at q0 q8 q13; exact ⟨q0, q8, q13, ⟨_, q14⟩, R.frozen, R.lt⟩
theorem WardAt.sets (h : WardAt W H B g p (S.setT n T)) (hn : n < 3) {j : Nat} (hj : j < 28) {v : Value} {T2 : ThrS} (hT : ∀ b s, thrCells T2 b s = (thrCells T b s).set j v) (hb : T2.buf = T.buf) (hs : T2.seals = T.seals) (hok : T2.ok) :
  WardAt (W.setCell ⟨g, 5 + n * 28 + j, none⟩ v) H B g p (S.setT n T2) := by
 have := h.setC hn hj (v := v) (T := T2) (by rw [setT_self]; exact hT) (by rw [setT_self]; exact hb) (by rw [setT_self]; exact hs) hok; rw [setT_setT] at this; exact this
theorem WardAt.setPhase (h : WardAt W H B g p (S.setT n T)) (hn : n < 3) (hok : T.ok) (ph : Int) : WardAt (W.setCell ⟨g, 5 + n * 28, none⟩ (.int .i64 ph)) H B g p (S.setT n { T with phase := ph }) :=
 h.sets hn (j := 0) (by omega) (fun b s => rfl) rfl rfl ⟨hok.asked, hok.now, hok.arg, hok.buf, hok.byt, hok.seals, hok.sealed, hok.vals⟩
theorem WardAt.setArg (h : WardAt W H B g p (S.setT n T)) (hn : n < 3) (hok : T.ok) (a : Nat) (ha : a ≤ 4) : WardAt (W.setCell ⟨g, 5 + n * 28 + 13, none⟩ (.int .i64 a)) H B g p (S.setT n { T with arg := a }) :=
 h.sets hn (j := 13) (by omega) (fun b s => rfl) rfl rfl ⟨hok.asked, hok.now, ha, hok.buf, hok.byt, hok.seals, hok.sealed, hok.vals⟩
theorem WardAt.setNil (h : WardAt W H B g p (S.setT n T)) (hn : n < 3) (hok : T.ok) : WardAt (W.setCell ⟨g, 5 + n * 28 + 14, none⟩ (.slice none 0 0)) H B g p (S.setT n { T with buf := [] }) := by
 have := h.bufNil hn (T := { T with buf := [] }) (by rw [setT_self]; intro b s; rfl) rfl (by rw [setT_self]) ⟨hok.asked, hok.now, hok.arg, by simp, (fun b hb => by cases hb), hok.seals, hok.sealed, hok.vals⟩; rw [setT_setT] at this; exact this
theorem vals_ok1 {v : ValsD} (h : v.ok) (a : Nat) : (v.at_ a).ok := ValsD.ok_at h a
theorem WardAt.setPath (h : WardAt W H B g p (S.setT n T)) (hn : n < 3) (hok : T.ok) (a : Nat) (ha : a < 4) (s : ByteArray) (hs : s.size ≤ 100000) :
  (∃ v, W.cell? ⟨g, 5 + n * 28 + 15 + a * 3, none⟩ = some v) ∧ WardAt (W.setCell ⟨g, 5 + n * 28 + 15 + a * 3, none⟩ (.string s)) H B g p (S.setT n { T with vals := T.vals.set a ⟨s, (T.vals.at_ a).ip, (T.vals.at_ a).port⟩ }) := by
 have hok2 : ({ T with vals := T.vals.set a ⟨s, (T.vals.at_ a).ip, (T.vals.at_ a).port⟩ } : ThrS).ok := ⟨hok.asked, hok.now, hok.arg, hok.buf, hok.byt, hok.seals, hok.sealed, valsSet_ok hok.vals a ⟨hs, (vals_ok1 hok.vals a).2⟩⟩
 obtain ⟨A, c, Ap, cp, m, lv, bv, sv, R⟩ := h.rep; have h4 : a = 0 ∨ a = 1 ∨ a = 2 ∨ a = 3 := by omega
 rcases h4 with rfl | rfl | rfl | rfl
 ·exact ⟨⟨_, R.thr hn (j := 15) rfl⟩, h.sets hn (j := 15) (by omega) (fun b s => rfl) rfl rfl hok2⟩
 ·exact ⟨⟨_, R.thr hn (j := 18) rfl⟩, h.sets hn (j := 18) (by omega) (fun b s => rfl) rfl rfl hok2⟩
 ·exact ⟨⟨_, R.thr hn (j := 21) rfl⟩, h.sets hn (j := 21) (by omega) (fun b s => rfl) rfl rfl hok2⟩
 ·exact ⟨⟨_, R.thr hn (j := 24) rfl⟩, h.sets hn (j := 24) (by omega) (fun b s => rfl) rfl rfl hok2⟩
theorem WardAt.setAddr (h : WardAt W H B g p (S.setT n T)) (hn : n < 3) (hok : T.ok) (a : Nat) (ha : a < 4) (ip port : Int) (hi : 0 ≤ ip ∧ ip < 4294967296) :
  (∃ v, W.cell? ⟨g, 5 + n * 28 + 15 + a * 3 + 1, none⟩ = some v) ∧ (∃ v, W.cell? ⟨g, 5 + n * 28 + 15 + a * 3 + 2, none⟩ = some v) ∧
   WardAt ((W.setCell ⟨g, 5 + n * 28 + 15 + a * 3 + 1, none⟩ (.int .u32 ip)).setCell ⟨g, 5 + n * 28 + 15 + a * 3 + 2, none⟩ (.int .i64 port)) H B g p (S.setT n { T with vals := T.vals.set a ⟨(T.vals.at_ a).path, ip, port⟩ }) := by
 have hok1 : ({ T with vals := T.vals.set a ⟨(T.vals.at_ a).path, ip, (T.vals.at_ a).port⟩ } : ThrS).ok := ⟨hok.asked, hok.now, hok.arg, hok.buf, hok.byt, hok.seals, hok.sealed, valsSet_ok hok.vals a ⟨(vals_ok1 hok.vals a).1, hi⟩⟩
 have hok2 : ({ T with vals := T.vals.set a ⟨(T.vals.at_ a).path, ip, port⟩ } : ThrS).ok := ⟨hok.asked, hok.now, hok.arg, hok.buf, hok.byt, hok.seals, hok.sealed, valsSet_ok hok.vals a ⟨(vals_ok1 hok.vals a).1, hi⟩⟩
 obtain ⟨A, c, Ap, cp, m, lv, bv, sv, R⟩ := h.rep; have h4 : a = 0 ∨ a = 1 ∨ a = 2 ∨ a = 3 := by omega
 rcases h4 with rfl | rfl | rfl | rfl
 ·exact ⟨⟨_, R.thr hn (j := 16) rfl⟩, ⟨_, R.thr hn (j := 17) rfl⟩, (h.sets hn (j := 16) (v := .int .u32 ip) (T2 := { T with vals := T.vals.set 0 ⟨(T.vals.at_ 0).path, ip, (T.vals.at_ 0).port⟩ }) (by omega) (fun b s => rfl) rfl rfl hok1).sets hn (j := 17) (by omega) (fun b s => rfl) rfl rfl hok2⟩
 ·exact ⟨⟨_, R.thr hn (j := 19) rfl⟩, ⟨_, R.thr hn (j := 20) rfl⟩, (h.sets hn (j := 19) (v := .int .u32 ip) (T2 := { T with vals := T.vals.set 1 ⟨(T.vals.at_ 1).path, ip, (T.vals.at_ 1).port⟩ }) (by omega) (fun b s => rfl) rfl rfl hok1).sets hn (j := 20) (by omega) (fun b s => rfl) rfl rfl hok2⟩
 ·exact ⟨⟨_, R.thr hn (j := 22) rfl⟩, ⟨_, R.thr hn (j := 23) rfl⟩, (h.sets hn (j := 22) (v := .int .u32 ip) (T2 := { T with vals := T.vals.set 2 ⟨(T.vals.at_ 2).path, ip, (T.vals.at_ 2).port⟩ }) (by omega) (fun b s => rfl) rfl rfl hok1).sets hn (j := 23) (by omega) (fun b s => rfl) rfl rfl hok2⟩
 ·exact ⟨⟨_, R.thr hn (j := 25) rfl⟩, ⟨_, R.thr hn (j := 26) rfl⟩, (h.sets hn (j := 25) (v := .int .u32 ip) (T2 := { T with vals := T.vals.set 3 ⟨(T.vals.at_ 3).path, ip, (T.vals.at_ 3).port⟩ }) (by omega) (fun b s => rfl) rfl rfl hok1).sets hn (j := 26) (by omega) (fun b s => rfl) rfl rfl hok2⟩
end
end Go.Proofs.YtmgngapkgcofnabGreatDoor
namespace Go.Proofs.YtmgngapkgcofnabGreatDoor
open Go.RowKit Go.PlainAid
theorem sealX_nat (M : MemS) (s : ByteArray) : ∃ x : Nat, (sealX M s).1 = (x : Int) ∧ x ≤ 768 := by
 unfold sealX; split
 ·exact ⟨0, rfl, by omega⟩
 ·split
  ·rename_i i h; have := (ffF_lt h).2.1; exact ⟨_, rfl, by omega⟩
  ·exact ⟨0, rfl, by omega⟩
theorem sealK_at {S : WardS} {n a k : Nat} (ha : a < 4) (hk : 5 ≤ a + k) : sealK S n a k =
  if (sealX S.m (sealText (kindN (S.t n).now.nr a) ((S.t n).vals.at_ a))).2 ≠ 0 then endsS (S.setM (sealS S.m (sealText (kindN (S.t n).now.nr a) ((S.t n).vals.at_ a)))) n 2 12 zeroVals
  else sealK ((S.setM (sealS S.m (sealText (kindN (S.t n).now.nr a) ((S.t n).vals.at_ a)))).setT n { S.t n with seals := (S.t n).seals ++ [(sealX S.m (sealText (kindN (S.t n).now.nr a) ((S.t n).vals.at_ a))).1.toNat], now := (S.t n).now.setArg a (sealX S.m (sealText (kindN (S.t n).now.nr a) ((S.t n).vals.at_ a))).1 }) n (ptrN (S.t n).now.nr (a + 1)) (k - 1) := by
 obtain ⟨k, rfl⟩ : ∃ j, k = j + 1 := ⟨k - 1, by omega⟩
 rw [sealK, if_neg (by omega), Nat.add_sub_cancel]
theorem sealK_done {S : WardS} {n : Nat} (k : Nat) : sealK S n 4 k = setPh S n 5 := by
 cases k with
 | zero => rfl
 | succ k => rw [sealK, if_pos (by omega)]
theorem setArg_nr (c : CallD) (a : Nat) (x : Int) : (c.setArg a x).nr = c.nr := by
 unfold CallD.setArg; split
 ·rfl
 ·split
  ·rfl
  ·split <;> rfl
theorem setArg_ok {c : CallD} (h : c.ok) (a : Nat) {x : Int} (hx : u64ok x) : (c.setArg a x).ok := by
 obtain ⟨h1, h2, h3, h4, h5, h6⟩ := h; unfold CallD.setArg; split
 ·exact ⟨h1, h2, hx, h4, h5, h6⟩
 ·split
  ·exact ⟨h1, h2, h3, hx, h5, h6⟩
  ·split
   ·exact ⟨h1, h2, h3, h4, hx, h6⟩
   ·exact ⟨h1, h2, h3, h4, h5, hx⟩
section
variable {w W w' : World} {H : Nat} {B : Nat → Prop} {g : Nat} {p : PolD} {S : WardS} {n : Nat} {T : ThrS} {A : Option Addr} {c : Nat} {Ap : Option Addr} {cp : Nat} {m : Nat} {lv : Value} {bv sv : Nat → Value}
theorem WardRep.val (R : WardRep w H B g p S A c Ap cp m lv bv sv) (hn : n < 3) {a : Nat} (ha : a < 4) : w.cell? ⟨g, 5 + n * 28 + 15 + a * 3, none⟩ = some (.string ((S.t n).vals.at_ a).path) ∧ w.cell? ⟨g, 5 + n * 28 + 15 + a * 3 + 1, none⟩ = some (.int .u32 ((S.t n).vals.at_ a).ip) ∧ w.cell? ⟨g, 5 + n * 28 + 15 + a * 3 + 2, none⟩ = some (.int .i64 ((S.t n).vals.at_ a).port) := by
 have h4 : a = 0 ∨ a = 1 ∨ a = 2 ∨ a = 3 := by omega
 rcases h4 with rfl | rfl | rfl | rfl
 ·exact ⟨R.thr hn (j := 15) rfl, R.thr hn (j := 16) rfl, R.thr hn (j := 17) rfl⟩
 ·exact ⟨R.thr hn (j := 18) rfl, R.thr hn (j := 19) rfl, R.thr hn (j := 20) rfl⟩
 ·exact ⟨R.thr hn (j := 21) rfl, R.thr hn (j := 22) rfl, R.thr hn (j := 23) rfl⟩
 ·exact ⟨R.thr hn (j := 24) rfl, R.thr hn (j := 25) rfl, R.thr hn (j := 26) rfl⟩
theorem WardAt.setReg (h : WardAt W H B g p (S.setT n T)) (hn : n < 3) (hok : T.ok) (a : Nat) (ha : a < 4) (x : Int) (hx : u64ok x) :
  (∃ v, W.cell? ⟨g, 5 + n * 28 + 9 + a, none⟩ = some v) ∧ WardAt (W.setCell ⟨g, 5 + n * 28 + 9 + a, none⟩ (.int .u64 x)) H B g p (S.setT n { T with now := T.now.setArg a x }) := by
 have hok2 : ({ T with now := T.now.setArg a x } : ThrS).ok := ⟨hok.asked, setArg_ok hok.now a hx, hok.arg, hok.buf, hok.byt, hok.seals, hok.sealed, hok.vals⟩
 obtain ⟨A, c, Ap, cp, m, lv, bv, sv, R⟩ := h.rep; have h4 : a = 0 ∨ a = 1 ∨ a = 2 ∨ a = 3 := by omega
 rcases h4 with rfl | rfl | rfl | rfl
 ·exact ⟨⟨_, R.thr hn (j := 9) rfl⟩, h.sets hn (j := 9) (by omega) (fun b s => rfl) rfl rfl hok2⟩
 ·exact ⟨⟨_, R.thr hn (j := 10) rfl⟩, h.sets hn (j := 10) (by omega) (fun b s => rfl) rfl rfl hok2⟩
 ·exact ⟨⟨_, R.thr hn (j := 11) rfl⟩, h.sets hn (j := 11) (by omega) (fun b s => rfl) rfl rfl hok2⟩
 ·exact ⟨⟨_, R.thr hn (j := 12) rfl⟩, h.sets hn (j := 12) (by omega) (fun b s => rfl) rfl rfl hok2⟩
theorem setM_setT (S : WardS) (n : Nat) : S.setT n (S.t n) = S := by
 unfold WardS.setT; rw [ifn S.t n]
end
structure SealR (W0 wr : World) (H : Nat) (B : Nat → Prop) (g : Nat) (p : PolD) (n : Nat) (S0 S : WardS) (a k : Nat) : Prop where
 at_ : WardAt wr H B g p S
 fr : Frame B W0 wr
 eq : sealK S0 n (ptrN (S0.t n).now.nr 0) 5 = sealK S n a k
 fuel : 5 ≤ a + k
 nr : (S.t n).now.nr = (S0.t n).now.nr
 few : S.log.length < 1000000
 se : (S.t n).seals.length ≤ 50 + a
set_option linter.unusedSimpArgs false in
set_option maxRecDepth 100000 in
set_option maxHeartbeats 8000000 in
theorem wardSeal_any (H : Nat) (B : Nat → Prop) (g : Nat) (p : PolD) (S0 : WardS) (n : Nat) (w : World) (h : WardAt w H B g p S0) (hn : n < 3) (hBs : ∀ k, w.heap.size ≤ k → B k) (hfew : S0.log.length < 1000000) (hse : (S0.t n).seals.length ≤ 50) :
  Calls Tryz.prog 46 #[.pointer (some ⟨g, 0, none⟩), .int .i64 (n : Int)] w fun e w' => e = .returned (.tuple #[]) ∧ WardAt w' H B g p (sealStep S0 n) ∧ Frame B w w' := by
 have hB := h.base; have hl := h.low; have y3 : (0 : Int) ≤ (n : Int) := by omega
 have y4 : (n : Int) < 3 := by omega
 obtain ⟨nr, hnr⟩ : ∃ nr, nr = (S0.t n).now.nr := ⟨_, rfl⟩
 have hnr0 : 0 ≤ nr := by rw [hnr]; exact (h.ok.thr n).now.2.1.1
 have HPT : Hid (∀ (W : World) (S : WardS) (a : Nat), WardAt W H B g p S → (S.t n).now.nr = nr → a ≤ 4 → Calls Tryz.prog 94 #[.pointer (some ⟨g, 5 + n * 28, none⟩), .int .i64 (a : Int)] W fun e w' => e = .returned (.int .i64 (ptrN nr a : Nat)) ∧ Below W.heap.size W w') := fun W S a hW hS ha => by
  obtain ⟨A, c, Ap, cp, m, lv, bv, sv, R⟩ := hW.rep; have a8 := R.thr hn (j := 8) rfl; rw [hS] at a8; exact thrPtr_any g (5 + n * 28) nr a W a8 hnr0 ha
 have HEN : Hid (∀ (W : World) (S' : WardS), WardAt W H B g p S' → Frame B w W → S'.log.length < 1000000 → Calls Tryz.prog 96 #[.pointer (some ⟨g, 0, none⟩), .int .i64 (n : Int), .int .i64 2, .int .i64 12, .agg #[.string ⟨#[]⟩, .int .u32 0, .int .i64 0, .string ⟨#[]⟩, .int .u32 0, .int .i64 0, .string ⟨#[]⟩, .int .u32 0, .int .i64 0, .string ⟨#[]⟩, .int .u32 0, .int .i64 0]] W fun e w' => e = .returned (.tuple #[]) ∧ Hid (WardAt w' H B g p (endsS S' n 2 12 zeroVals) ∧ Frame B w w')) := fun W S' hW hF hS =>
  (wardEnds_any H B g p S' n 2 12 zeroVals W hW hn (fun i hi => hBs i (Nat.le_trans hF.size hi)) hS).mono fun e w' ⟨h1, h2, h3⟩ => ⟨h1, h2, hF.trans h3⟩
 have HLB := Lib.hid (And.intro hB (And.intro hl hBs)); have HP0 := Lib.hid (HPT.out w S0 0 h hnr.symm (by omega)); have HPL := Lib.hid (ptrN_le nr 0 (by omega)); have HH := Lib.hid h; have HI0 : Hid (∀ W, Below w.heap.size w W → SealR w W H B g p n S0 S0 (ptrN nr 0) 5) := fun W hb => ⟨h.below hb, Frame.of_below hb, by rw [hnr], by omega, rfl, hfew, by omega⟩
 have HNR := Lib.hid hnr; clear h hB hl hBs hfew hse hnr; go_enter Tryz.func46, Tryz.ntmps46
 go_wp2_with (first | (go_at_call 94; refine cargs (by simp [Act.eval]) (HP0.out.mono ?_); rintro e w2 ⟨rfl, hb2⟩; have HI2 := Lib.hid (HI0.out _ hb2); clear hb2) | fail)
 clear HI0 HP0
 go_loopw [5] (fun iv wr => ∃ (a k : Nat) (S : WardS), a ≤ 4 ∧ iv = .int .i64 a ∧ Hid (SealR w wr H B g p n S0 S a k)) (fun iv _ => 4 - (intOf iv).toNat)
 case atStart => exact ⟨ptrN nr 0, 5, S0, HPL.out.2.1, rfl, HI2.out⟩
 case round =>
  obtain ⟨a, k, S, ha, rfl, HI⟩ := hrel; clear HI2 HPL; obtain ⟨A, c, Ap, cp, m, lv, bv, sv, R⟩ := HI.out.at_.rep; have hgl := R.lt
  by_cases h4 : a < 4
  ·have z1 : (a : Int) < 4 := by omega
   have z0 : (0 : Int) ≤ (a : Int) := by omega
   obtain ⟨c15, c16, c17⟩ := R.val hn h4; obtain ⟨_, _, _, _, c4, _⟩ := R.head; have hvo := vals_ok1 (HI.out.at_.ok.thr n).vals a
   have HKI : Hid (∀ (W : World), Below wr.heap.size wr W → Calls Tryz.prog 98 #[.pointer (some ⟨g, 5 + n * 28, none⟩), .int .i64 (a : Int)] W fun e w' => e = .returned (.int .i64 (kindN nr a)) ∧ Below W.heap.size W w') := fun W hb => by
    have a8 := R.thr hn (j := 8) rfl; rw [HI.out.nr, ← HNR.out] at a8; exact thrKind_any g (5 + n * 28) nr a W ((hb.cell (p := ⟨g, _, none⟩) hgl).trans a8) hnr0
   have HEQ := Lib.hid (HI.out.eq.trans (sealK_at h4 HI.out.fuel)); rw [HI.out.nr, ← HNR.out] at HEQ; obtain ⟨v, hv⟩ : ∃ v, v = (S.t n).vals.at_ a := ⟨_, rfl⟩
   rw [← hv] at HEQ c15 c16 c17 hvo; obtain ⟨pth, ip, po⟩ := v; simp only at c15 c16 c17; obtain ⟨kd, hkd⟩ : ∃ kd, kd = kindN nr a := ⟨_, rfl⟩
   rw [← hkd] at HEQ HKI; obtain ⟨txt, htx⟩ : ∃ txt, txt = sealText kd ⟨pth, ip, po⟩ := ⟨_, rfl⟩
   rw [← htx] at HEQ
   have HSE : Hid (∀ W, Below wr.heap.size wr W → Calls Tryz.prog 101 #[.pointer (some ⟨m, 0, none⟩), .string txt] W fun e w' => e = .returned (.tuple #[.int .u64 (sealX S.m txt).1, errV (sealX S.m txt).2]) ∧ Hid (WardAt w' H B g p (S.setM (sealS S.m txt)) ∧ Frame B w w')) := fun W hb => by
    have hRW := R.below HLB.out.1 HLB.out.2.1 hb; refine (memSeal_any m B S.m txt W hRW.mem (fun i hi => HLB.out.2.2 i (Nat.le_trans HI.out.fr.size (Nat.le_trans hb.size hi)))).mono fun e w' ⟨k1, k2, k3⟩ => ?_; obtain ⟨q1, q2⟩ := hRW.setMem HLB.out.1 HLB.out.2.1 HI.out.at_.ok k3 k2; exact ⟨k1, q1, (HI.out.fr.trans (Frame.of_below hb)).trans q2⟩
   obtain ⟨x, hx1, hx2⟩ := sealX_nat S.m txt; obtain ⟨f, hf⟩ : ∃ f, f = (sealX S.m txt).2 := ⟨_, rfl⟩
   rw [hx1, ← hf] at HEQ HSE; have HSZ : Hid (pth.size ≤ 100000) := hvo.1; clear hx1 hf hv hkd; go_upto_region 4 with fail; have gsz : ¬ 9223372036854775807 < pth.size + 1 := by have := HSZ.out; omega
   by_cases k3 : kd = 3
   ·subst k3; obtain ⟨ipn, rfl⟩ : ∃ ipn : Nat, ip = (ipn : Int) := ⟨ip.toNat, by have := hvo.2.1; simp only at this; omega⟩
    have hip : ipn < 4294967296 := by have := hvo.2.2; simp only at this; omega
    obtain ⟨er, HBY⟩ : ∃ er : Value, Hid (∀ W : World, Calls Tryz.prog 100 #[.int .u32 (ipn : Int), .int .i64 po] W fun e w' => e = .returned (.tuple #[.string txt, er]) ∧ Below W.heap.size W w') := by
     rw [htx]; unfold sealText; rw [if_pos rfl]
     by_cases hpo : 0 ≤ po ∧ po ≤ 65535
     ·refine ⟨.nilIface, fun W => ?_⟩; have := bytes_any ipn po W hip; rw [if_neg (by omega)] at this; rw [if_pos hpo]; simp only [Int.toNat_natCast]; exact this
     ·refine ⟨.iface 105 (.int .i64 1), fun W => ?_⟩; have := bytes_any ipn po W hip; rw [if_pos (by omega)] at this; rw [if_neg hpo]; exact this
    clear htx; have HWR := Lib.hid (Below.refl wr.heap.size wr); have HS : Hid (∀ W, Below wr.heap.size wr W → W.cell? ⟨g, 5 + n * 28 + 15 + a * 3 + 1, none⟩ = some (.int .u32 (ipn : Int)) ∧ W.cell? ⟨g, 5 + n * 28 + 15 + a * 3 + 2, none⟩ = some (.int .i64 po)) := fun W hb => ⟨(hb.cell (p := ⟨g, _, none⟩) hgl).trans c16, (hb.cell (p := ⟨g, _, none⟩) hgl).trans c17⟩
    go_upto_region 6 with (first | (go_at_call 98; refine cargs (by simp [Act.eval]) ((HKI.out _ HWR.out).mono ?_); rintro e w3 ⟨rfl, hb3⟩; have HB3 := Lib.hid hb3; clear hb3) | fail)
    go_cut [6] (fun tv wx => tv = .string txt ∧ Hid (Below wr.heap.size wr wx))
    case first =>
     go_region_held3 (fun W : World => W.cell? ⟨g, 5 + n * 28 + 15 + a * 3 + 1, none⟩ = some (.int .u32 (ipn : Int)) ∧ W.cell? ⟨g, 5 + n * 28 + 15 + a * 3 + 2, none⟩ = some (.int .i64 po))
      (first | exact HS.out _ HB3.out | exact HS.out _ HB3.out.drew | exact HS.out _ HB4.out | fail)
      (first | (go_at_call 100; refine cargs (by simp [Act.eval]) ((HBY.out _).mono ?_); rintro e w4 ⟨rfl, hb4⟩; have HB4 : Hid (Below wr.heap.size wr w4) := HB3.out.drew.trans (hb4.mono HB3.out.size); clear hb4) | fail)
     all_goals
      go_wp2_with fail
      go_meet
      exact ⟨rfl, HB4.out⟩
    case rest =>
     obtain ⟨rfl, HBC⟩ := hcut; clear HS HBY HWR HB3; obtain ⟨As, cs, hsn⟩ := (R.sea n hn).form; obtain ⟨L, hL0⟩ : ∃ L, L = (S.t n).seals.length := ⟨_, rfl⟩
     have HLL := Lib.hid hL0; clear hL0
     by_cases hf : f = 0
     ·subst hf; have e1 := HEQ.out; rw [if_neg (by simp)] at e1; rw [errV_zero] at HSE; have HNX := Lib.hid e1; clear e1 HEQ HEN HKI hgl hvo; have g4 := (HBC.out.cell (p := ⟨g, 4, none⟩) R.lt).trans c4; clear c4 c15 c16 c17 R hsn
      go_upto_region 10 with (first
       | (go_at_call 101; refine cargs (by simp [Act.eval]) ((HSE.out _ HBC.out).mono ?_); rintro e w5 ⟨rfl, hx⟩; have HX5 : Hid (WardAt w5 H B g p (S.setM (sealS S.m txt)) ∧ Frame B w w5) := hx.out; clear hx)
       | fail)
      obtain ⟨A5, c5, Ap5, cp5, m5, lv5, bv5, sv5, R5⟩ := HX5.out.1.rep; have q27 := R5.thr hn (j := 27) rfl; obtain ⟨i0, hi, hz0, hz1, hz2⟩ := info_parts u64Info; have e0 : (S.setM (sealS S.m txt)).t n = S.t n := rfl; obtain ⟨As5, cs5, hs5⟩ := (R5.sea n hn).form; rw [e0, ← HLL.out] at hs5; rw [hs5] at q27
      obtain ⟨hrs, hput0⟩ := HX5.out.1.seaPut (a := x) (T := { S.t n with seals := (S.t n).seals ++ [x] }) hn (fun i hi => HLB.out.2.2 i (Nat.le_trans HX5.out.2.size hi)) q27; rw [e0] at hrs
      have HRW : Hid (w5.ownsRow 0 42 1 (.slice As5 L cs5) L (u64s (S.t n).seals)) := by
       have := hrs.1; rw [← HLL.out] at this; exact this
      have hL100 : L ≤ 60 := by rw [HLL.out]; have := HI.out.se; omega
      have HOKT := Lib.hid (HI.out.at_.ok.thr n)
      have HOKS : Hid (({ S.t n with seals := (S.t n).seals ++ [x] } : ThrS).ok) := ⟨HOKT.out.asked, HOKT.out.now, HOKT.out.arg, HOKT.out.buf, HOKT.out.byt, by simp; have := HLL.out; omega, (fun y hy => by
       rcases List.mem_append.1 hy with h | h
       ·exact HOKT.out.sealed y h
       ·rw [List.mem_singleton.1 h]; omega), HOKT.out.vals⟩
      have HPUT : Hid (∀ (o : Obj) (w7 : World) (g1 cap : Nat), w7.ownsRow 0 42 1 (.slice (some ⟨g1, 0, none⟩) (L + 1) cap) (L + 1) (u64s (S.t n).seals ++ [.int .u64 (x : Int)]) → (w5.alloc o).grownBy w7 (Value.slice As5 L cs5).ownBlock → ((Value.slice As5 L cs5).ownBlock = some g1 ∨ g1 = (w5.alloc o).heap.size) →
        (w7.cell? ⟨g, 5 + n * 28 + 27, none⟩ = some (.slice As5 L cs5) ∧ w7.frozen? ⟨g, 5 + n * 28 + 27, none⟩ = false) ∧ (WardAt (w7.setCell ⟨g, 5 + n * 28 + 27, none⟩ (.slice (some ⟨g1, 0, none⟩) (L + 1) cap)) H B g p ((S.setM (sealS S.m txt)).setT n { S.t n with seals := (S.t n).seals ++ [x] }) ∧ Frame B w (w7.setCell ⟨g, 5 + n * 28 + 27, none⟩ (.slice (some ⟨g1, 0, none⟩) (L + 1) cap)))) := fun o w7 g1 cap hown hgrow hat => by
       have hL := HLL.out; subst hL; have hsz : (w5.alloc o).heap.size = w5.heap.size + 1 := by simp
       obtain ⟨k1, k2, k3⟩ := hput0 hown (grown_via ((Below.refl _ _).alloc (Nat.le_refl _) o) hgrow) (hat.imp id (fun e => by rw [e, hsz]; omega)) (fun b s0 v => rfl) rfl rfl HOKS.out; exact ⟨k1, k2, HX5.out.2.trans k3⟩
      clear hrs hput0 R5 hs5 e0
      go_upto_region 11 with (first
       | (at_builtin; refine wpList_append_lies _ rfl _ _ _ rfl 0 42 i0 _ 1 8 Tryz.underlying97 hi hz0 hz1 hz2 rfl (by omega) _ L (u64s (S.t n).seals) rfl (HRW.out.alloc _) ⟨w5.heap.size, 0, none⟩ 1 1 [.int .u64 (x : Int)] rfl rfl (cell1 _ _ _ _ (heap_alloc_new _ _)) (by simp [Value.oneCell']) (by omega) (by unfold maxLen; omega) (by omega) (by simp) _ rfl ?_; intro g1 cap1 w7 hown hgrow hat _; obtain ⟨⟨p27, z27⟩, hput⟩ := HPUT.out _ w7 g1 cap1 hown hgrow hat; have HPT7 := Lib.hid hput; clear hown hgrow hat hput)
       | fail)
      generalize w7.setCell ⟨g, 5 + n * 28 + 27, none⟩ (.slice (some ⟨g1, 0, none⟩) (L + 1) cap1) = W8 at *
      obtain ⟨⟨v9, q9⟩, hset⟩ := HPT7.out.1.setReg hn HOKS.out a h4 (x : Int) ⟨by omega, by omega⟩; have q9f := (HPT7.out.1.reads hn).2.2.2.2.1 (5 + n * 28 + 9 + a)
      have HI9 : Hid (SealR w (W8.setCell ⟨g, 5 + n * 28 + 9 + a, none⟩ (.int .u64 (x : Int))) H B g p n S0 ((S.setM (sealS S.m txt)).setT n { S.t n with seals := (S.t n).seals ++ [x], now := (S.t n).now.setArg a x }) (ptrN nr (a + 1)) (k - 1)) := by
       refine ⟨hset, HPT7.out.2.trans (Frame.set W8 HLB.out.1 _ _), ?_, ?_, ?_, HI.out.few, ?_⟩
       ·have := HNX.out; rw [Int.toNat_natCast] at this; rw [← HNR.out]; exact this
       ·have := (ptrN_le nr (a + 1) (by omega)).1; have := HI.out.fuel; omega
       ·rw [setT_self]; show ((S.t n).now.setArg a x).nr = _; rw [setArg_nr, HI.out.nr]
       ·rw [setT_self]; show ((S.t n).seals ++ [x]).length ≤ _; have := HI.out.se; have := (ptrN_le nr (a + 1) (by omega)).1; simp; omega
      clear hset HX5 HPUT p27 z27 q27 HRW HSE HNX; go_upto_region 3 with fail; generalize W8.setCell ⟨g, 5 + n * 28 + 9 + a, none⟩ (.int .u64 (x : Int)) = W9 at *
      have HP1 : Hid (Calls Tryz.prog 94 #[.pointer (some ⟨g, 5 + n * 28, none⟩), .int .i64 ((a : Int) + 1)] W9 fun e w' => e = .returned (.int .i64 (ptrN nr (a + 1) : Nat)) ∧ Below W9.heap.size W9 w') := by
       have := HPT.out W9 _ (a + 1) HI9.out.at_ (by rw [HI9.out.nr, ← HNR.out]) (by omega); rw [Int.natCast_add] at this; exact this
      have HPL := Lib.hid (ptrN_le nr (a + 1) (by omega))
      go_wp2_with (first | (go_at_call 94; refine cargs (by simp [Act.eval]) (HP1.out.mono ?_); rintro e w6 ⟨rfl, hb6⟩; have HD6 := Lib.hid hb6; clear hb6) | fail)
      go_roundw
      case rel => exact ⟨ptrN nr (a + 1), k - 1, _, HPL.out.2.1, rfl, ⟨HI9.out.at_.below HD6.out, HI9.out.fr.trans (Frame.of_below HD6.out), HI9.out.eq, HI9.out.fuel, HI9.out.nr, HI9.out.few, HI9.out.se⟩⟩
      case measure => have := HPL.out.1; have := HPL.out.2.1; simp [intOf]; omega
     ·have e1 := HEQ.out; rw [if_pos hf] at e1
      have HS1 : Hid (sealStep S0 n = endsS (S.setM (sealS S.m txt)) n 2 12 zeroVals) := by
       show sealK S0 n (ptrN (S0.t n).now.nr 0) 5 = _; rw [← HNR.out]; exact e1
      rw [errV_pos hf] at HSE; have g4 := (HBC.out.cell (p := ⟨g, 4, none⟩) R.lt).trans c4; clear e1 HEQ HKI HPT c4 c15 c16 c17 R hsn hgl hvo
      go_wp2_with (first
       | (go_at_call 101; refine cargs (by simp [Act.eval]) ((HSE.out _ HBC.out).mono ?_); rintro e w5 ⟨rfl, hx⟩; have HX5 : Hid (WardAt w5 H B g p (S.setM (sealS S.m txt)) ∧ Frame B w w5) := hx.out; clear hx)
       | (go_at_call 96; refine cargs (by simp [Act.eval]) ((HEN.out _ (S.setM (sealS S.m txt)) HX5.out.1 HX5.out.2 HI.out.few).mono ?_); rintro e w6 ⟨rfl, hx⟩)
       | fail)
      go_returns
      exact ⟨rfl, by rw [HS1.out]; exact hx.out.1, hx.out.2⟩
   ·have htx2 : txt = pth ++ ⟨#[0]⟩ := by rw [htx]; unfold sealText; rw [if_neg k3]
    have k3d : decide (kd = 3) = false := decide_eq_false k3; have HWR := Lib.hid (Below.refl wr.heap.size wr); clear htx
    go_upto_region 7 with (first | (go_at_call 98; refine cargs (by simp [Act.eval]) ((HKI.out _ HWR.out).mono ?_); rintro e w3 ⟨rfl, hb3⟩; have HBC := Lib.hid hb3; clear hb3) | fail)
    try rw [← htx2]
    clear htx2 HWR; obtain ⟨As, cs, hsn⟩ := (R.sea n hn).form; obtain ⟨L, hL0⟩ : ∃ L, L = (S.t n).seals.length := ⟨_, rfl⟩
    have HLL := Lib.hid hL0; clear hL0
    by_cases hf : f = 0
    ·subst hf; have e1 := HEQ.out; rw [if_neg (by simp)] at e1; rw [errV_zero] at HSE; have HNX := Lib.hid e1; clear e1 HEQ HEN HKI hgl hvo; have g4 := (HBC.out.cell (p := ⟨g, 4, none⟩) R.lt).trans c4; clear c4 c15 c16 c17 R hsn
     go_upto_region 10 with (first
      | (go_at_call 101; refine cargs (by simp [Act.eval]) ((HSE.out _ HBC.out).mono ?_); rintro e w5 ⟨rfl, hx⟩; have HX5 : Hid (WardAt w5 H B g p (S.setM (sealS S.m txt)) ∧ Frame B w w5) := hx.out; clear hx)
      | fail)
     obtain ⟨A5, c5, Ap5, cp5, m5, lv5, bv5, sv5, R5⟩ := HX5.out.1.rep; have q27 := R5.thr hn (j := 27) rfl; obtain ⟨i0, hi, hz0, hz1, hz2⟩ := info_parts u64Info; have e0 : (S.setM (sealS S.m txt)).t n = S.t n := rfl; obtain ⟨As5, cs5, hs5⟩ := (R5.sea n hn).form; rw [e0, ← HLL.out] at hs5; rw [hs5] at q27
     obtain ⟨hrs, hput0⟩ := HX5.out.1.seaPut (a := x) (T := { S.t n with seals := (S.t n).seals ++ [x] }) hn (fun i hi => HLB.out.2.2 i (Nat.le_trans HX5.out.2.size hi)) q27; rw [e0] at hrs
     have HRW : Hid (w5.ownsRow 0 42 1 (.slice As5 L cs5) L (u64s (S.t n).seals)) := by
      have := hrs.1; rw [← HLL.out] at this; exact this
     have hL100 : L ≤ 60 := by rw [HLL.out]; have := HI.out.se; omega
     have HOKT := Lib.hid (HI.out.at_.ok.thr n)
     have HOKS : Hid (({ S.t n with seals := (S.t n).seals ++ [x] } : ThrS).ok) := ⟨HOKT.out.asked, HOKT.out.now, HOKT.out.arg, HOKT.out.buf, HOKT.out.byt, by simp; have := HLL.out; omega, (fun y hy => by
      rcases List.mem_append.1 hy with h | h
      ·exact HOKT.out.sealed y h
      ·rw [List.mem_singleton.1 h]; omega), HOKT.out.vals⟩
     have HPUT : Hid (∀ (o : Obj) (w7 : World) (g1 cap : Nat), w7.ownsRow 0 42 1 (.slice (some ⟨g1, 0, none⟩) (L + 1) cap) (L + 1) (u64s (S.t n).seals ++ [.int .u64 (x : Int)]) → (w5.alloc o).grownBy w7 (Value.slice As5 L cs5).ownBlock → ((Value.slice As5 L cs5).ownBlock = some g1 ∨ g1 = (w5.alloc o).heap.size) →
       (w7.cell? ⟨g, 5 + n * 28 + 27, none⟩ = some (.slice As5 L cs5) ∧ w7.frozen? ⟨g, 5 + n * 28 + 27, none⟩ = false) ∧ (WardAt (w7.setCell ⟨g, 5 + n * 28 + 27, none⟩ (.slice (some ⟨g1, 0, none⟩) (L + 1) cap)) H B g p ((S.setM (sealS S.m txt)).setT n { S.t n with seals := (S.t n).seals ++ [x] }) ∧ Frame B w (w7.setCell ⟨g, 5 + n * 28 + 27, none⟩ (.slice (some ⟨g1, 0, none⟩) (L + 1) cap)))) := fun o w7 g1 cap hown hgrow hat => by
      have hL := HLL.out; subst hL; have hsz : (w5.alloc o).heap.size = w5.heap.size + 1 := by simp
      obtain ⟨k1, k2, k3⟩ := hput0 hown (grown_via ((Below.refl _ _).alloc (Nat.le_refl _) o) hgrow) (hat.imp id (fun e => by rw [e, hsz]; omega)) (fun b s0 v => rfl) rfl rfl HOKS.out; exact ⟨k1, k2, HX5.out.2.trans k3⟩
     clear hrs hput0 R5 hs5 e0
     go_upto_region 11 with (first
      | (at_builtin; refine wpList_append_lies _ rfl _ _ _ rfl 0 42 i0 _ 1 8 Tryz.underlying97 hi hz0 hz1 hz2 rfl (by omega) _ L (u64s (S.t n).seals) rfl (HRW.out.alloc _) ⟨w5.heap.size, 0, none⟩ 1 1 [.int .u64 (x : Int)] rfl rfl (cell1 _ _ _ _ (heap_alloc_new _ _)) (by simp [Value.oneCell']) (by omega) (by unfold maxLen; omega) (by omega) (by simp) _ rfl ?_; intro g1 cap1 w7 hown hgrow hat _; obtain ⟨⟨p27, z27⟩, hput⟩ := HPUT.out _ w7 g1 cap1 hown hgrow hat; have HPT7 := Lib.hid hput; clear hown hgrow hat hput)
      | fail)
     generalize w7.setCell ⟨g, 5 + n * 28 + 27, none⟩ (.slice (some ⟨g1, 0, none⟩) (L + 1) cap1) = W8 at *
     obtain ⟨⟨v9, q9⟩, hset⟩ := HPT7.out.1.setReg hn HOKS.out a h4 (x : Int) ⟨by omega, by omega⟩; have q9f := (HPT7.out.1.reads hn).2.2.2.2.1 (5 + n * 28 + 9 + a)
     have HI9 : Hid (SealR w (W8.setCell ⟨g, 5 + n * 28 + 9 + a, none⟩ (.int .u64 (x : Int))) H B g p n S0 ((S.setM (sealS S.m txt)).setT n { S.t n with seals := (S.t n).seals ++ [x], now := (S.t n).now.setArg a x }) (ptrN nr (a + 1)) (k - 1)) := by
      refine ⟨hset, HPT7.out.2.trans (Frame.set W8 HLB.out.1 _ _), ?_, ?_, ?_, HI.out.few, ?_⟩
      ·have := HNX.out; rw [Int.toNat_natCast] at this; rw [← HNR.out]; exact this
      ·have := (ptrN_le nr (a + 1) (by omega)).1; have := HI.out.fuel; omega
      ·rw [setT_self]; show ((S.t n).now.setArg a x).nr = _; rw [setArg_nr, HI.out.nr]
      ·rw [setT_self]; show ((S.t n).seals ++ [x]).length ≤ _; have := HI.out.se; have := (ptrN_le nr (a + 1) (by omega)).1; simp; omega
     clear hset HX5 HPUT p27 z27 q27 HRW HSE HNX; go_upto_region 3 with fail; generalize W8.setCell ⟨g, 5 + n * 28 + 9 + a, none⟩ (.int .u64 (x : Int)) = W9 at *
     have HP1 : Hid (Calls Tryz.prog 94 #[.pointer (some ⟨g, 5 + n * 28, none⟩), .int .i64 ((a : Int) + 1)] W9 fun e w' => e = .returned (.int .i64 (ptrN nr (a + 1) : Nat)) ∧ Below W9.heap.size W9 w') := by
      have := HPT.out W9 _ (a + 1) HI9.out.at_ (by rw [HI9.out.nr, ← HNR.out]) (by omega); rw [Int.natCast_add] at this; exact this
     have HPL := Lib.hid (ptrN_le nr (a + 1) (by omega))
     go_wp2_with (first | (go_at_call 94; refine cargs (by simp [Act.eval]) (HP1.out.mono ?_); rintro e w6 ⟨rfl, hb6⟩; have HD6 := Lib.hid hb6; clear hb6) | fail)
     go_roundw
     case rel => exact ⟨ptrN nr (a + 1), k - 1, _, HPL.out.2.1, rfl, ⟨HI9.out.at_.below HD6.out, HI9.out.fr.trans (Frame.of_below HD6.out), HI9.out.eq, HI9.out.fuel, HI9.out.nr, HI9.out.few, HI9.out.se⟩⟩
     case measure => have := HPL.out.1; have := HPL.out.2.1; simp [intOf]; omega
    ·have e1 := HEQ.out; rw [if_pos hf] at e1
     have HS1 : Hid (sealStep S0 n = endsS (S.setM (sealS S.m txt)) n 2 12 zeroVals) := by
      show sealK S0 n (ptrN (S0.t n).now.nr 0) 5 = _; rw [← HNR.out]; exact e1
     rw [errV_pos hf] at HSE; have g4 := (HBC.out.cell (p := ⟨g, 4, none⟩) R.lt).trans c4; clear e1 HEQ HKI HPT c4 c15 c16 c17 R hsn hgl hvo
     go_wp2_with (first
      | (go_at_call 101; refine cargs (by simp [Act.eval]) ((HSE.out _ HBC.out).mono ?_); rintro e w5 ⟨rfl, hx⟩; have HX5 : Hid (WardAt w5 H B g p (S.setM (sealS S.m txt)) ∧ Frame B w w5) := hx.out; clear hx)
      | (go_at_call 96; refine cargs (by simp [Act.eval]) ((HEN.out _ (S.setM (sealS S.m txt)) HX5.out.1 HX5.out.2 HI.out.few).mono ?_); rintro e w6 ⟨rfl, hx⟩)
      | fail)
     go_returns
     exact ⟨rfl, by rw [HS1.out]; exact hx.out.1, hx.out.2⟩
  ·obtain rfl : a = 4 := by omega
   have e1 := HI.out.eq; rw [sealK_done] at e1
   have HS1 : Hid (sealStep S0 n = setPh S n 5) := by
    show sealK S0 n _ 5 = _; exact e1
   have q0 := R.thr hn (j := 0) rfl; simp only [Nat.add_zero] at q0; have z0' := R.frozen (5 + n * 28)
   have HXF : Hid (WardAt (wr.setCell ⟨g, 5 + n * 28, none⟩ (.int .i64 5)) H B g p (setPh S n 5) ∧ Frame B w (wr.setCell ⟨g, 5 + n * 28, none⟩ (.int .i64 5))) := by
    refine ⟨?_, HI.out.fr.trans (Frame.set wr HLB.out.1 _ _)⟩; have h1 : WardAt wr H B g p (S.setT n (S.t n)) := by rw [setM_setT]; exact HI.out.at_
    exact h1.setPhase hn (HI.out.at_.ok.thr n) 5
   clear R e1 HEN HPT
   go_wp2_with fail
   go_returns
   exact ⟨rfl, by rw [HS1.out]; exact HXF.out.1, HXF.out.2⟩
end Go.Proofs.YtmgngapkgcofnabGreatDoor
