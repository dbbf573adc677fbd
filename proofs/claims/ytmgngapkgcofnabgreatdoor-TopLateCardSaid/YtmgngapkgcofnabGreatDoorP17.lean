/- bpf.Run: the walk. -/
import Derived.Test.YtmgngapkgcofnabGreatDoorP11
namespace Go.Proofs.YtmgngapkgcofnabGreatDoor
open Go.RowKit
theorem runF_1 {l : List Ins} {c : CallD} {n p : Nat} {a st : Int} (h : p < l.length) (h1 : l[p].op = 1) : runF l c (n + 1) p a st = runF l c n (p + 1) (c.word l[p].k) (st + 1) := by
 rw [runF, List.getElem?_eq_getElem h]; simp only; rw [if_pos h1]
theorem runF_2 {l : List Ins} {c : CallD} {n p : Nat} {a st : Int} (h : p < l.length) (h1 : l[p].op = 2) : runF l c (n + 1) p a st = runF l c n (p + 1) (bits .and .u32 a l[p].k) (st + 1) := by
 rw [runF, List.getElem?_eq_getElem h]; simp only; rw [if_neg (by omega), if_pos h1]
theorem runF_3 {l : List Ins} {c : CallD} {n p : Nat} {a st : Int} (h : p < l.length) (h1 : l[p].op = 3) : runF l c (n + 1) p a st = runF l c n (p + 1 + l[p].k.toNat) a (st + 1) := by
 rw [runF, List.getElem?_eq_getElem h]; simp only; rw [if_neg (by omega), if_neg (by omega), if_pos h1]
theorem runF_8 {l : List Ins} {c : CallD} {n p : Nat} {a st : Int} (h : p < l.length) (h1 : l[p].op = 8) : runF l c (n + 1) p a st = (l[p].k, st + 1) := by
 rw [runF, List.getElem?_eq_getElem h]; simp only; rw [if_neg (by omega), if_neg (by omega), if_neg (by omega), if_pos h1]
theorem runF_b {l : List Ins} {c : CallD} {n p : Nat} {a st : Int} (h : p < l.length) (h1 : 4 ≤ l[p].op ∧ l[p].op ≤ 7) : runF l c (n + 1) p a st =
  if holdsF l[p].op a l[p].k then runF l c n (p + 1 + l[p].jt.toNat) a (st + 1) else runF l c n (p + 1 + l[p].jf.toNat) a (st + 1) := by
 rw [runF, List.getElem?_eq_getElem h]; simp only; rw [if_neg (by omega), if_neg (by omega), if_neg (by omega), if_neg (by omega)]
theorem and_range {a k : Int} (a0 : 0 ≤ a) (a1 : a < 4294967296) (k0 : 0 ≤ k) (k1 : k < 4294967296) : 0 ≤ bits .and .u32 a k ∧ bits .and .u32 a k < 4294967296 := by
 rw [u32_and a k a0 a1 k0 k1]; have : a.toNat &&& k.toNat ≤ a.toNat := Nat.and_le_left; omega
theorem word_range (c : CallD) (hc : c.ok) (p : Int) : 0 ≤ c.word p ∧ c.word p < 4294967296 := by
 obtain ⟨⟨_, _⟩, ⟨_, _⟩, ⟨_, _⟩, ⟨_, _⟩, ⟨_, _⟩, ⟨_, _⟩⟩ := hc; unfold CallD.word; split
 ·next h =>
  have hall : ∀ x ∈ c.record, 0 ≤ x ∧ x < 4294967296 := by
   intro x hx; simp only [CallD.record, List.mem_cons, List.not_mem_nil, or_false] at hx; rcases hx with rfl | rfl | rfl | rfl | rfl | rfl | rfl | rfl | rfl | rfl <;> omega
  cases hg : c.record[(p / 4).toNat]? with
  | none => simp
  | some x => exact hall x (List.mem_of_getElem? hg)
 ·omega
set_option maxRecDepth 100000 in
set_option maxHeartbeats 4000000 in
theorem run_ok (b o cap : Nat) (l : List Ins) (c : CallD) (w : World) (hrow : InsRow w b o l) (hB : b < w.heap.size) (hok : ∀ x ∈ l, x.ok) (hc : c.ok) (hf : checkF l = 0) :
  Calls Tryz.prog 92 #[.slice (some ⟨b, o, none⟩) l.length cap, c.v] w fun e w' =>
   e = .returned (.tuple #[.int .u32 (runF l c l.length 0 0 0).1, .int .i64 (runF l c l.length 0 0 0).2, .nilIface]) ∧ Below w.heap.size w w' := by
 obtain ⟨hl0, hl1, hsc, hlast⟩ := check_ok hf; have HFine := Lib.hid (fine_at hok hsc); have HO : Hid (∀ x ∈ l, x.ok) := hok; have hsl : InsSl w w.heap.size (.slice (some ⟨b, o, none⟩) l.length cap) l := ⟨hok, _, _, rfl, Or.inr ⟨b, o, rfl, hB, hrow⟩⟩
 have HCk : Hid (∀ o' : Obj, Calls Tryz.prog 143 #[.slice (some ⟨b, o, none⟩) l.length cap] (w.alloc o') fun e w' => e = .returned .nilIface ∧ Below (w.alloc o').heap.size (w.alloc o') w') := fun o' =>
  (check_any _ l _ ((hsl.below ((Below.refl _ _).alloc (Nat.le_refl _) o')).mono (by simp)) (by omega)).mono fun _ _ ⟨h1, h2⟩ => ⟨by rw [h1, hf]; rfl, h2⟩
 have HWd := Lib.hid (fun p w h0 h1 => word_any c p w hc h0 h1); have HWr := Lib.hid (word_range c hc); have HL : Hid ((l[l.length - 1]?).map (·.op) = some 8) := hlast; have HR : Hid (InsRow w b o l) := hrow; clear hsl hok hrow hlast hf hsc; obtain ⟨R, HRun⟩ : ∃ R, Hid (runF l c l.length 0 0 0 = R) := ⟨_, rfl⟩
 rw [HRun.out]; obtain ⟨arch, nr, a0, a1, a2, a3⟩ := c; clear hc; unfold CallD.v at *
 simp only at HWd ⊢; go_enter Tryz.func92, Tryz.ntmps92
 go_wp2_with (go_at_call 143; refine (HCk.out _).mono ?_; rintro e w1 ⟨rfl, hb1⟩)
 clear HCk
 go_loopw [8, 9, 10] (fun av sv pv wr => ∃ (p n : Nat) (a st : Int), pv = .int .i64 p ∧ av = .int .u32 a ∧ sv = .int .i64 st ∧ p < l.length ∧ 0 ≤ a ∧ a < 4294967296 ∧ 0 ≤ st ∧ st ≤ p ∧ l.length - p ≤ n ∧
   Below (w.heap.size + 1) (w.alloc (.cells #[.int .u32 arch, .int .u32 nr, .int .u64 a0, .int .u64 a1, .int .u64 a2, .int .u64 a3] 52)) wr ∧
   Hid (runF l ⟨arch, nr, a0, a1, a2, a3⟩ n p a st = R)) (fun _ _ pv _ => l.length - (intOf pv).toNat)
 case atStart => exact ⟨0, l.length, 0, 0, rfl, rfl, rfl, hl0, by omega, by omega, by omega, by omega, by omega, by simpa using hb1, HRun.out⟩
 case round =>
  obtain ⟨p, n, a, st, rfl, rfl, rfl, hp, ha0, ha1, hs0, hs1, hn, hb, HS⟩ := hrel; obtain ⟨n, rfl⟩ : ∃ m, n = m + 1 := ⟨n - 1, by omega⟩
  have hfine := HFine.out p hp; have hx := (((HR.out.below ((Below.refl _ _).alloc (Nat.le_refl _) _) hB).below hb (by omega)) : InsRow wr b o l) p l[p] (by simp); have hok' := HO.out l[p] (by simp); have k0 : wr.cell? ⟨w.heap.size, 0, none⟩ = some (.int .u32 arch) := (hb.cell (p := ⟨_, _, none⟩) (by simp)).trans (by simp)
  have k1 : wr.cell? ⟨w.heap.size, 1, none⟩ = some (.int .u32 nr) := (hb.cell (p := ⟨_, _, none⟩) (by simp)).trans (by simp); have k2 : wr.cell? ⟨w.heap.size, 2, none⟩ = some (.int .u64 a0) := (hb.cell (p := ⟨_, _, none⟩) (by simp)).trans (by simp); have k3 : wr.cell? ⟨w.heap.size, 3, none⟩ = some (.int .u64 a1) := (hb.cell (p := ⟨_, _, none⟩) (by simp)).trans (by simp)
  have k4 : wr.cell? ⟨w.heap.size, 4, none⟩ = some (.int .u64 a2) := (hb.cell (p := ⟨_, _, none⟩) (by simp)).trans (by simp); have k5 : wr.cell? ⟨w.heap.size, 5, none⟩ = some (.int .u64 a3) := (hb.cell (p := ⟨_, _, none⟩) (by simp)).trans (by simp); have hbs := hb.size; have hbs2 : w.heap.size < wr.heap.size := by simp only [World.size_alloc] at hbs; omega
  clear hbs; have HN1 := Lib.hid (fun h => runF_1 (l := l) (c := ⟨arch, nr, a0, a1, a2, a3⟩) (n := n) (a := a) (st := st) hp h); have HN2 := Lib.hid (fun h => runF_2 (l := l) (c := ⟨arch, nr, a0, a1, a2, a3⟩) (n := n) (a := a) (st := st) hp h); have HN3 := Lib.hid (fun h => runF_3 (l := l) (c := ⟨arch, nr, a0, a1, a2, a3⟩) (n := n) (a := a) (st := st) hp h)
  have HN8 := Lib.hid (fun h => runF_8 (l := l) (c := ⟨arch, nr, a0, a1, a2, a3⟩) (n := n) (a := a) (st := st) hp h); have HNb := Lib.hid (fun h => runF_b (l := l) (c := ⟨arch, nr, a0, a1, a2, a3⟩) (n := n) (a := a) (st := st) hp h)
  have HEnd : Hid (p + 1 = l.length → l[p].op = 8) := fun e => by
   have := HL.out; rw [show l.length - 1 = p from by omega, List.getElem?_eq_getElem hp] at this
   simpa using this
  generalize l[p] = x at *
  obtain ⟨op, jt, jf, kk⟩ := x; obtain ⟨g0, g1, g2, g3⟩ := hx; obtain ⟨hk1, hk2⟩ := hok'; obtain ⟨⟨o1, o2⟩, ⟨j1, j2⟩, ⟨j3, j4⟩, fw, fj, fb⟩ := hfine; simp only at g0 g1 g2 g3 hk1 hk2 o1 o2 j1 j2 j3 j4 fw fj fb HN1 HN2 HN3 HN8 HNb HEnd; have HFw := Lib.hid fw; have HFj := Lib.hid fj; have HFb := Lib.hid fb; clear fw fj fb
  by_cases c1 : op = 1
  ·subst c1; have HN := Lib.hid (HN1.out rfl)
   have hp2 : p + 1 < l.length := by
    rcases Nat.lt_or_ge (p + 1) l.length with h | h
    ·exact h
    ·have := HEnd.out (by omega); omega
   obtain ⟨r0, r1⟩ := HWr.out kk
   go_wp2_with (go_at_call 144; refine (HWd.out _ _ (by assumption) (by assumption)).mono ?_; rintro e w' ⟨rfl, hb'⟩; have hb2 := below_box hb (by simp) hb'; clear hb')
   go_roundw
   case rel => exact ⟨p + 1, n, _, st + 1, by go_num, rfl, rfl, hp2, r0, r1, by omega, by omega, by omega, hb2, by show _ = R; rw [← HS.out, HN.out]⟩
   case measure => simp [intOf]; omega
  by_cases c2 : op = 2
  ·subst c2; have HN := Lib.hid (HN2.out rfl)
   have hp2 : p + 1 < l.length := by
    rcases Nat.lt_or_ge (p + 1) l.length with h | h
    ·exact h
    ·have := HEnd.out (by omega); omega
   obtain ⟨r0, r1⟩ := and_range ha0 ha1 hk1 hk2
   go_wp2_with fail; go_roundw
   case rel => exact ⟨p + 1, n, _, st + 1, by go_num, rfl, rfl, hp2, r0, r1, by omega, by omega, by omega, hb.alloc (by omega) _, by show _ = R; rw [← HS.out, HN.out]⟩
   case measure => simp [intOf]; omega
  by_cases c3 : op = 3
  ·subst c3; have HN := Lib.hid (HN3.out rfl); have hj := HFj.out rfl; obtain ⟨q, rfl⟩ := Int.eq_ofNat_of_zero_le hk1
   go_wp2_with fail; go_roundw
   case rel => exact ⟨p + 1 + q, n, a, st + 1, by go_num, rfl, rfl, by omega, ha0, ha1, by omega, by omega, by omega, hb.alloc (by omega) _, by show _ = R; rw [← HS.out, HN.out]; rfl⟩
   case measure => simp [intOf]; omega
  by_cases c8 : op = 8
  ·subst c8; have HE : Hid (R = (kk, st + 1)) := by show R = _; rw [← HS.out, HN8.out rfl]
   go_wp2_with fail
   go_ret3
   refine ⟨by rw [HE.out]; rfl, ?_⟩; have h2 := (((Below.refl w.heap.size w).alloc (Nat.le_refl _) (.cells #[.int .u32 arch, .int .u32 nr, .int .u64 a0, .int .u64 a1, .int .u64 a2, .int .u64 a3] 52)).trans (hb.mono (by omega)))
   exact h2.alloc (by omega) _
  have e1 : (op == 1) = false := beq_eq_false_iff_ne.2 c1; have e2 : (op == 2) = false := beq_eq_false_iff_ne.2 c2; have e3 : (op == 3) = false := beq_eq_false_iff_ne.2 c3; have e8 : (op == 8) = false := beq_eq_false_iff_ne.2 c8; have hbr : 4 ≤ op ∧ op ≤ 7 := by omega
  obtain ⟨y1, y2⟩ := HFb.out hbr.1 hbr.2; have HN := Lib.hid (HNb.out hbr); obtain ⟨qt, rfl⟩ := Int.eq_ofNat_of_zero_le j1; obtain ⟨qf, rfl⟩ := Int.eq_ofNat_of_zero_le j3; clear c1 c2 c3 c8
  cases hh : holdsF op a kk with
  | true =>
   have HH := Lib.hid hh; clear hh
   go_wp2_with (go_at_call 145; refine (holds_any _ _ _ _).mono ?_; rintro e w' ⟨rfl, rfl⟩; rw [HH.out])
   go_roundw
   case rel => exact ⟨p + 1 + qt, n, a, st + 1, by go_num, rfl, rfl, by omega, ha0, ha1, by omega, by omega, by omega, hb.alloc (by omega) _, by show _ = R; rw [← HS.out, HN.out, if_pos HH.out]; rfl⟩
   case measure => simp [intOf]; omega
  | false =>
   have HH := Lib.hid hh; clear hh
   go_wp2_with (go_at_call 145; refine (holds_any _ _ _ _).mono ?_; rintro e w' ⟨rfl, rfl⟩; rw [HH.out])
   go_roundw
   case rel => exact ⟨p + 1 + qf, n, a, st + 1, by go_num, rfl, rfl, by omega, ha0, ha1, by omega, by omega, by omega, hb.alloc (by omega) _, by show _ = R; rw [← HS.out, HN.out, if_neg (by rw [HH.out]; exact Bool.false_ne_true)]; rfl⟩
   case measure => simp [intOf]; omega
end Go.Proofs.YtmgngapkgcofnabGreatDoor
