/- The reference's Run. -/
import Derived.Test.YtmgngapkgcofnaaRunW
namespace Go.Proofs.Ytmgngapkgcofnaa
open Go.RowKit

theorem word_rec (c : CallD) (q : Nat) (hq : q < 10) : c.record[q]? = some (c.word (4 * (q : Int))) := by
  have h1 : (4 * (q : Int)) % 4 = 0 ∧ 4 * (q : Int) < 40 := by omega
  have h2 : (4 * (q : Int) / 4).toNat = q := by omega
  unfold CallD.word
  rw [if_pos h1, h2]
  have hl : q < c.record.length := by simpa [CallD.record] using hq
  rw [List.getElem?_eq_getElem hl]
  rfl
theorem rec_cell (c : CallD) (W : World) (q : Nat) (hq : q < 10) : (W.alloc (.cells ((c.record.map (Value.int .u32)).toArray) 129)).cell? ⟨W.heap.size, q, none⟩ = some (.int .u32 (c.word (4 * (q : Int)))) := by
  rw [World.cell?_alloc_new]
  simp [word_rec c q hq]

set_option maxRecDepth 100000 in
set_option maxHeartbeats 4000000 in
theorem refRun_ok (b o cap : Nat) (l : List Ins) (c : CallD) (w : World) (hrow : InsRow w b o l) (hB : b < w.heap.size) (hok : ∀ x ∈ l, x.ok) (hc : c.ok) (hf : checkF l = 0) :
    Calls Try.prog 27 #[.slice (some ⟨b, o, none⟩) l.length cap, c.v] w fun e w' =>
      e = .returned (.tuple #[.int .u32 (runF l c l.length 0 0 0).1, .int .i64 (runF l c l.length 0 0 0).2]) ∧ Below w.heap.size w w' := by
  obtain ⟨hl0, hl1, hsc, hlast⟩ := check_ok hf
  have HFine := Lib.hid (fine_at hok hsc)
  have HO : Hid (∀ x ∈ l, x.ok) := hok
  have HRc := Lib.hid (fun w => record_any c w hc)
  have HWr := Lib.hid (word_range c hc)
  have HL : Hid ((l[l.length - 1]?).map (·.op) = some 8) := hlast
  have HR : Hid (InsRow w b o l) := hrow
  clear hok hrow hlast hf hsc
  obtain ⟨R, HRun⟩ : ∃ R, Hid (runF l c l.length 0 0 0 = R) := ⟨_, rfl⟩
  rw [HRun.out]
  obtain ⟨arch, nr, a0, a1, a2, a3⟩ := c
  clear hc
  unfold CallD.v at *
  simp only [CallD.record, List.map_cons, List.map_nil] at HRc ⊢
  go_enter Try.func27, Try.ntmps27
  go_wp2_with (go_at_call 66; refine (HRc.out _).mono ?_; rintro e w1 ⟨rfl, hb1⟩; have hz := hb1.size; simp only [World.size_alloc] at hz)
  clear HRc
  have hB1 : Below w.heap.size w w1 := below_box (Below.refl _ _) (Nat.le_refl _) hb1
  have hz1 : w.heap.size ≤ w1.heap.size := hB1.size
  go_loopw [7, 8, 9] (fun av pv sv wr => ∃ (p n : Nat) (a st : Int), pv = .int .i64 p ∧ av = .int .u32 a ∧ sv = .int .i64 (st + 1) ∧ p < l.length ∧ 0 ≤ a ∧ a < 4294967296 ∧ 0 ≤ st ∧ st ≤ p ∧ l.length - p ≤ n ∧
      Below (w1.heap.size + 1) (w1.alloc (.cells #[.int .u32 nr, .int .u32 arch, .int .u32 (a0 % 4294967296), .int .u32 (a0 / 4294967296), .int .u32 (a1 % 4294967296), .int .u32 (a1 / 4294967296), .int .u32 (a2 % 4294967296), .int .u32 (a2 / 4294967296), .int .u32 (a3 % 4294967296), .int .u32 (a3 / 4294967296)] 129)) wr ∧
      Hid (runF l ⟨arch, nr, a0, a1, a2, a3⟩ n p a st = R)) (fun _ pv _ _ => l.length - (intOf pv).toNat)
  case atStart => exact ⟨0, l.length, 0, 0, rfl, rfl, rfl, hl0, by omega, by omega, by omega, by omega, by omega, Below.refl _ _, HRun.out⟩
  case round =>
    obtain ⟨p, n, a, st, rfl, rfl, rfl, hp, ha0, ha1, hs0, hs1, hn, hb, HS⟩ := hrel
    obtain ⟨n, rfl⟩ : ∃ m, n = m + 1 := ⟨n - 1, by omega⟩
    have hfine := HFine.out p hp
    have hx := (((HR.out.below (hB1.alloc hz1 _) hB).below (hb.mono (by omega)) (show b < w1.heap.size by omega)) : InsRow wr b o l) p l[p] (by simp)
    have hok' := HO.out l[p] (by simp)
    have HQ : Hid (∀ q : Nat, q < 10 → wr.cell? ⟨w1.heap.size, q, none⟩ = some (.int .u32 ((⟨arch, nr, a0, a1, a2, a3⟩ : CallD).word (4 * (q : Int))))) := fun q hq => (hb.cell (p := ⟨_, _, none⟩) (by simp)).trans (rec_cell ⟨arch, nr, a0, a1, a2, a3⟩ w1 q hq)
    have hbs := hb.size
    have hbs2 : w1.heap.size < wr.heap.size := by simp only [World.size_alloc] at hbs; omega
    clear hbs
    have HN1 := Lib.hid (fun h => runF_1 (l := l) (c := ⟨arch, nr, a0, a1, a2, a3⟩) (n := n) (a := a) (st := st) hp h)
    have HN2 := Lib.hid (fun h => runF_2 (l := l) (c := ⟨arch, nr, a0, a1, a2, a3⟩) (n := n) (a := a) (st := st) hp h)
    have HN3 := Lib.hid (fun h => runF_3 (l := l) (c := ⟨arch, nr, a0, a1, a2, a3⟩) (n := n) (a := a) (st := st) hp h)
    have HN8 := Lib.hid (fun h => runF_8 (l := l) (c := ⟨arch, nr, a0, a1, a2, a3⟩) (n := n) (a := a) (st := st) hp h)
    have HNb := Lib.hid (fun h => runF_b (l := l) (c := ⟨arch, nr, a0, a1, a2, a3⟩) (n := n) (a := a) (st := st) hp h)
    have HEnd : Hid (p + 1 = l.length → l[p].op = 8) := fun e => by
      have := HL.out
      rw [show l.length - 1 = p from by omega, List.getElem?_eq_getElem hp] at this
      simpa using this
    generalize l[p] = x at *
    obtain ⟨op, jt, jf, kk⟩ := x
    obtain ⟨g0, g1, g2, g3⟩ := hx
    obtain ⟨hk1, hk2⟩ := hok'
    obtain ⟨⟨o1, o2⟩, ⟨j1, j2⟩, ⟨j3, j4⟩, fw, fj, fb⟩ := hfine
    simp only at g0 g1 g2 g3 hk1 hk2 o1 o2 j1 j2 j3 j4 fw fj fb HN1 HN2 HN3 HN8 HNb HEnd
    have HFw := Lib.hid fw
    have HFj := Lib.hid fj
    have HFb := Lib.hid fb
    clear fw fj fb
    by_cases c1 : op = 1
    · subst c1
      have HN := Lib.hid (HN1.out rfl)
      have hp2 : p + 1 < l.length := by
        rcases Nat.lt_or_ge (p + 1) l.length with h | h
        · exact h
        · have := HEnd.out (by omega); omega
      obtain ⟨f1, f2⟩ := HFw.out rfl
      obtain ⟨q, rfl⟩ : ∃ q : Nat, kk = 4 * (q : Int) := ⟨(kk / 4).toNat, by omega⟩
      have hq : q < 10 := by omega
      have hcell := HQ.out q hq
      obtain ⟨r0, r1⟩ := HWr.out (4 * (q : Int))
      generalize (⟨arch, nr, a0, a1, a2, a3⟩ : CallD).word (4 * (q : Int)) = z at *
      have hd : 4 * (q : Int) / 4 = (q : Int) := by omega
      go_wp2_with fail
      go_roundw
      case rel => exact ⟨p + 1, n, z, st + 1, by go_num, rfl, by go_num, hp2, r0, r1, by omega, by omega, by omega, hb.alloc (by omega) _, by show _ = R; rw [← HS.out, HN.out]⟩
      case measure => simp [intOf]; omega
    by_cases c2 : op = 2
    · subst c2
      have HN := Lib.hid (HN2.out rfl)
      have hp2 : p + 1 < l.length := by
        rcases Nat.lt_or_ge (p + 1) l.length with h | h
        · exact h
        · have := HEnd.out (by omega); omega
      obtain ⟨r0, r1⟩ := and_range ha0 ha1 hk1 hk2
      go_wp2_with fail
      go_roundw
      case rel => exact ⟨p + 1, n, _, st + 1, by go_num, rfl, by go_num, hp2, r0, r1, by omega, by omega, by omega, hb.alloc (by omega) _, by show _ = R; rw [← HS.out, HN.out]⟩
      case measure => simp [intOf]; omega
    by_cases c3 : op = 3
    · subst c3
      have HN := Lib.hid (HN3.out rfl)
      have hj := HFj.out rfl
      obtain ⟨q, rfl⟩ := Int.eq_ofNat_of_zero_le hk1
      go_wp2_with fail
      go_roundw
      case rel => exact ⟨p + 1 + q, n, a, st + 1, by go_num, rfl, by go_num, by omega, ha0, ha1, by omega, by omega, by omega, hb.alloc (by omega) _, by show _ = R; rw [← HS.out, HN.out]; rfl⟩
      case measure => simp [intOf]; omega
    by_cases c8 : op = 8
    · subst c8
      have HE : Hid (R = (kk, st + 1)) := by show R = _; rw [← HS.out, HN8.out rfl]
      go_wp2_with fail
      go_ret2
      refine ⟨by rw [HE.out]; rfl, ?_⟩
      exact ((hB1.alloc hz1 _).trans (hb.mono (by omega))).alloc (by omega) _
    have e1 : (op == 1) = false := beq_eq_false_iff_ne.2 c1
    have e2 : (op == 2) = false := beq_eq_false_iff_ne.2 c2
    have e3 : (op == 3) = false := beq_eq_false_iff_ne.2 c3
    have e8 : (op == 8) = false := beq_eq_false_iff_ne.2 c8
    have hbr : 4 ≤ op ∧ op ≤ 7 := by omega
    obtain ⟨y1, y2⟩ := HFb.out hbr.1 hbr.2
    have HN := Lib.hid (HNb.out hbr)
    obtain ⟨qt, rfl⟩ := Int.eq_ofNat_of_zero_le j1
    obtain ⟨qf, rfl⟩ := Int.eq_ofNat_of_zero_le j3
    clear c1 c2 c3 c8
    have HT : Hid (∀ b1 : Bool, holdsF op a kk = b1 → runF l ⟨arch, nr, a0, a1, a2, a3⟩ n (if b1 then p + 1 + qt else p + 1 + qf) a (st + 1) = R) := by
      intro b1 h1
      rw [← HS.out, HN.out, h1]
      cases b1 <;> rfl
    have hops : op = 4 ∨ op = 5 ∨ op = 6 ∨ op = 7 := by omega
    clear HS HN HN1 HN2 HN3 HN8 HNb HEnd HFw HFj HFb HQ o1 o2 hbr e1 e2 e3 e8
    rcases hops with rfl | rfl | rfl | rfl
    · cases ht : a == kk with
      | true =>
        have HS2 : Hid (runF l ⟨arch, nr, a0, a1, a2, a3⟩ n (p + 1 + qt) a (st + 1) = R) := HT.out true ht
        clear HT
        go_wp2_with fail
        go_roundw
        case rel => exact ⟨p + 1 + qt, n, a, st + 1, by go_num, rfl, by go_num, by omega, ha0, ha1, by omega, by omega, by omega, hb.alloc (by omega) _, HS2⟩
        case measure => simp [intOf]; omega
      | false =>
        have HS2 : Hid (runF l ⟨arch, nr, a0, a1, a2, a3⟩ n (p + 1 + qf) a (st + 1) = R) := HT.out false ht
        clear HT
        go_wp2_with fail
        go_roundw
        case rel => exact ⟨p + 1 + qf, n, a, st + 1, by go_num, rfl, by go_num, by omega, ha0, ha1, by omega, by omega, by omega, hb.alloc (by omega) _, HS2⟩
        case measure => simp [intOf]; omega
    · by_cases ht : kk < a
      · have HS2 : Hid (runF l ⟨arch, nr, a0, a1, a2, a3⟩ n (p + 1 + qt) a (st + 1) = R) := HT.out true (decide_eq_true ht)
        clear HT
        go_wp2_with fail
        go_roundw
        case rel => exact ⟨p + 1 + qt, n, a, st + 1, by go_num, rfl, by go_num, by omega, ha0, ha1, by omega, by omega, by omega, hb.alloc (by omega) _, HS2⟩
        case measure => simp [intOf]; omega
      · have HS2 : Hid (runF l ⟨arch, nr, a0, a1, a2, a3⟩ n (p + 1 + qf) a (st + 1) = R) := HT.out false (decide_eq_false ht)
        clear HT
        go_wp2_with fail
        go_roundw
        case rel => exact ⟨p + 1 + qf, n, a, st + 1, by go_num, rfl, by go_num, by omega, ha0, ha1, by omega, by omega, by omega, hb.alloc (by omega) _, HS2⟩
        case measure => simp [intOf]; omega
    · by_cases ht : kk ≤ a
      · have HS2 : Hid (runF l ⟨arch, nr, a0, a1, a2, a3⟩ n (p + 1 + qt) a (st + 1) = R) := HT.out true (decide_eq_true ht)
        clear HT
        go_wp2_with fail
        go_roundw
        case rel => exact ⟨p + 1 + qt, n, a, st + 1, by go_num, rfl, by go_num, by omega, ha0, ha1, by omega, by omega, by omega, hb.alloc (by omega) _, HS2⟩
        case measure => simp [intOf]; omega
      · have HS2 : Hid (runF l ⟨arch, nr, a0, a1, a2, a3⟩ n (p + 1 + qf) a (st + 1) = R) := HT.out false (decide_eq_false ht)
        clear HT
        go_wp2_with fail
        go_roundw
        case rel => exact ⟨p + 1 + qf, n, a, st + 1, by go_num, rfl, by go_num, by omega, ha0, ha1, by omega, by omega, by omega, hb.alloc (by omega) _, HS2⟩
        case measure => simp [intOf]; omega
    · obtain ⟨z0, z1⟩ := and_range ha0 ha1 hk1 hk2
      have HT2 : Hid (∀ b1 : Bool, (bits .and .u32 a kk != 0) = b1 → runF l ⟨arch, nr, a0, a1, a2, a3⟩ n (if b1 then p + 1 + qt else p + 1 + qf) a (st + 1) = R) := fun b1 h => HT.out b1 h
      clear HT
      by_cases ht : 0 < bits .and .u32 a kk
      · have HS2 : Hid (runF l ⟨arch, nr, a0, a1, a2, a3⟩ n (p + 1 + qt) a (st + 1) = R) := HT2.out true (bne_iff_ne.2 (by omega))
        clear HT2
        go_wp2_with fail
        go_roundw
        case rel => exact ⟨p + 1 + qt, n, a, st + 1, by go_num, rfl, by go_num, by omega, ha0, ha1, by omega, by omega, by omega, hb.alloc (by omega) _, HS2⟩
        case measure => simp [intOf]; omega
      · have HS2 : Hid (runF l ⟨arch, nr, a0, a1, a2, a3⟩ n (p + 1 + qf) a (st + 1) = R) := HT2.out false (by rw [show bits .and .u32 a kk = 0 from by omega]; rfl)
        clear HT2
        go_wp2_with fail
        go_roundw
        case rel => exact ⟨p + 1 + qf, n, a, st + 1, by go_num, rfl, by go_num, by omega, ha0, ha1, by omega, by omega, by omega, hb.alloc (by omega) _, HS2⟩
        case measure => simp [intOf]; omega

end Go.Proofs.Ytmgngapkgcofnaa
