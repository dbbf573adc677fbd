/- lets: the closed fact. -/
import Derived.Test.YtmgngapkgcofnabGreatDoorP45
import Derived.Test.YtmgngapkgcofnabGreatDoorP21
import Derived.Test.YtmgngapkgcofnabGreatDoorP16
import Derived.Test.YtmgngapkgcofnabGreatDoorP41
import Derived.Test.YtmgngapkgcofnabGreatDoorP44
import Derived.Test.YtmgngapkgcofnabGreatDoorP40
import Derived.Test.YtmgngapkgcofnabGreatDoorP39
namespace Go.Proofs.YtmgngapkgcofnabGreatDoor
open Go.RowKit Go.PlainAid
theorem ParseA.at {s : ByteArray} {w : World} {e : Ending} {w' : World} (h : ParseA s w e w') : Below w.heap.size w w' ∧ ((8000 < s.size ∧ e = .returned (.tuple #[.agg zero3, .iface 105 (.int .i64 2)])) ∨ (s.size ≤ 8000 ∧ ReadP (bL s) none ∧ e = .returned (.tuple #[.agg zero3, .iface 105 (.int .i64 4)])) ∨
  (s.size ≤ 8000 ∧ ∃ (p : PolD) (A : Option Addr) (c : Nat), ReadP (bL s) (some p) ∧ e = .returned (.tuple #[.agg #[.slice A p.rules.length c, .int .i64 p.kind, .int .i64 p.errno], .nilIface]) ∧ PolAt w' w'.heap.size (.agg #[.slice A p.rules.length c, .int .i64 p.kind, .int .i64 p.errno]) p)) := by
 obtain ⟨h1, h2⟩ := h; refine ⟨h1, h2.imp id (Or.imp id ?_)⟩; rintro ⟨h3, p, A, c, xs, h4, h5, h6, h7⟩; exact ⟨h3, p, A, c, h4, h5, A, c, rfl, rulesSl_own h6 h7.own⟩
end Go.Proofs.YtmgngapkgcofnabGreatDoor
namespace Go.Proofs.YtmgngapkgcofnabGreatDoor
open Go.RowKit Go.PlainAid
theorem polAt_up {w w' : World} {v : Value} {p : PolD} (h : PolAt w w.heap.size v p) (hb : Below w.heap.size w w') : PolAt w' w'.heap.size v p := by
 obtain ⟨A, c, rfl, hr⟩ := h; exact ⟨A, c, rfl, (hr.below hb (Nat.le_refl _)).mono hb.size⟩
structure Shelf0 (w : World) : Prop where
 grd : Grd w
 tab : Lib.TabIs Tryz.prog w "internal/strconv.uint64pow10" .u64 Lib.pow10Tab
theorem Shelf0.up {w w' : World} (h : Shelf0 w) (hb : Below w.heap.size w w') : Shelf0 w' := ⟨h.grd.below hb (Nat.le_refl _), tab_below h.tab _ hb⟩
end Go.Proofs.YtmgngapkgcofnabGreatDoor
namespace Go.Proofs.YtmgngapkgcofnabGreatDoor
open Go.RowKit
theorem textN_len2 {x : NetD} (hx : x.ok) (hf : netF x = 0) : (textN x).length ≤ 50 := by
 have h := parts_small hx hf
 have hd : ∀ k ∈ partsN x, (Lib.decDigits k).length ≤ 5 := fun k hk => by
  rw [Lib.decDigits_length]; exact nDigits_le5 (by have := h k hk; omega)
 have key : ∀ (cs : List UInt8) (ks : List Nat), (∀ k ∈ ks, (Lib.decDigits k).length ≤ 5) → (joinT cs ks).length ≤ 6 * cs.length + 5 := by
  intro cs
  induction cs with
  | nil =>
   intro ks hk; rcases ks with _ | ⟨k, _ | ⟨k2, ks⟩⟩
   ·simp [joinT]
   ·simpa [joinT] using hk k (by simp)
   ·simp [joinT]
  | cons c cs ih =>
   intro ks hk; rcases ks with _ | ⟨k, ks⟩
   ·simp [joinT]
   ·have h1 := hk k (by simp); have h2 := ih ks (fun x hx => hk x (by simp [hx])); rw [joinT]; simp only [List.length_append, List.length_cons]; omega
 have h2 := key sepsN (partsN x) hd; have h3 : sepsN.length = 6 := rfl; unfold textN; omega
theorem ctL_len2 {x : CondD} (h : CondSm x) : (ctL x).length ≤ 120 := by
 obtain ⟨⟨ha, ho, hv, hm, _, _, _, _, hn⟩, hg⟩ := h; have d1 := dec_len20 x.arg.toNat (by omega); have d2 := dec_len20 x.m.toNat (by omega); have d3 := dec_len20 x.v.toNat (by omega); have d4 : (signW x.op.toNat).length ≤ 2 := by unfold signW; split <;> decide
 unfold ctL condW; split
 ·simp only [joinW, List.length_append, List.length_cons, wMask, wEq, List.length_nil]; omega
 ·split
  ·have := hg (by assumption); have e : x.glob.data.toList.length = x.glob.size := by simp
   simp only [joinW, List.length_append, List.length_cons, wLike, quoteW, List.length_nil]; omega
  ·split
   ·obtain ⟨h1, h2⟩ := hn (by assumption); have := textN_len2 h1 h2; simp only [joinW, List.length_append, List.length_cons, wIn, List.length_nil]; omega
   ·simp only [joinW, List.length_append, List.length_cons]; omega
theorem condsT_len2 : ∀ (cs : List CondD) (k : Nat), (∀ x ∈ cs, CondSm x) → (condsT k cs).length ≤ 125 * cs.length
 | [], _, _ => by simp [condsT]
 | x :: r, k, h => by
  have ih := condsT_len2 r (k + 1) (fun y hy => h y (by simp [hy])); have h1 := ctL_len2 (h x (by simp)); rw [condsT]; simp only [List.length_append, List.length_cons]; have : (if k = 0 then [32, 105, 102, 32] else [32, 97, 110, 100, 32] : List UInt8).length ≤ 5 := by split <;> decide
  omega
theorem ruleT_len2 {r : RuleD} (h : RuleSm r) : (ruleT r).length ≤ 540 := by
 have h1 := act_len h.act; have h2 := name_len r.nr.toNat (by have := h.nr; omega); have h3 := condsT_len2 r.conds 0 (fun x hx => (h.con x hx).1); have h4 := h.few; unfold ruleT; simp only [List.length_append, List.length_cons, List.length_nil]; omega
theorem rulesT_len2 : ∀ (rs : List RuleD), (∀ r ∈ rs, RuleSm r) → (rulesT rs).length ≤ 540 * rs.length
 | [], _ => by simp [rulesT]
 | r :: rs, h => by
  have ih := rulesT_len2 rs (fun x hx => h x (by simp [hx])); have := ruleT_len2 (h r (by simp)); rw [rulesT]; simp only [List.length_append, List.length_cons]; omega
theorem polT_len {p : PolD} (hok : PolOk p) (hf : polF p = 0) : (polT p).length ≤ 8000 := by
 obtain ⟨h12, ha, hr⟩ := polF_zero hf; have h1 := elseT_len ha; have h2 := rulesT_len2 p.rules (fun r hm => ruleSm_of (hok r hm) (hr r hm)); rw [polT_text, List.length_append]; omega
theorem parse_text (HN : NumSaid) (p : PolD) (w : World) (hok : PolOk p) (hf : polF p = 0) (hS : Shelf0 w) :
  Calls Tryz.prog 37 #[.string ⟨(polT p).toArray⟩] w fun e w' => ∃ (A : Option Addr) (c : Nat), e = .returned (.tuple #[.agg #[.slice A p.rules.length c, .int .i64 p.kind, .int .i64 p.errno], .nilIface]) ∧ PolAt w' w'.heap.size (.agg #[.slice A p.rules.length c, .int .i64 p.kind, .int .i64 p.errno]) p ∧ Below w.heap.size w w' := by
 have hl := polT_len hok hf; have hsz : (⟨(polT p).toArray⟩ : ByteArray).size = (polT p).length := by simp [ByteArray.size]
 have hb : bL ⟨(polT p).toArray⟩ = polT p := by simp [bL]
 have hR : ReadP (bL ⟨(polT p).toArray⟩) (some p) := ⟨hok, hf, hb⟩
 refine (parse_any_pol HN _ w (by rw [hsz]; omega) hS.grd hS.tab).mono fun e w' h => ?_; obtain ⟨h1, h2⟩ := h.at; rcases h2 with ⟨h3, _⟩ | ⟨_, h3, _⟩ | ⟨_, q, A, c, h3, rfl, h5⟩
 ·rw [hsz] at h3; omega
 ·cases ReadP.same h3 hR
 ·cases ReadP.same h3 hR
  exact ⟨A, c, rfl, h5, h1⟩
end Go.Proofs.YtmgngapkgcofnabGreatDoor
namespace Go.Proofs.YtmgngapkgcofnabGreatDoor
open Go.RowKit Go.PlainAid
theorem prow2w {w : World} {b : Nat} {t : TypeId} {a0 a1 : Value} (h : w.heap[b]? = some (.cells #[a0, a1] t (0, 0))) : w.cell? ⟨b, 0, none⟩ = some a0 ∧ w.cell? ⟨b, 1, none⟩ = some a1 ∧ w.frozen? ⟨b, 0, none⟩ = false ∧ w.frozen? ⟨b, 1, none⟩ = false :=
 ⟨(cell_of_row _ _ _ _ _ _ h).trans rfl, (cell_of_row _ _ _ _ _ _ h).trans rfl, frozen_of_row _ _ _ _ _ h, frozen_of_row _ _ _ _ _ h⟩
theorem box_put2 {W : World} {b : Nat} {t : TypeId} {a0 a1 : Value} (h : W.heap[b]? = some (.cells #[a0, a1] t (0, 0))) (c0 c1 : Value) {B : Nat} {W0 : World} (hb : Below B W0 W) (hB : B ≤ b) :
  ((W.setCell ⟨b, 0, none⟩ c0).setCell ⟨b, 1, none⟩ c1).heap[b]? = some (.cells #[c0, c1] t (0, 0)) ∧ Below B W0 ((W.setCell ⟨b, 0, none⟩ c0).setCell ⟨b, 1, none⟩ c1) := by
 have e1 := heap_setCell_same W b 0 _ _ c0 h; have e2 := heap_setCell_same _ b 1 _ _ c1 e1; exact ⟨e2, (hb.setCell (p := ⟨b, 0, none⟩) hB _).setCell (p := ⟨b, 1, none⟩) hB _⟩
theorem pol_small {p : PolD} (hok : PolOk p) (hf : polF p = 0) : (∀ r ∈ p.rules, ∀ c ∈ r.conds, c.glob.size ≤ 4096) ∧ p.rules.length ≤ 100000 ∧ ∀ r ∈ p.rules, r.conds.length ≤ 100000 := by
 obtain ⟨h1, _, h3⟩ := polF_zero hf; refine ⟨fun r hr c hc => ?_, by omega, fun r hr => by have := (ruleF_zero (h3 r hr)).2.2.1; omega⟩; have hs := ((ruleSm_of (hok r hr) (h3 r hr)).con c hc).1
 by_cases h8 : c.op = 8
 ·have := hs.gl h8; omega
 ·rw [hs.rd.g0 h8]; simp
theorem polOk_of {w : World} {B : Nat} {v : Value} {p : PolD} (h : PolAt w B v p) : PolOk p := fun r hr c hc => h.condsOk r hr c hc
structure InvT (T : ThrS) : Prop where
 at2 : T.phase = 2 → T.arg < 4 ∧ T.buf.length ≤ 40
 at4 : T.phase = 4 → T.seals.length ≤ 50
 ph : 0 ≤ T.phase ∧ T.phase ≤ 6
set_option linter.unusedSimpArgs false in
set_option maxRecDepth 100000 in
set_option maxHeartbeats 8000000 in
theorem wardStep_any (H : Nat) (B : Nat → Prop) (g : Nat) (p : PolD) (S : WardS) (n : Int) (w : World) (h : WardAt w H B g p S) (hf : polF p = 0) (hI : ∀ k, InvT (S.t k)) (hBs : ∀ k, w.heap.size ≤ k → B k) (hfew : S.log.length < 1000000) :
  Calls Tryz.prog 19 #[.pointer (some ⟨g, 0, none⟩), .int .i64 n] w fun e w' => e = .returned (.tuple #[.bool (stepB S n), errV (stepE S n)]) ∧ WardAt w' H B g p (stepS p S n) ∧ Frame B w w' := by
 by_cases h1 : n < 0 ∨ 3 ≤ n
 ·have HE : Hid (stepB S n = false ∧ errV (stepE S n) = .iface 105 (.int .i64 1) ∧ stepS p S n = S) := by
   refine ⟨?_, ?_, if_pos h1⟩
   ·unfold stepB; rw [decide_eq_false (by omega)]; rfl
   ·unfold stepE; rw [if_pos h1]; rfl
  have HH := Lib.hid h; clear h hI
  by_cases h2 : n < 0
  ·clear h1; go_enter Tryz.func19, Tryz.ntmps19
   go_wp2_with fail
   go_ret2
   exact ⟨by rw [HE.out.1, HE.out.2.1]; rfl, by rw [HE.out.2.2]; exact HH.out, Frame.refl _ _⟩
  ·have h3 : 3 ≤ n := by omega
   clear h1; go_enter Tryz.func19, Tryz.ntmps19
   go_wp2_with fail
   go_ret2
   exact ⟨by rw [HE.out.1, HE.out.2.1]; rfl, by rw [HE.out.2.2]; exact HH.out, Frame.refl _ _⟩
 ·obtain ⟨k, rfl⟩ : ∃ k : Nat, n = k := ⟨n.toNat, by omega⟩
  have hk : k < 3 := by omega
  have y1 : ¬ (k : Int) < 0 := by omega
  have y2 : ¬ (3 : Int) ≤ (k : Int) := by omega
  have y3 : (0 : Int) ≤ (k : Int) := by omega
  have y4 : (k : Int) < 3 := by omega
  have HB : Hid (stepB S k = (decide ((S.t k).phase ≠ 0) && decide ((S.t k).phase ≠ 6))) := by
   show _ = _; unfold stepB; rw [decide_eq_true (by omega)]; simp
  have HE : Hid (stepE S k = if (S.t k).phase = 6 then 8 else 0) := by
   show _ = _; unfold stepE; rw [if_neg h1]; simp
  have HS0 : Hid (stepS p S k = stepT p S k) := by
   show _ = _; unfold stepS; rw [if_neg h1]; simp
  have hT : stepT p S k = if (S.t k).phase = 1 then filterS p S k else if (S.t k).phase = 2 then snapS S k else if (S.t k).phase = 3 then judgeS p S k
   else if (S.t k).phase = 4 then sealStep S k else if (S.t k).phase = 5 then execS S k else S := rfl
  have HH := Lib.hid h; obtain ⟨hB, hl, hok, A, c, Ap, cp, m, lv, bv, sv, R⟩ := h; have hgl := R.lt; have c0 := R.thr hk (j := 0) rfl; simp only [Nat.add_zero] at c0; have hin := hI k; have hph := hin.ph; have HF := Lib.hid hf; have HLB := Lib.hid (And.intro hB (And.intro hl (And.intro hBs hfew))); have HIN := Lib.hid hin; have HR := Lib.hid R; obtain ⟨ph, hpe⟩ : ∃ ph, (S.t k).phase = ph := ⟨_, rfl⟩
  rw [hpe] at c0 hph hT HB HE; have HPE := Lib.hid hpe; have HT := Lib.hid hT; clear hI h1 hin hpe hT hf R hB hl hBs hfew hok; have hcase : ph = 0 ∨ ph = 6 ∨ ph = 1 ∨ ph = 2 ∨ ph = 3 ∨ ph = 4 ∨ ph = 5 := by omega
  clear hph; rcases hcase with rfl | rfl | rfl | rfl | rfl | rfl | rfl
  ·have HT2 : Hid (stepT p S k = S) := HT.out; clear HT; go_enter Tryz.func19, Tryz.ntmps19
   go_wp2_with fail
   go_ret2
   exact ⟨by rw [HB.out, HE.out]; rfl, by rw [HS0.out, HT2.out]; exact HH.out, Frame.refl _ _⟩
  ·have HT2 : Hid (stepT p S k = S) := HT.out; clear HT; go_enter Tryz.func19, Tryz.ntmps19
   go_wp2_with fail
   go_ret2
   exact ⟨by rw [HB.out, HE.out]; rfl, by rw [HS0.out, HT2.out]; exact HH.out, Frame.refl _ _⟩
  ·have HC := Lib.hid (wardFilter_any H B g p S k w HH.out HF.out hk HLB.out.2.2.1 HLB.out.2.2.2); have HT2 : Hid (stepT p S k = filterS p S k) := HT.out; clear HT; go_enter Tryz.func19, Tryz.ntmps19
   go_wp2_with (first | (go_at_call 43; refine cargs (by simp [Act.eval]) (HC.out.mono ?_); rintro e w5 ⟨rfl, hx⟩; have HX := Lib.hid hx; clear hx) | fail)
   go_ret2
   exact ⟨by rw [HB.out, HE.out]; rfl, by rw [HS0.out, HT2.out]; exact HX.out.1, HX.out.2⟩
  ·have HC := Lib.hid (wardSnap_any H B g p S k w HH.out hk HLB.out.2.2.1 HLB.out.2.2.2 (HIN.out.at2 HPE.out).1 (HIN.out.at2 HPE.out).2); have HT2 : Hid (stepT p S k = snapS S k) := HT.out; clear HT; go_enter Tryz.func19, Tryz.ntmps19
   go_wp2_with (first | (go_at_call 44; refine cargs (by simp [Act.eval]) (HC.out.mono ?_); rintro e w5 ⟨rfl, hx⟩; have HX := Lib.hid hx; clear hx) | fail)
   go_ret2
   exact ⟨by rw [HB.out, HE.out]; rfl, by rw [HS0.out, HT2.out]; exact HX.out.1, HX.out.2⟩
  ·have hhd := HR.out.head; have hvs := (HH.out.ok.thr k).vals; have hck := (HH.out.ok.thr k).asked
   have hpol : ∀ W, Below w.heap.size w W → PolAt W W.heap.size (.agg #[.slice A p.rules.length c, .int .i64 p.kind, .int .i64 p.errno]) p := fun W hb => by
    have hH : H ≤ w.heap.size := by have := HLB.out.2.1 g HLB.out.1; omega
    obtain ⟨A', c', e1, hr⟩ := HR.out.pol.low (hb.mono hH); exact ⟨A', c', e1, hr.mono (by have := hb.size; omega)⟩
   obtain ⟨g1, g2, g3⟩ := pol_small (polOk_of HR.out.pol) HF.out
   have HDE : Hid (∀ W, Below w.heap.size w W → Calls Tryz.prog 32 #[.agg #[.slice A p.rules.length c, .int .i64 p.kind, .int .i64 p.errno], (S.t k).asked.v, (S.t k).vals.v] W fun e w' => e = .returned (.tuple #[.agg #[.int .i64 (decideF p (S.t k).asked (S.t k).vals).1, .int .i64 (decideF p (S.t k).asked (S.t k).vals).2], .nilIface]) ∧ Below W.heap.size W w') := fun W hb => by
    have := decide_any _ p (S.t k).asked (S.t k).vals W (hpol W hb) g1 g2 g3 hvs; rw [HF.out] at this; exact this
   obtain ⟨⟨d1, d2⟩, hd⟩ : ∃ d, d = decideF p (S.t k).asked (S.t k).vals := ⟨_, rfl⟩
   have hJS : stepT p S k = if d1 = 1 then setPh S k 4 else doesS S k (d1, d2) := by
    have := HT.out; rw [if_neg (by omega), if_neg (by omega), if_pos rfl] at this; rw [this]; unfold judgeS; rw [← hd]
   rw [← hd] at HDE; simp only at HDE; have hcell : ∀ W, Below w.heap.size w W → ∀ i u, w.cell? ⟨g, i, none⟩ = some u → W.cell? ⟨g, i, none⟩ = some u := fun W hb i u hu => (hb.cell (p := ⟨g, i, none⟩) hgl).trans hu; have a1 := HR.out.thr hk (j := 1) rfl; have a2 := HR.out.thr hk (j := 2) rfl; have a3 := HR.out.thr hk (j := 3) rfl; have a4 := HR.out.thr hk (j := 4) rfl
   have a5 := HR.out.thr hk (j := 5) rfl; have a6 := HR.out.thr hk (j := 6) rfl; have a15 := HR.out.thr hk (j := 15) rfl; have a16 := HR.out.thr hk (j := 16) rfl; have a17 := HR.out.thr hk (j := 17) rfl; have a18 := HR.out.thr hk (j := 18) rfl; have a19 := HR.out.thr hk (j := 19) rfl; have a20 := HR.out.thr hk (j := 20) rfl; have a21 := HR.out.thr hk (j := 21) rfl
   have a22 := HR.out.thr hk (j := 22) rfl; have a23 := HR.out.thr hk (j := 23) rfl; have a24 := HR.out.thr hk (j := 24) rfl; have a25 := HR.out.thr hk (j := 25) rfl; have a26 := HR.out.thr hk (j := 26) rfl; obtain ⟨b0, b1, b2, _⟩ := hhd; have HJS := Lib.hid hJS; obtain ⟨ask, hask⟩ : ∃ ask, (S.t k).asked = ask := ⟨_, rfl⟩
   obtain ⟨vls, hvls⟩ : ∃ vls, (S.t k).vals = vls := ⟨_, rfl⟩
   rw [hask, hvls] at HDE; rw [hask] at a1 a2 a3 a4 a5 a6; rw [hvls] at a15 a16 a17 a18 a19 a20 a21 a22 a23 a24 a25 a26; obtain ⟨arch, nr, x0, x1, x2, x3⟩ := ask; obtain ⟨⟨p0, i0, q0⟩, ⟨p1, i1, q1⟩, ⟨p2, i2, q2⟩, ⟨p3, i3, q3⟩⟩ := vls; unfold CallD.v ValsD.v ValsD.cells at HDE; simp only at HDE a1 a2 a3 a4 a5 a6 a15 a16 a17 a18 a19 a20 a21 a22 a23 a24 a25 a26
   clear hask hvls hJS hd hvs hck hpol g1 g2 g3 HT HIN; generalize p.rules.length = rl at *
   generalize hpk : p.kind = pk at *
   generalize hpx : p.errno = pe at *
   clear hpk hpx
   have HS : Hid (∀ W : World, Below w.heap.size w W → W.cell? ⟨g, 0, none⟩ = some (.slice A rl c) ∧ W.cell? ⟨g, 1, none⟩ = some (.int .i64 pk) ∧ W.cell? ⟨g, 2, none⟩ = some (.int .i64 pe) ∧ W.cell? ⟨g, 5 + k * 28 + 1, none⟩ = some (.int .u32 arch) ∧ W.cell? ⟨g, 5 + k * 28 + 2, none⟩ = some (.int .u32 nr) ∧ W.cell? ⟨g, 5 + k * 28 + 3, none⟩ = some (.int .u64 x0) ∧ W.cell? ⟨g, 5 + k * 28 + 4, none⟩ = some (.int .u64 x1) ∧ W.cell? ⟨g, 5 + k * 28 + 5, none⟩ = some (.int .u64 x2) ∧ W.cell? ⟨g, 5 + k * 28 + 6, none⟩ = some (.int .u64 x3) ∧ W.cell? ⟨g, 5 + k * 28 + 15, none⟩ = some (.string p0) ∧ W.cell? ⟨g, 5 + k * 28 + 16, none⟩ = some (.int .u32 i0) ∧ W.cell? ⟨g, 5 + k * 28 + 17, none⟩ = some (.int .i64 q0) ∧ W.cell? ⟨g, 5 + k * 28 + 18, none⟩ = some (.string p1) ∧ W.cell? ⟨g, 5 + k * 28 + 19, none⟩ = some (.int .u32 i1) ∧ W.cell? ⟨g, 5 + k * 28 + 20, none⟩ = some (.int .i64 q1) ∧ W.cell? ⟨g, 5 + k * 28 + 21, none⟩ = some (.string p2) ∧ W.cell? ⟨g, 5 + k * 28 + 22, none⟩ = some (.int .u32 i2) ∧ W.cell? ⟨g, 5 + k * 28 + 23, none⟩ = some (.int .i64 q2) ∧ W.cell? ⟨g, 5 + k * 28 + 24, none⟩ = some (.string p3) ∧ W.cell? ⟨g, 5 + k * 28 + 25, none⟩ = some (.int .u32 i3) ∧ W.cell? ⟨g, 5 + k * 28 + 26, none⟩ = some (.int .i64 q3)) := fun W hb => ⟨hcell W hb _ _ b0, hcell W hb _ _ b1, hcell W hb _ _ b2, hcell W hb _ _ a1, hcell W hb _ _ a2, hcell W hb _ _ a3, hcell W hb _ _ a4, hcell W hb _ _ a5, hcell W hb _ _ a6, hcell W hb _ _ a15, hcell W hb _ _ a16, hcell W hb _ _ a17, hcell W hb _ _ a18, hcell W hb _ _ a19, hcell W hb _ _ a20, hcell W hb _ _ a21, hcell W hb _ _ a22, hcell W hb _ _ a23, hcell W hb _ _ a24, hcell W hb _ _ a25, hcell W hb _ _ a26⟩
   have HDO : Hid (∀ W, Below w.heap.size w W → Calls Tryz.prog 45 #[.pointer (some ⟨g, 0, none⟩), .int .i64 (k : Int), .agg #[.int .i64 d1, .int .i64 d2]] W fun e w' => e = .returned (.bool (decide (d1 = 1))) ∧ Hid (WardAt w' H B g p (doesS S k (d1, d2)) ∧ Frame B w w')) := fun W hb =>
    (wardDoes_any H B g p S k d1 d2 W (HH.out.below hb) hk (fun i hi => HLB.out.2.2.1 i (Nat.le_trans hb.size hi)) HLB.out.2.2.2).mono fun e w' ⟨h1, h2, h3⟩ => ⟨h1, h2, (Frame.of_below hb).trans h3⟩
   have HWR := Lib.hid (Below.refl w.heap.size w); clear hcell b0 b1 b2 a1 a2 a3 a4 a5 a6 a15 a16 a17 a18 a19 a20 a21 a22 a23 a24 a25 a26; go_enter Tryz.func19, Tryz.ntmps19; go_upto_region 14 with fail
   go_cut [6, 7] (fun tv av wx => tv = .pointer (some ⟨g, 5 + k * 28, none⟩) ∧ ∃ bx : Nat, av = .pointer (some ⟨bx, 0, none⟩) ∧ Hid (wx.heap[bx]? = some (.cells #[.int .i64 d1, .int .i64 d2] 24 (0, 0))) ∧ Hid (Below w.heap.size w wx))
   case first =>
    go_region_held3 (fun W : World => W.cell? ⟨g, 0, none⟩ = some (.slice A rl c) ∧ W.cell? ⟨g, 1, none⟩ = some (.int .i64 pk) ∧ W.cell? ⟨g, 2, none⟩ = some (.int .i64 pe) ∧ W.cell? ⟨g, 5 + k * 28 + 1, none⟩ = some (.int .u32 arch) ∧ W.cell? ⟨g, 5 + k * 28 + 2, none⟩ = some (.int .u32 nr) ∧ W.cell? ⟨g, 5 + k * 28 + 3, none⟩ = some (.int .u64 x0) ∧ W.cell? ⟨g, 5 + k * 28 + 4, none⟩ = some (.int .u64 x1) ∧ W.cell? ⟨g, 5 + k * 28 + 5, none⟩ = some (.int .u64 x2) ∧ W.cell? ⟨g, 5 + k * 28 + 6, none⟩ = some (.int .u64 x3) ∧ W.cell? ⟨g, 5 + k * 28 + 15, none⟩ = some (.string p0) ∧ W.cell? ⟨g, 5 + k * 28 + 16, none⟩ = some (.int .u32 i0) ∧ W.cell? ⟨g, 5 + k * 28 + 17, none⟩ = some (.int .i64 q0) ∧ W.cell? ⟨g, 5 + k * 28 + 18, none⟩ = some (.string p1) ∧ W.cell? ⟨g, 5 + k * 28 + 19, none⟩ = some (.int .u32 i1) ∧ W.cell? ⟨g, 5 + k * 28 + 20, none⟩ = some (.int .i64 q1) ∧ W.cell? ⟨g, 5 + k * 28 + 21, none⟩ = some (.string p2) ∧ W.cell? ⟨g, 5 + k * 28 + 22, none⟩ = some (.int .u32 i2) ∧ W.cell? ⟨g, 5 + k * 28 + 23, none⟩ = some (.int .i64 q2) ∧ W.cell? ⟨g, 5 + k * 28 + 24, none⟩ = some (.string p3) ∧ W.cell? ⟨g, 5 + k * 28 + 25, none⟩ = some (.int .u32 i3) ∧ W.cell? ⟨g, 5 + k * 28 + 26, none⟩ = some (.int .i64 q3))
     (first | exact HS.out _ HWR.out | exact HS.out _ HWR.out.drew | exact HS.out _ (HWR.out.alloc HWR.out.size _).drew | exact HS.out _ HB4.out | exact HS.out _ (HB4.out.alloc HB4.out.size _) | exact HS.out _ ((HB4.out.setCell (p := ⟨w.heap.size, 0, none⟩) (by simp) _).setCell (p := ⟨w.heap.size, 1, none⟩) (by simp) _) | fail)
     (first
      | (go_at_call 32; refine cargs (by simp [Act.eval]) ((HDE.out _ HWR.out.drew).mono ?_); rintro e w4 ⟨rfl, hb4⟩; have HB4 : Hid (Below w.heap.size w w4) := HWR.out.drew.trans hb4; clear hb4)
      | (go_at_call 32; refine cargs (by simp [Act.eval]) ((HDE.out _ (HWR.out.alloc HWR.out.size _).drew).mono ?_); rintro e w4 ⟨rfl, hb4⟩; have HB4 : Hid (Below w.heap.size w w4) := (HWR.out.alloc HWR.out.size _).drew.trans (hb4.mono (by rw [alloc_drew_size]; omega)); have HBX4 : Hid (w4.heap[w.heap.size]? = some (.cells #[.int .i64 0, .int .i64 0] 24)) := (hb4.block w.heap.size (by rw [alloc_drew_size]; omega)).trans (heap_alloc_new w _); obtain ⟨s0, s1, f0, f1⟩ := prow2w HBX4.out; clear hb4)
      | fail)
    all_goals
     go_wp2_with fail
     go_meet
     first
      | exact ⟨rfl, w4.heap.size, rfl, heap_alloc_new w4 _, HB4.out.alloc HB4.out.size _⟩
      | exact ⟨rfl, w.heap.size, rfl, (box_put2 HBX4.out (.int .i64 d1) (.int .i64 d2) HB4.out (Nat.le_refl _)).1, (box_put2 HBX4.out (.int .i64 d1) (.int .i64 d2) HB4.out (Nat.le_refl _)).2⟩
   case rest =>
    obtain ⟨rfl, bx, rfl, hbx, HBC⟩ := hcut; obtain ⟨s0, s1, _⟩ := prow2w hbx.out; have HDC := Lib.hid (HDO.out wc HBC.out); have HHC := Lib.hid (HH.out.below HBC.out); clear HDE HS HDO
    by_cases h1 : d1 = 1
    ·subst h1; have e1 := HJS.out; rw [if_pos rfl] at e1; have HT2 := Lib.hid e1; have e2 : doesS S k (1, d2) = S := if_pos rfl; rw [e2] at HDC; have hd1 : decide ((1 : Int) = 1) = true := rfl; rw [hd1] at HDC
     have HA1 : Hid (∀ W, WardAt W H B g p S ∧ Frame B w W → W.cell? ⟨g, 5 + k * 28, none⟩ = some (.int .i64 3) ∧ W.frozen? ⟨g, 5 + k * 28, none⟩ = false ∧ Hid (WardAt (W.setCell ⟨g, 5 + k * 28, none⟩ (.int .i64 4)) H B g p (setPh S k 4) ∧ Frame B w (W.setCell ⟨g, 5 + k * 28, none⟩ (.int .i64 4)))) := fun W hW => by
      have h1 : WardAt W H B g p (S.setT k (S.t k)) := by rw [setM_setT]; exact hW.1
      obtain ⟨q0, _, _, _, qf, _⟩ := h1.reads hk; rw [HPE.out] at q0; exact ⟨q0, qf _, h1.setPhase hk (hW.1.ok.thr k) 4, hW.2.trans (Frame.set W HLB.out.1 _ _)⟩
     clear e1 e2 HJS hd1
     go_wp2_with (first | (go_at_call 45; refine cargs (by simp [Act.eval]) (HDC.out.mono ?_); rintro e w5 ⟨rfl, hx⟩; obtain ⟨q0', z0, HX5⟩ := HA1.out w5 hx.out; clear hx) | fail)
     go_ret2
     exact ⟨by rw [HB.out, HE.out]; rfl, by rw [HS0.out, HT2.out]; exact HX5.out.1, HX5.out.2⟩
    ·have e1 := HJS.out; rw [if_neg h1] at e1; have HT2 := Lib.hid e1; rw [decide_eq_false h1] at HDC; clear e1 HJS
     go_wp2_with (first | (go_at_call 45; refine cargs (by simp [Act.eval]) (HDC.out.mono ?_); rintro e w5 ⟨rfl, hx⟩) | fail)
     go_ret2
     exact ⟨by rw [HB.out, HE.out]; rfl, by rw [HS0.out, HT2.out]; exact hx.out.1, hx.out.2⟩
  ·have HC := Lib.hid (wardSeal_any H B g p S k w HH.out hk HLB.out.2.2.1 HLB.out.2.2.2 (HIN.out.at4 HPE.out)); have HT2 : Hid (stepT p S k = sealStep S k) := HT.out; clear HT; go_enter Tryz.func19, Tryz.ntmps19
   go_wp2_with (first | (go_at_call 46; refine cargs (by simp [Act.eval]) (HC.out.mono ?_); rintro e w5 ⟨rfl, hx⟩; have HX := Lib.hid hx; clear hx) | fail)
   go_ret2
   exact ⟨by rw [HB.out, HE.out]; rfl, by rw [HS0.out, HT2.out]; exact HX.out.1, HX.out.2⟩
  ·have HC := Lib.hid (wardExec_any H B g p S k w HH.out hk HLB.out.2.2.1 HLB.out.2.2.2); have HT2 : Hid (stepT p S k = execS S k) := HT.out; clear HT; go_enter Tryz.func19, Tryz.ntmps19
   go_wp2_with (first | (go_at_call 47; refine cargs (by simp [Act.eval]) (HC.out.mono ?_); rintro e w5 ⟨rfl, hx⟩; have HX := Lib.hid hx; clear hx) | fail)
   go_ret2
   exact ⟨by rw [HB.out, HE.out]; rfl, by rw [HS0.out, HT2.out]; exact HX.out.1, HX.out.2⟩
end Go.Proofs.YtmgngapkgcofnabGreatDoor
