/- What a policy's program gives of a call. -/
import Derived.Test.YtmgngapkgcofnabGreatDoorP19
import Derived.Test.YtmgngapkgcofnabGreatDoorP21
import Derived.Test.YtmgngapkgcofnabGreatDoorP18
import Derived.Test.YtmgngapkgcofnabGreatDoorP17
namespace Go.Proofs.YtmgngapkgcofnabGreatDoor
open Go.RowKit Go.PlainAid
theorem PolAt.condsOk {w : World} {B : Nat} {v : Value} {p : PolD} (h : PolAt w B v p) : ∀ r ∈ p.rules, ∀ c ∈ r.conds, c.ok := fun r hr c hc => by
 obtain ⟨A, cp, _, A1, c1, _, h2⟩ := h; rcases h2 with h2 | ⟨b, o, _, _, h3⟩
 ·rw [h2] at hr; cases hr
 ·obtain ⟨i, hi⟩ := List.getElem?_of_mem hr; obtain ⟨_, _, h4, _⟩ := h3 i r hi; exact h4.1 c hc
theorem rightP_of {w : World} {B : Nat} {v : Value} {p : PolD} (h : PolAt w B v p) (hf : polF p = 0) : RightP p := by
 obtain ⟨h1, h2, h3⟩ := polF_zero hf; refine ⟨h1, h2, fun r hr => ?_, fun r hr x hx => ?_⟩
 ·obtain ⟨k1, k2, k3, _, k5⟩ := ruleF_zero (h3 r hr); exact ⟨k1, k2, k3, k5⟩
 ·obtain ⟨_, _, _, k4, _⟩ := ruleF_zero (h3 r hr); obtain ⟨a1, a2, a3, _⟩ := k4 x hx; obtain ⟨_, _, v1, m1, _⟩ := h.condsOk r hr x hx; exact ⟨a1, a2, a3, v1.1, v1.2, m1.1, m1.2⟩
theorem comp_right {p : PolD} (hp : RightP p) : (∀ c : CallD, c.ok → ((runF (progL p) c (progL p).length 0 0 0).1 = resF p c ∧ (runF (progL p) c (progL p).length 0 0 0).2 ≤ ((progL p).length : Int))) := fun c hc => by
 obtain ⟨h1, h2, h3⟩ := prog_right hp; refine ⟨prog_run p c hc hp.con, ?_⟩; obtain ⟨k0, k1, k2, k3⟩ := check_ok h2; have := (run_law c h1 k2 k3 (progL p).length 0 0 0 k0 (by omega)).2.1
 simpa using this
end Go.Proofs.YtmgngapkgcofnabGreatDoor
namespace Go.Proofs.YtmgngapkgcofnabGreatDoor
open Go.RowKit Go.PlainAid
def CompR (p : PolD) (w : World) (e : Ending) (w' : World) : Prop := Below w.heap.size w w' ∧ (if polF p = 0 then ∃ u B, e = .returned (.tuple #[u, .nilIface]) ∧ w.heap.size ≤ B ∧ w'.ownsRow B 230 4 u (progL p).length (flat (progL p)) else e = .returned (.tuple #[.slice none 0 0, errV (polF p)]))
theorem maker_new (w : World) : MakerAt (w.alloc (.cells #[.slice none 0 0, .slice none 0 0] 168)) w.heap.size [] [] :=
 ⟨_, _, heap_alloc_new _ _, ⟨rfl, Or.inl ⟨rfl, rfl⟩⟩, ⟨rfl, Or.inl ⟨rfl, rfl⟩⟩⟩
set_option linter.unusedSimpArgs false in
set_option maxRecDepth 100000 in
set_option maxHeartbeats 8000000 in
theorem compile_any (v : Value) (p : PolD) (w : World) (h : PolAt w w.heap.size v p) (hg : ∀ r ∈ p.rules, ∀ c ∈ r.conds, c.glob.size ≤ 100000) (hl : p.rules.length ≤ 100000) (hcl : ∀ r ∈ p.rules, r.conds.length ≤ 100000) :
  Calls Tryz.prog 35 #[v] w (CompR p w) := by
 obtain ⟨A, cp, rfl, hr⟩ := h
 have hck : Calls Tryz.prog 72 #[.agg #[.slice A p.rules.length cp, .int .i64 p.kind, .int .i64 p.errno]] (w.alloc (.cells #[.slice A p.rules.length cp, .int .i64 p.kind, .int .i64 p.errno] 26)) fun e w' => e = .returned (errV (polF p)) ∧ Below (w.alloc (.cells #[.slice A p.rules.length cp, .int .i64 p.kind, .int .i64 p.errno] 26)).heap.size (w.alloc (.cells #[.slice A p.rules.length cp, .int .i64 p.kind, .int .i64 p.errno] 26)) w' :=
  polCheck_any _ p _ ⟨A, cp, rfl, (hr.below ((Below.refl _ _).alloc (Nat.le_refl _) _) (Nat.le_refl _)).mono (by simp)⟩ hg hl hcl
 by_cases hp : polF p = 0
 ·have HR0 : Hid (∀ e w', (∃ u B, e = .returned (.tuple #[u, .nilIface]) ∧ w.heap.size ≤ B ∧ w'.ownsRow B 230 4 u (progL p).length (flat (progL p))) → Below w.heap.size w w' → CompR p w e w') := fun e w' h1 h2 => ⟨h2, by rw [if_pos hp]; exact h1⟩
  obtain ⟨hn12, hea, hrz⟩ := polF_zero hp; rw [hp] at hck
  have HCK : Hid (Calls Tryz.prog 72 #[.agg #[.slice A p.rules.length cp, .int .i64 p.kind, .int .i64 p.errno]] (w.alloc (.cells #[.slice A p.rules.length cp, .int .i64 p.kind, .int .i64 p.errno] 26)) fun e w' => e = .returned .nilIface ∧ Below (w.alloc (.cells #[.slice A p.rules.length cp, .int .i64 p.kind, .int .i64 p.errno] 26)).heap.size (w.alloc (.cells #[.slice A p.rules.length cp, .int .i64 p.kind, .int .i64 p.errno] 26)) w') := hck
  obtain ⟨rules, pk, pe⟩ := p; simp only at hr hn12 hrz hea HCK HR0; have hw0 : w.heap.size < (w.alloc (.cells #[.slice A rules.length cp, .int .i64 pk, .int .i64 pe] 26)).heap.size := by simp
  have HP3 : Hid ((w.alloc (.cells #[.slice A rules.length cp, .int .i64 pk, .int .i64 pe] 26)).heap[w.heap.size]? = some (.cells #[.slice A rules.length cp, .int .i64 pk, .int .i64 pe] 26 (0, 0))) := heap_alloc_new _ _; have HAB : Hid (Below w.heap.size w (w.alloc (.cells #[.slice A rules.length cp, .int .i64 pk, .int .i64 pe] 26))) := (Below.refl _ _).alloc (Nat.le_refl _) _; have HR := Lib.hid hr
  have HRZ := Lib.hid hrz; have HEA := Lib.hid (actF_zero hea); have hc4 : ∀ r ∈ rules, r.conds.length ≤ 4 := fun r hr => (ruleF_zero (hrz r hr)).2.2.1; have HLEN : Hid (∀ k, (rulesL rules k).length ≤ 3 + 40 * k) := rulesL_len rules hc4; clear hck hr hp hg hl hcl hea hrz hc4; go_enter Tryz.func35, Tryz.ntmps35
  go_upto_region 5 with (go_at_call 72; refine cargs (by simp [Act.eval]) (HCK.out.mono ?_); rintro e w1 ⟨rfl, hb1⟩)
  have hs1 := hb1.size; have HW1 : Hid (w1.heap[w.heap.size]? = some (.cells #[.slice A rules.length cp, .int .i64 pk, .int .i64 pe] 26 (0, 0))) := (hb1.block _ hw0).trans HP3.out; have HX : Hid (XAt w1 (w1.alloc (.cells #[.slice none 0 0, .slice none 0 0] 168)) w1.heap.size [] []) := ⟨maker_new w1, Bel.of_below ((Below.refl _ _).alloc (Nat.le_refl _) _) (Nat.le_refl _)⟩
  have HB01 : Hid (Below w.heap.size w w1) := HAB.out.trans (hb1.mono (by omega)); have hmw : w.heap.size < w1.heap.size := by omega
  clear hb1 hs1; obtain ⟨m, hm⟩ : ∃ m, m = w1.heap.size := ⟨_, rfl⟩
  rw [← hm] at HX hmw ⊢; have HM := Lib.hid hm; clear hm
  have HADD : Hid (∀ W0 W l o (a b c k : Int), XAt W0 W m l o → l.length ≤ 99990 → Calls Tryz.prog 75 #[.pointer (some ⟨m, 0, none⟩), .int .i64 a, .int .i64 b, .int .i64 c, .int .u32 k] W fun e w' => e = .returned (.tuple #[]) ∧ XAt W0 w' m (l ++ [Ins.mk a b c k]) o) := fun W0 W l o a b c k hx hl =>
   (add_any m l o a b c k W hx.mak (by omega)).mono fun e w' ⟨h1, h2, h3⟩ => ⟨h1, h2, hx.bel.trans h3⟩
  have HNEED : Hid (∀ W0 W l o (a k : Int), XAt W0 W m l o → l.length ≤ 99990 → o.length ≤ 99990 → Calls Tryz.prog 77 #[.pointer (some ⟨m, 0, none⟩), .int .i64 a, .int .u32 k] W fun e w' => e = .returned (.tuple #[]) ∧ XAt W0 w' m (l ++ [Ins.mk a 1 0 k, jmpI]) (o ++ [((l.length + 1 : Nat) : Int)])) := fun W0 W l o a k hx hl ho =>
   (need_any m l o a k W hx.mak (by omega) (by omega)).mono fun e w' ⟨h1, h2, h3⟩ => ⟨h1, h2, hx.bel.trans h3⟩
  have HRET : Hid (∀ W0 W l o (k e : Int), XAt W0 W m l o → l.length ≤ 99990 → (k = 2 → 0 ≤ e ∧ e < 65536) → Calls Tryz.prog 76 #[.pointer (some ⟨m, 0, none⟩), .agg #[.int .i64 k, .int .i64 e]] W fun e' w' => e' = .returned (.tuple #[]) ∧ XAt W0 w' m (l ++ [Ins.mk 8 0 0 (retK k e)]) o) := fun W0 W l o k e hx hl he =>
   (ret_any m l o k e W hx.mak (by omega) he).mono fun e w' ⟨h1, h2, h3⟩ => ⟨h1, h2, hx.bel.trans h3⟩
  have HHERE : Hid (∀ W0 W l o, XAt W0 W m l o → l.length ≤ 99990 → o.length ≤ 99990 → (∀ a ∈ o, 0 ≤ a ∧ a < l.length) → Calls Tryz.prog 79 #[.pointer (some ⟨m, 0, none⟩)] W fun e w' => e = .returned (.tuple #[]) ∧ XAt W0 w' m (hereN l o o.length) []) := fun W0 W l o hx hl ho ha =>
   (here_any m l o W hx.mak (by omega) (by omega) ha).mono fun e w' ⟨h1, h2, h3⟩ => ⟨h1, h2, hx.bel.trans h3⟩
  have HPOL : Hid (∀ W l o, XAt w1 W m l o → W.cell? ⟨w.heap.size, 0, none⟩ = some (.slice A rules.length cp) ∧ W.cell? ⟨w.heap.size, 1, none⟩ = some (.int .i64 pk) ∧ W.cell? ⟨w.heap.size, 2, none⟩ = some (.int .i64 pe)) := fun W l o hx => by
   have hb := (hx.bel.below.block w.heap.size hmw).trans HW1.out; refine ⟨?_, ?_, ?_⟩ <;> (rw [cell_of_row W _ _ _ _ _ hb]; rfl)
  generalize w1.alloc (.cells #[.slice none 0 0, .slice none 0 0] 168) = Wm at *
  go_upto_region 6 with (go_at_call 75; refine cargs (by simp [Act.eval]) ((HADD.out w1 _ _ _ 1 0 0 4 HX.out (by simp)).mono ?_); rintro e w2 ⟨rfl, hx2⟩)
  go_upto_region 7 with (go_at_call 75; refine cargs (by simp [Act.eval]) ((HADD.out w1 _ _ _ 4 1 0 3221225534 hx2 (by simp)).mono ?_); rintro e w3 ⟨rfl, hx3⟩)
  go_upto_region 8 with (go_at_call 76; refine cargs (by simp [Act.eval]) ((HRET.out w1 _ _ _ 3 0 hx3 (by simp) (by omega)).mono ?_); rintro e w4 ⟨rfl, hx4⟩)
  have HX4 : Hid (XAt w1 w4 m (rulesL rules 0) []) := hx4; obtain ⟨p0, p1, p2⟩ := HPOL.out _ _ _ hx4; clear hx2 hx3 hx4
  go_wp2_with fail
  go_loopw [28] (fun iv wr => ∃ i : Nat, i ≤ rules.length ∧ iv = .int .i64 i ∧ Hid (XAt w1 wr m (rulesL rules i) [])) (fun iv _ => rules.length - (intOf iv).toNat)
  case atStart => exact ⟨0, Nat.zero_le _, rfl, HX4⟩
  case round =>
   obtain ⟨i, hi, rfl, hXi⟩ := hrel; have HBW : Hid (Below w.heap.size w wr) := HB01.out.trans (hXi.out.bel.below.mono (by omega)); have hli := HLEN.out i
   by_cases hlt : i < rules.length
   ·have x2 : (i : Int) < (rules.length : Int) := by omega
    have x3 : (0 : Int) ≤ (i : Int) := by omega
    have hri : rules[i]? = some rules[i] := by simp
    have HRL : Hid (rulesL rules (i + 1) = ruleL (rulesL rules i) i rules[i]) := by show _ = _; rw [rulesL, hri]
    obtain ⟨hA, cA, hAc, hrw0⟩ := HR.out; obtain ⟨rfl, rfl⟩ : A = hA ∧ cp = cA := by simpa using hAc
    obtain ⟨b, o, rfl, hb, hrow⟩ := hrw0.resolve_left (by intro e; rw [e] at hlt; simp at hlt); obtain ⟨A', c', hcs, hrg⟩ := hrow i _ hri; have hrg2 := rangeAt_below hrg HBW.out hb; obtain ⟨v0, v1, v2, v3, v4⟩ := ruleF_zero (HRZ.out rules[i] (by simp)); have HS := ruleS_ok (rulesL rules i) rules[i]; clear hrg hrow hri hAc hrw0; generalize rules[i] = R at *
    obtain ⟨nr, conds, rk, re⟩ := R; simp only at hrg2 hcs v0 v1 v2 v3 v4 HS; obtain ⟨n, rfl⟩ : ∃ n : Nat, nr = n := ⟨nr.toNat, by omega⟩
    have HSL := Lib.hid HS; have HV3 := Lib.hid v3; have HAE := Lib.hid (actF_zero v4); have f0 : wr.cell? ⟨b, o + i * 4, none⟩ = some (.int .i64 (n : Int)) := hrg2 0 _ rfl; have f1 := hrg2 1 _ rfl; have f2 := hrg2 2 _ rfl; have f3 := hrg2 3 _ rfl; have HCS := Lib.hid hcs; have hX2 := hXi.out.alloc (.cells #[.int .i64 (n : Int), .slice A' conds.length c', .int .i64 rk, .int .i64 re] 41)
    have HX2 : Hid (XAt w1 (wr.alloc (.cells #[.int .i64 (n : Int), .slice A' conds.length c', .int .i64 rk, .int .i64 re] 41)) m (rulesL rules i) []) := hX2
    have HX2S : Hid (XAt (wr.alloc (.cells #[.int .i64 (n : Int), .slice A' conds.length c', .int .i64 rk, .int .i64 re] 41)) (wr.alloc (.cells #[.int .i64 (n : Int), .slice A' conds.length c', .int .i64 rk, .int .i64 re] 41)) m (rulesL rules i) []) := ⟨hX2.mak, Bel.refl _ _⟩
    have HRC : Hid (∀ W l o, XAt (wr.alloc (.cells #[.int .i64 (n : Int), .slice A' conds.length c', .int .i64 rk, .int .i64 re] 41)) W m l o → W.cell? ⟨wr.heap.size, 0, none⟩ = some (.int .i64 (n : Int)) ∧ W.cell? ⟨wr.heap.size, 1, none⟩ = some (.slice A' conds.length c') ∧ W.cell? ⟨wr.heap.size, 2, none⟩ = some (.int .i64 rk) ∧ W.cell? ⟨wr.heap.size, 3, none⟩ = some (.int .i64 re)) := fun W l o hx => by
     have hb := hx.bel.kept wr.heap.size _ _ _ (heap_alloc_new wr (.cells #[.int .i64 (n : Int), .slice A' conds.length c', .int .i64 rk, .int .i64 re] 41)) (by decide) (by decide) (by decide); refine ⟨?_, ?_, ?_, ?_⟩ <;> (rw [cell_of_row W _ _ _ _ _ hb]; rfl)
    have HBW2 : Hid (Below w.heap.size w (wr.alloc (.cells #[.int .i64 (n : Int), .slice A' conds.length c', .int .i64 rk, .int .i64 re] 41))) := HBW.out.alloc HBW.out.size _; clear hrg2 hcs hX2 HS v0 v3 v4; have y1 : (n : Int) < 9 := by omega
    have y2 : (0 : Int) ≤ (n : Int) := by omega
    go_upto_region 11 with fail; generalize wr.alloc (.cells #[.int .i64 (n : Int), .slice A' conds.length c', .int .i64 rk, .int .i64 re] 41) = W2 at *
    obtain ⟨q0, q1, q2, q3⟩ := HRC.out _ _ _ HX2S.out; clear f0 f1 f2 f3
    go_upto_region 12 with (go_at_call 75; refine cargs (by simp [Act.eval]) ((HADD.out W2 _ _ _ 1 0 0 0 HX2S.out (by omega)).mono ?_); rintro e w5 ⟨rfl, hx5⟩; obtain ⟨q0, q1, q2, q3⟩ := HRC.out _ _ _ hx5)
    go_upto_region 13 with (go_at_call 77; refine cargs (by simp [Act.eval]) ((HNEED.out W2 _ _ _ 4 (n : Int) hx5 (by simp; omega) (by simp)).mono ?_); rintro e w6 ⟨rfl, hx6⟩; obtain ⟨q0, q1, q2, q3⟩ := HRC.out _ _ _ hx6)
    have HX6 : Hid (XAt W2 w6 m (condsL (rulesL rules i ++ [Ins.mk 1 0 0 0, Ins.mk 4 1 0 n, jmpI], [(((rulesL rules i).length + 2 : Nat) : Int)]) conds 0).1 (condsL (rulesL rules i ++ [Ins.mk 1 0 0 0, Ins.mk 4 1 0 n, jmpI], [(((rulesL rules i).length + 2 : Nat) : Int)]) conds 0).2) := by
     simp only [condsL]; have := hx6; simp only [List.append_assoc, List.cons_append, List.nil_append, List.length_append, List.length_cons, List.length_nil] at this; exact this
    clear hx5 hx6; obtain ⟨S0, hS0⟩ : ∃ S0, S0 = (rulesL rules i ++ [Ins.mk 1 0 0 0, Ins.mk 4 1 0 (n : Int), jmpI], [(((rulesL rules i).length + 2 : Nat) : Int)]) := ⟨_, rfl⟩
    rw [← hS0] at HX6; have HRS : Hid (ruleS (rulesL rules i) ⟨(n : Int), conds, rk, re⟩ = condsL S0 conds conds.length) := by show _ = _; unfold ruleS; rw [hS0]
    have HCO : Hid (∀ k, (condsL S0 conds k).1.length ≤ (rulesL rules i).length + 3 + 8 * k ∧ (condsL S0 conds k).2.length ≤ 1 + 2 * k ∧ (rulesL rules i).length + 3 ≤ (condsL S0 conds k).1.length ∧ ∀ a ∈ (condsL S0 conds k).2, 0 ≤ a ∧ a < (condsL S0 conds k).1.length) := fun k => by
     have := condsL_ok S0 conds (by rw [hS0]; intro a ha; simp at ha; subst ha; simp; omega) k; rw [show S0.1.length = (rulesL rules i).length + 3 from by rw [hS0]; simp, show S0.2.length = 1 from by rw [hS0]; rfl] at this; exact this
    clear hS0
    go_wp2_with fail
    go_loopw [8, 43] (fun mv kv wr => ∃ k : Nat, k ≤ conds.length ∧ kv = .int .i64 k ∧ mv = .bool (deepN conds k) ∧ Hid (XAt W2 wr m (condsL S0 conds k).1 (condsL S0 conds k).2)) (fun _ kv _ => conds.length - (intOf kv).toNat)
    case atStart => exact ⟨0, Nat.zero_le _, rfl, rfl, HX6⟩
    case round =>
     obtain ⟨k, hk, rfl, rfl, hXk⟩ := hrel; have HBK : Hid (Below w.heap.size w wr) := HBW2.out.trans (hXk.out.bel.below.mono (by omega)); obtain ⟨q0, q1, q2, q3⟩ := HRC.out _ _ _ hXk.out; obtain ⟨t1, t2, t3, t4⟩ := HCO.out k; have HT4 := Lib.hid t4; clear t4
     by_cases hkl : k < conds.length
     ·have y3 : (k : Int) < (conds.length : Int) := by omega
      have y4 : (0 : Int) ≤ (k : Int) := by omega
      have hlk : conds[k]? = some conds[k] := by simp
      obtain ⟨hcok, A2, c2, hA2, hrw⟩ := HCS.out; obtain ⟨rfl, rfl⟩ : A' = A2 ∧ c' = c2 := by simpa using hA2
      obtain ⟨b2, o2, rfl, hb2, hrow2⟩ := hrw.resolve_left (by intro e; rw [e] at hkl; simp at hkl); have hr9 := rangeAt_below (hrow2 k _ hlk) HBK.out hb2; obtain ⟨_, _, ⟨cv0, cv1⟩, ⟨cm0, cm1⟩, _, _⟩ := hcok conds[k] (by simp); obtain ⟨g0, g1, g2, g3⟩ := HV3.out conds[k] (by simp); have HD1 : Hid (deepN conds (k + 1) = (deepN conds k || decide (7 < conds[k].op))) := by show _ = _; rw [deepN, hlk]
      have HC1 : Hid (condsL S0 conds (k + 1) = if 7 < conds[k].op then condsL S0 conds k else ((condsL S0 conds k).1 ++ condL conds[k].op conds[k].arg.toNat conds[k].v.toNat conds[k].m.toNat, (condsL S0 conds k).2 ++ (condO conds[k].op).map fun i => (((condsL S0 conds k).1.length + i : Nat) : Int))) := by show _ = _; rw [condsL, hlk]
      clear hcok hA2 hrw hrow2 hlk; generalize conds[k] = CC at *
      obtain ⟨arg, op, v, mm, glob, ⟨ip, bits, lo, hi⟩⟩ := CC; simp only at cv0 cv1 cm0 cm1 g0 g1 g2 g3 HD1 HC1; obtain ⟨a, rfl⟩ : ∃ a : Nat, arg = a := ⟨arg.toNat, by omega⟩
      obtain ⟨v, rfl⟩ : ∃ x : Nat, v = x := ⟨v.toNat, by omega⟩
      obtain ⟨mm, rfl⟩ : ∃ x : Nat, mm = x := ⟨mm.toNat, by omega⟩
      have e0 : wr.cell? ⟨b2, o2 + k * 9, none⟩ = some (.int .i64 (a : Int)) := hr9 0 _ rfl; have e1 := hr9 1 _ rfl; have e2 := hr9 2 _ rfl; have e3 := hr9 3 _ rfl; have e4 := hr9 4 _ rfl; have e5 := hr9 5 _ rfl; have e6 := hr9 6 _ rfl; have e7 := hr9 7 _ rfl; have e8 := hr9 8 _ rfl; simp only at e1 e2 e3 e4 e5 e6 e7 e8
      have HC9 := Lib.hid (cell9 wr (.int .i64 (a : Int)) (.int .i64 op) (.int .u64 (v : Int)) (.int .u64 (mm : Int)) (.string glob) (.int .u32 ip) (.int .i64 bits) (.int .i64 lo) (.int .i64 hi) 47); have HX3 := Lib.hid (hXk.out.alloc (.cells #[.int .i64 (a : Int), .int .i64 op, .int .u64 (v : Int), .int .u64 (mm : Int), .string glob, .int .u32 ip, .int .i64 bits, .int .i64 lo, .int .i64 hi] 47))
      clear hr9 hXk; go_upto_region 17 with fail; generalize wr.alloc (.cells #[.int .i64 (a : Int), .int .i64 op, .int .u64 (v : Int), .int .u64 (mm : Int), .string glob, .int .u32 ip, .int .i64 bits, .int .i64 lo, .int .i64 hi] 47) = W3 at *
      obtain ⟨j0, j1, j2, j3, j4, j5, j6, j7, j8⟩ := HC9.out W3 (Below.refl _ _); clear e0 e1 e2 e3 e4 e5 e6 e7 e8 HC9
      by_cases h7 : 7 < op
      ·have HD : Hid (deepN conds (k + 1) = true) := by show _ = _; rw [HD1.out, decide_eq_true h7]; simp
       have HCN : Hid (condsL S0 conds (k + 1) = condsL S0 conds k) := by show _ = _; rw [HC1.out, if_pos h7]
       clear HD1 HC1; generalize deepN conds k = DK at *
       go_wp2_with fail; go_roundw
       case rel => exact ⟨k + 1, by omega, by go_num, by rw [HD.out], by rw [HCN.out]; exact HX3⟩
       case measure => simp [intOf]; omega
      ·have HD : Hid (deepN conds (k + 1) = deepN conds k) := by show _ = _; rw [HD1.out, decide_eq_false h7]; simp
       have HCN : Hid (condsL S0 conds (k + 1) = ((condsL S0 conds k).1 ++ condL op a v mm, (condsL S0 conds k).2 ++ (condO op).map fun i => (((condsL S0 conds k).1.length + i : Nat) : Int))) := by show _ = _; rw [HC1.out, if_neg h7]; simp
       have HCC : Hid (Calls Tryz.prog 78 #[.pointer (some ⟨m, 0, none⟩), (.agg #[.int .i64 (a : Int), .int .i64 op, .int .u64 (v : Int), .int .u64 (mm : Int), .string glob, .int .u32 ip, .int .i64 bits, .int .i64 lo, .int .i64 hi])] W3 fun e w' => e = .returned (.tuple #[]) ∧ XAt W2 w' m ((condsL S0 conds k).1 ++ condL op a v mm) ((condsL S0 conds k).2 ++ (condO op).map fun i => (((condsL S0 conds k).1.length + i : Nat) : Int))) :=
        (mkCond_any m _ _ a op v mm glob ip bits lo hi W3 HX3.out.mak (by omega) (by omega) (by omega) (by omega) (by omega) (by omega)).mono fun e w' ⟨h1, h2, h3⟩ => ⟨h1, h2, HX3.out.bel.trans h3⟩
       clear HD1 HC1; generalize hDK : deepN conds k = DK at *
       have HDK := Lib.hid hDK; clear hDK
       go_wp2_with (go_at_call 78; refine cargs (by simp [Act.eval]) (HCC.out.mono ?_); rintro e w7 ⟨rfl, hx7⟩; have HX7 := Lib.hid hx7; clear hx7)
       go_roundw
       case rel => exact ⟨k + 1, by omega, by go_num, by rw [HD.out], by rw [HCN.out]; exact HX7⟩
       case measure => simp [intOf]; omega
     ·obtain rfl : k = conds.length := by omega
      have HRL2 : Hid (∀ K, K = ruleK i ⟨(n : Int), conds, rk, re⟩ → rulesL rules (i + 1) = hereN ((condsL S0 conds conds.length).1 ++ [Ins.mk 8 0 0 K]) (condsL S0 conds conds.length).2 (condsL S0 conds conds.length).2.length) := fun K hK => by rw [HRL.out, hK]; unfold ruleL; rw [HRS.out]
      have HHR : Hid (∀ W K, XAt W2 W m ((condsL S0 conds conds.length).1 ++ [Ins.mk 8 0 0 K]) (condsL S0 conds conds.length).2 → Calls Tryz.prog 79 #[.pointer (some ⟨m, 0, none⟩)] W fun e w' => e = .returned (.tuple #[]) ∧ XAt W2 w' m (hereN ((condsL S0 conds conds.length).1 ++ [Ins.mk 8 0 0 K]) (condsL S0 conds conds.length).2 (condsL S0 conds conds.length).2.length) []) := fun W K hx =>
       HHERE.out W2 W _ _ hx (by simp; omega) (by omega) (fun a ha => by have := HT4.out a ha; simp; omega)
      have HXE := hXk
      cases hd : deepN conds conds.length with
      | true =>
       have HK : Hid (((2146435072 + i : Nat) : Int) = ruleK i ⟨(n : Int), conds, rk, re⟩) := by show _ = _; unfold ruleK; simp only; rw [if_pos hd]
       have hor : bits .or .u32 2146435072 (i : Int) = ((2146435072 + i : Nat) : Int) := by
        rw [show (2146435072 : Int) = ((2146435072 : Nat) : Int) from rfl, u32_or_nat _ _ (by omega) (by omega), nat_join 20 _ _ (by omega) (by omega)]
       have y5 : (i : Int) < 4294967296 := by omega
       have HA := Lib.hid (HADD.out W2 wr _ _ 8 0 0 ((2146435072 + i : Nat) : Int) HXE.out (by omega)); clear hd; generalize ((2146435072 + i : Nat) : Int) = KK at *
       go_wp2_with (first
        | (go_at_call 75; refine cargs (by simp [Act.eval]) (HA.out.mono ?_); rintro e w8 ⟨rfl, hx8⟩; have HX8 := Lib.hid hx8; clear hx8)
        | (go_at_call 79; refine cargs (by simp [Act.eval]) ((HHR.out _ _ HX8.out).mono ?_); rintro e w9 ⟨rfl, hx9⟩; have HX9 := Lib.hid hx9; clear hx9))
       go_roundw
       case rel => exact ⟨i + 1, by omega, by go_num, by rw [HRL2.out _ HK.out]; exact ⟨HX9.out.mak, HX2.out.bel.trans HX9.out.bel⟩⟩
       case measure => simp [intOf]; omega
      | false =>
       have HK : Hid (retK rk re = ruleK i ⟨(n : Int), conds, rk, re⟩) := by show _ = _; unfold ruleK; simp only; rw [hd]; simp
       have HA := Lib.hid (HRET.out W2 wr _ _ rk re HXE.out (by omega) HAE.out); clear hd; generalize retK rk re = KK at *
       go_wp2_with (first
        | (go_at_call 76; refine cargs (by simp [Act.eval]) (HA.out.mono ?_); rintro e w8 ⟨rfl, hx8⟩; have HX8 := Lib.hid hx8; clear hx8)
        | (go_at_call 79; refine cargs (by simp [Act.eval]) ((HHR.out _ _ HX8.out).mono ?_); rintro e w9 ⟨rfl, hx9⟩; have HX9 := Lib.hid hx9; clear hx9))
       go_roundw
       case rel => exact ⟨i + 1, by omega, by go_num, by rw [HRL2.out _ HK.out]; exact ⟨HX9.out.mak, HX2.out.bel.trans HX9.out.bel⟩⟩
       case measure => simp [intOf]; omega
   ·obtain rfl : i = rules.length := by omega
    obtain ⟨p0, p1, p2⟩ := HPOL.out _ _ _ hXi.out; have HA := Lib.hid (HRET.out w1 _ _ _ pk pe hXi.out (by omega) HEA.out)
    go_upto_region 27 with (go_at_call 76; refine cargs (by simp [Act.eval]) (HA.out.mono ?_); rintro e w5 ⟨rfl, hx5⟩; have HX5 := Lib.hid hx5; clear hx5)
    obtain ⟨lv, ov, hmm, hL, hO⟩ := HX5.out.mak.rep; obtain ⟨AL, cL, rfl⟩ := own_form2 hL; have c0 : w5.cell? ⟨m, 0, none⟩ = some (.slice AL (rulesL rules rules.length ++ [Ins.mk 8 0 0 (retK pk pe)]).length cL) := by rw [cell_of_row w5 _ _ _ _ _ hmm]; rfl
    have HL2 := Lib.hid hL; have HBF : Hid (Below w.heap.size w w5) := HB01.out.trans (HX5.out.bel.below.mono (by omega)); clear hL hO hmm; generalize hQ : (rulesL rules rules.length ++ [Ins.mk 8 0 0 (retK pk pe)]) = Q at *
    have HQ := Lib.hid hQ; clear hQ
    go_wp2_with fail
    go_ret2
    exact HR0.out _ _ ⟨_, m + 1, rfl, by omega, by unfold progL; simp only; rw [HQ.out]; exact HL2.out⟩ HBF.out
 ·have HF : Hid (errV (polF p) = .iface 105 (.int .i64 (polF p))) := errV_pos hp; rw [HF.out] at hck; have HCK := Lib.hid hck; have HR0 : Hid (∀ e w', e = .returned (.tuple #[.slice none 0 0, .iface 105 (.int .i64 (polF p))]) → Below w.heap.size w w' → CompR p w e w') := fun e w' h1 h2 => ⟨h2, by rw [if_neg hp, HF.out]; exact h1⟩
  have HAB := Lib.hid (above w (.cells #[.slice A p.rules.length cp, .int .i64 p.kind, .int .i64 p.errno] 26)); clear hck hr hp hg hl hcl; generalize polF p = pf at *
  go_enter Tryz.func35, Tryz.ntmps35
  go_wp2_with (go_at_call 72; refine cargs (by simp [Act.eval]) (HCK.out.mono ?_); rintro e w1 ⟨rfl, hb1⟩; have HB1 := Lib.hid (HAB.out w1 hb1); clear hb1)
  go_ret2
  exact HR0.out _ _ rfl HB1.out
end Go.Proofs.YtmgngapkgcofnabGreatDoor
