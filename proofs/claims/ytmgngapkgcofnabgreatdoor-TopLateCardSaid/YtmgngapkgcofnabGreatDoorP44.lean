/- policy.Text: the walk. -/
import Derived.Test.YtmgngapkgcofnabGreatDoorP29
import Derived.Test.YtmgngapkgcofnabGreatDoorP21
import Derived.BigQuiet
import Derived.Deep.RegionWith
import Derived.Test.YtmgngapkgcofnabGreatDoorP43
import Derived.Test.YtmgngapkgcofnabGreatDoorP25
namespace Go.Proofs.YtmgngapkgcofnabGreatDoor
open Go.RowKit
theorem kept_cells {t : TypeId} {b : Option Nat} {w w' : World} {g : Nat} {cs : Array Value} {T : TypeId} {fz : Nat × Nat} (h : Lib.OthersKept t b w w') (hg : w.heap[g]? = some (.cells cs T fz)) (hb : some g ≠ b) (hT : T ≠ t) : w'.heap[g]? = some (.cells cs T fz) :=
 h g _ hg hb (fun c f e => by simp only [Obj.cells.injEq] at e; exact hT e.2.1)
theorem txt_write (w1 : World) (L : List UInt8) (S : ByteArray) (W : World) (h : TxtAt w1 W L) (hl : L.length ≤ 1000000) (hs : S.size ≤ 1000000) :
  Calls Tryz.prog 80 #[.pointer (some ⟨w1.heap.size, 0, none⟩), .string S] W fun e w' => (∃ n, e = .returned (.tuple #[.int .i64 n, .nilIface])) ∧ TxtAt w1 w' (L ++ S.data.toList) ∧ Lib.OthersKept 5 (some w1.heap.size) W w' :=
 (Tryz.ws_k w1.heap.size w1.heap.size (Lib.byteCells L) S W h.blt (by rw [Lib.byteCells_length]; omega) h.bel.size).mono fun e w' ⟨h1, h2, h3, h4⟩ => ⟨⟨_, h1⟩, ⟨h.bel.trans h3, .inr (by
  have e2 : Lib.byteCells (L ++ S.data.toList) = Lib.byteCells L ++ Lib.strCells S := by rw [Lib.byteCells_append]; rfl
  rw [e2]; exact h2)⟩, h4⟩
theorem formFld0 (s : ByteArray) (a b c d : Int) (w : World) : (Instr.field 180 (.agg #[.string s, .int .i64 a, .int .i64 b, .int .i64 c, .int .i64 d]) 0).run Tryz.prog w = .ok (.string s) w := by kernel_rfl
theorem bcell' {W w1 : World} (hb : Below W.heap.size W w1) : (∀ b o, b < W.heap.size → w1.cell? ⟨b, o, none⟩ = W.cell? ⟨b, o, none⟩) ∧ (∀ b o, b < W.heap.size → w1.frozen? ⟨b, o, none⟩ = W.frozen? ⟨b, o, none⟩) :=
 ⟨fun b o h => hb.cell (p := ⟨b, o, none⟩) h, fun b o h => hb.frozen (p := ⟨b, o, none⟩) h⟩
theorem lt_of_builder {T e : TypeId} {B b : Nat} {bs : List Value} {w : World} (h : Lib.IsBuilderF T e B b bs w) : b < w.heap.size := by
 rcases h with ⟨_, _, hb, _⟩ | ⟨_, _, hb, _⟩ <;> exact lt_of_block hb
theorem TxtAt.below {w1 W W' : World} {L : List UInt8} (h : TxtAt w1 W L) (hb : Below W.heap.size W W') : TxtAt w1 W' L := ⟨h.bel.trans (hb.mono h.bel.size), builderF_below h.blt hb⟩
theorem box3 (w : World) (a b c : Value) (t : TypeId) (W : World) (h : Below (w.alloc (.cells #[a, b, c] t)).heap.size (w.alloc (.cells #[a, b, c] t)) W) :
  W.cell? ⟨w.heap.size, 0, none⟩ = some a ∧ W.cell? ⟨w.heap.size, 1, none⟩ = some b ∧ W.cell? ⟨w.heap.size, 2, none⟩ = some c := by
 have hs : w.heap.size < (w.alloc (.cells #[a, b, c] t)).heap.size := by simp
 refine ⟨?_, ?_, ?_⟩ <;> (rw [h.cell (p := ⟨w.heap.size, _, none⟩) hs, cell_of_row _ _ _ _ _ _ (heap_alloc_new _ _)]; rfl)
set_option linter.unusedSimpArgs false in
set_option maxRecDepth 100000 in
set_option maxHeartbeats 4000000 in
theorem polText_any (v : Value) (p : PolD) (w : World) (h : PolAt w w.heap.size v p) (hg : ∀ r ∈ p.rules, ∀ c ∈ r.conds, c.glob.size ≤ 100000) (hl : p.rules.length ≤ 100000) (hcl : ∀ r ∈ p.rules, r.conds.length ≤ 100000)
  (htab : Lib.TabIs Tryz.prog w "internal/strconv.uint64pow10" .u64 Lib.pow10Tab) :
  Calls Tryz.prog 36 #[v] w fun e w' => e = .returned (.tuple #[.string ⟨(if polF p = 0 then polT p else []).toArray⟩, errV (polF p)]) ∧ Below w.heap.size w w' := by
 have HTB := Lib.hid (tab_below htab); clear htab; obtain ⟨A, cp, rfl, hr⟩ := h; obtain ⟨A1, cp1, hA, hr⟩ := hr; obtain ⟨rfl, rfl⟩ : A = A1 ∧ cp = cp1 := by simpa using hA
 clear hA; obtain ⟨rules, pk, pe⟩ := p; simp only at hr hg hl hcl ⊢; have HR := Lib.hid hr
 have HCH : Hid (∀ W : World, Below w.heap.size w W → Calls Tryz.prog 72 #[.agg #[.slice A rules.length cp, .int .i64 pk, .int .i64 pe]] W fun e w' => e = .returned (errV (polF ⟨rules, pk, pe⟩)) ∧ Below W.heap.size W w') := fun W hb =>
  polCheck_any _ ⟨rules, pk, pe⟩ W ⟨A, cp, rfl, RulesSl.mono (RulesSl.below ⟨A, cp, rfl, HR.out⟩ hb (Nat.le_refl _)) hb.size⟩ hg hl hcl
 have HB3 := Lib.hid (box3 w (.slice A rules.length cp) (.int .i64 pk) (.int .i64 pe) 26); have HAB := Lib.hid (above w (.cells #[.slice A rules.length cp, .int .i64 pk, .int .i64 pe] 26))
 by_cases hF : polF ⟨rules, pk, pe⟩ = 0
 ·have HRS : Hid (∀ (i : Nat) r, rules[i]? = some r → RuleSm r) := fun i r hi => by
   have hm := List.mem_of_getElem? hi; obtain ⟨_, _, h3⟩ := polF_zero hF; obtain ⟨b, o, _, _, hrow⟩ := HR.out.resolve_left (by intro e; rw [e] at hm; simp at hm); obtain ⟨_, _, hcs, _⟩ := hrow i r hi; exact ruleSm_of hcs.1 (h3 r hm)
  obtain ⟨hr12, hact, _⟩ := polF_zero hF; have HPT : Hid (polT ⟨rules, pk, pe⟩ = elseT ⟨rules, pk, pe⟩ ++ rulesT rules) := polT_text _; have hel := elseT_len (p := ⟨rules, pk, pe⟩) hact; have HEL : Hid (elseT ⟨rules, pk, pe⟩ = [101, 108, 115, 101, 32] ++ joinW 32 (actW pk pe) ++ [10]) := rfl
  have HAT : Hid (∀ W : World, Below w.heap.size w W → Calls Tryz.prog 81 #[.agg #[.int .i64 pk, .int .i64 pe]] W fun e' w' => e' = .returned (.string ⟨(joinW 32 (actW pk pe)).toArray⟩) ∧ Below W.heap.size W w') := fun W hb => actionText_any pk pe W hact (HTB.out W hb); have hal := act_len hact; rw [if_pos hF, hF]; rw [hF] at HCH
  have HCH2 : Hid (∀ W : World, Below w.heap.size w W → Calls Tryz.prog 72 #[.agg #[.slice A rules.length cp, .int .i64 pk, .int .i64 pe]] W fun e w' => e = .returned .nilIface ∧ Below W.heap.size W w') := HCH.out; clear HCH hF hr hg hl hcl hact; generalize polT ⟨rules, pk, pe⟩ = PT at *
  generalize elseT ⟨rules, pk, pe⟩ = ET at *
  generalize joinW 32 (actW pk pe) = AT at *
  have g1 : ¬ 9223372036854775807 < 5 + AT.length := by omega
  have g2 : ¬ 9223372036854775807 < 5 + AT.length + 1 := by omega
  have HSE : Hid ((⟨ET.toArray⟩ : ByteArray) = ⟨#[101, 108, 115, 101, 32]⟩ ++ ⟨AT.toArray⟩ ++ ⟨#[10]⟩) := by
   show _ = _; rw [HEL.out, ← bstr_app, ← bstr_app]
  have hlE : ET.length ≤ 31 := hel; have HB0 : Hid (∀ W, W = w.alloc (.cells #[.slice A rules.length cp, .int .i64 pk, .int .i64 pe] 26) → Below w.heap.size w W) := fun W h => by subst h; exact (Below.refl _ _).alloc (Nat.le_refl _) _
  go_enter Tryz.func36, Tryz.ntmps36
  go_upto_region 4 with (go_at_call 72; refine cargs (by simp [Act.eval]) ((HCH2.out _ (HB0.out _ rfl)).mono ?_); rintro e w1 ⟨rfl, hb1⟩; have HB1 := Lib.hid hb1; clear hb1)
  have HI0 : Hid (TxtAt w1 (w1.alloc (.cells #[.pointer none, .slice none 0 0] 175)) []) := ⟨(Below.refl _ _).alloc (Nat.le_refl _) _, builderF_new _ _ _⟩
  have HBW : Hid (∀ W, Below w1.heap.size w1 W → Below w.heap.size w W) := fun W hb => (HAB.out w1 HB1.out).trans (hb.mono (HAB.out w1 HB1.out).size)
  have HBX : Hid (∀ W, Below w1.heap.size w1 W → W.cell? ⟨w.heap.size, 0, none⟩ = some (.slice A rules.length cp) ∧ W.cell? ⟨w.heap.size, 1, none⟩ = some (.int .i64 pk) ∧ W.cell? ⟨w.heap.size, 2, none⟩ = some (.int .i64 pe)) := fun W hb => HB3.out W (HB1.out.trans (hb.mono HB1.out.size)); go_upto_region 5 with fail; generalize w1.alloc (.cells #[.pointer none, .slice none 0 0] 175) = W0 at *
  obtain ⟨c0, c1, c2⟩ := HBX.out W0 HI0.out.bel
  have HWS : Hid (∀ (L D : List UInt8) (W : World), TxtAt w1 W L → L.length ≤ 1000000 → D.length ≤ 1000000 → Calls Tryz.prog 80 #[.pointer (some ⟨w1.heap.size, 0, none⟩), .string ⟨D.toArray⟩] W fun e w' => (∃ n, e = .returned (.tuple #[.int .i64 n, .nilIface])) ∧ TxtAt w1 w' (L ++ D) ∧ Lib.OthersKept 5 (some w1.heap.size) W w') := fun L D W h h1 h2 => by
   have := txt_write w1 L ⟨D.toArray⟩ W h h1 (by rw [bsz]; exact h2)
   simpa using this
  go_upto_region 6 with (first
   | (go_at_call 81; refine cargs (by simp [Act.eval]) ((HAT.out _ (HBW.out _ HI0.out.bel)).mono ?_); rintro e w2 ⟨rfl, hb2⟩; have HI1 := Lib.hid (HI0.out.below hb2); clear hb2)
   | (go_at_call 80; refine cargs (by rw [HSE.out]) ((HWS.out [] ET _ HI1.out (by simp) (by omega)).mono ?_); rintro e w3 ⟨⟨n3, rfl⟩, hi3, _⟩; have HI3 := Lib.hid hi3; clear hi3))
  obtain ⟨c0', c1', c2'⟩ := HBX.out w3 HI3.out.bel; clear c0 c1 c2 HI0 HI1 HSE HEL HAT HCH2
  have HIE : Hid (TxtAt w1 w3 (ET ++ rulesT (rules.take 0))) := by
   have e : ET ++ rulesT (rules.take 0) = [] ++ ET := by simp [rulesT]
   rw [e]; exact HI3.out
  go_wp2_with fail
  go_loopw [24] (fun iv wr => ∃ i : Nat, i ≤ rules.length ∧ iv = .int .i64 i ∧ Hid (TxtAt w1 wr (ET ++ rulesT (rules.take i)))) (fun iv _ => rules.length - (intOf iv).toNat)
  case atStart => exact ⟨0, Nat.zero_le _, rfl, HIE⟩
  case round =>
   obtain ⟨i, hi, rfl, HI⟩ := hrel; obtain ⟨wo, rfl⟩ : ∃ wo : World, wo = wr := ⟨_, rfl⟩
   by_cases hlt : i < rules.length
   ·have x2 : (i : Int) < (rules.length : Int) := by omega
    have x3 : (0 : Int) ≤ (i : Int) := by omega
    have hli : rules[i]? = some rules[i] := by simp
    have hbo := HBW.out wo HI.out.bel; obtain ⟨b, o, rfl, hb, hrow⟩ := HR.out.resolve_left (by intro e; rw [e] at hlt; simp at hlt); obtain ⟨A', c', hcs, hrg⟩ := hrow i _ hli; have hrg2 := rangeAt_below hrg hbo hb; have HCS := Lib.hid hcs; have HSM := HRS.out i _ hli
    have HNX : Hid (ET ++ rulesT (rules.take (i + 1)) = ET ++ rulesT (rules.take i) ++ ruleT rules[i]) := by
     show _ = _; rw [take_next hli, rulesT_snoc, List.append_assoc]
    have hLl : (ET ++ rulesT (rules.take i)).length ≤ 50000 := by
     have h1 := rulesT_len (rules.take i) (fun r hr => by
      obtain ⟨k, hk⟩ := List.getElem?_of_mem (List.mem_of_mem_take hr); exact HRS.out k r hk)
     have h2 : (rules.take i).length ≤ 12 := by simp only [List.length_take]; omega
     simp only [List.length_append]; omega
    clear hcs hrg hrow hli; generalize rules[i] = R at *
    obtain ⟨nr, conds, rk, re⟩ := R; obtain ⟨ha, hn, hfew, hcon⟩ := HSM; simp only at hrg2 HCS ha hn hfew hcon; obtain ⟨n, rfl⟩ : ∃ n : Nat, nr = n := ⟨nr.toNat, by omega⟩
    have HRT : Hid (ruleT ⟨(n : Int), conds, rk, re⟩ = joinW 32 (actW rk re) ++ [32] ++ nameW n ++ condsT 0 conds ++ [10]) := rfl; rw [HRT.out] at HNX
    have HAT : Hid (∀ W : World, Below w.heap.size w W → Calls Tryz.prog 81 #[.agg #[.int .i64 rk, .int .i64 re]] W fun e' w' => e' = .returned (.string ⟨(joinW 32 (actW rk re)).toArray⟩) ∧ Below W.heap.size W w') := fun W hb => actionText_any rk re W ha (HTB.out W hb); have hal2 := act_len ha; have hnl := name_len n (by omega); have HNM : Hid (nameW n = (formName n).data.toList) := rfl
    have hns : (formName n).size = (nameW n).length := by unfold nameW; simp
    have hix := fun w : World => formIdx n (by omega) w; have hfl := formFld0; have HFM := Lib.hid (fun W : World => forms_any W); have HCN := Lib.hid hcon; rw [Int.toNat_natCast] at HCN; have f0 : wo.cell? ⟨b, o + i * 4, none⟩ = some (.int .i64 (n : Int)) := hrg2 0 _ rfl; have f1 := hrg2 1 _ rfl; have f2 := hrg2 2 _ rfl; have f3 := hrg2 3 _ rfl; clear hrg2 hcon HRT ha hbo
    generalize joinW 32 (actW rk re) = AT at *
    generalize nameW n = NM at *
    generalize formName n = FN at *
    generalize ET ++ rulesT (rules.take i) = L at *
    have HI4 : Hid (TxtAt w1 (wo.alloc (.cells #[.int .i64 (n : Int), .slice A' conds.length c', .int .i64 rk, .int .i64 re] 41)) L) := HI.out.below ((Below.refl _ _).alloc (Nat.le_refl _) _)
    have HG4 : Hid ((wo.alloc (.cells #[.int .i64 (n : Int), .slice A' conds.length c', .int .i64 rk, .int .i64 re] 41)).heap[wo.heap.size]? = some (.cells #[.int .i64 (n : Int), .slice A' conds.length c', .int .i64 rk, .int .i64 re] 41 (0, 0))) := heap_alloc_new _ _; have hgo : w1.heap.size < wo.heap.size := lt_of_builder HI.out.blt; go_upto_region 9 with fail
    generalize wo.alloc (.cells #[.int .i64 (n : Int), .slice A' conds.length c', .int .i64 rk, .int .i64 re] 41) = W4 at *
    clear f0 f1 f2 f3; generalize wo.heap.size = g at *
    have HSC : Hid (∀ W : World, W.heap[g]? = some (.cells #[.int .i64 (n : Int), .slice A' conds.length c', .int .i64 rk, .int .i64 re] 41 (0, 0)) → W.cell? ⟨g, 0, none⟩ = some (.int .i64 (n : Int)) ∧ W.cell? ⟨g, 2, none⟩ = some (.int .i64 rk) ∧ W.cell? ⟨g, 3, none⟩ = some (.int .i64 re)) := fun W h => ⟨(cell_of_row _ _ _ _ _ _ h).trans rfl, (cell_of_row _ _ _ _ _ _ h).trans rfl, (cell_of_row _ _ _ _ _ _ h).trans rfl⟩
    have HDS : Hid ((⟨(AT ++ [32] ++ NM).toArray⟩ : ByteArray) = ⟨AT.toArray⟩ ++ ⟨#[32]⟩ ++ FN) := by
     show _ = _; rw [← bstr_app, ← bstr_app, gstr FN, ← HNM.out]
    have HDl : Hid ((AT ++ [32] ++ NM).length ≤ 50) := by show _ ≤ _; simp only [List.length_append, List.length_cons, List.length_nil]; omega
    have g3 : ¬ 9223372036854775807 < AT.length + 1 := by omega
    have g4 : ¬ 9223372036854775807 < AT.length + 1 + FN.size := by omega
    have HID : Hid (TxtAt w1 W4.drew L) := ⟨HI4.out.bel.drew, HI4.out.blt⟩
    have HGD : Hid (W4.drew.heap[g]? = some (.cells #[.int .i64 (n : Int), .slice A' conds.length c', .int .i64 rk, .int .i64 re] 41 (0, 0))) := HG4.out; have HLl := Lib.hid hLl; clear hLl hal2 hnl hns g1 g2
    go_region_held3 (fun W' : World => W'.cell? ⟨g, 0, none⟩ = some (.int .i64 (n : Int)) ∧ W'.cell? ⟨g, 2, none⟩ = some (.int .i64 rk) ∧ W'.cell? ⟨g, 3, none⟩ = some (.int .i64 re)) (first | exact HSC.out _ HG7.out | exact HSC.out _ HG6.out | exact HSC.out _ HG5.out | exact HSC.out _ HGD.out) (first
     | (go_at_call 81; refine cargs (by first | (simp [Act.eval]; done) | fail) ((HAT.out _ (HBW.out _ HID.out.bel)).mono ?_); rintro e w5 ⟨rfl, hb5⟩; have HI5 := Lib.hid (HID.out.below hb5); have HG5 := Lib.hid ((hb5.block g (lt_of_block HGD.out)).trans HGD.out); clear hb5)
     | (go_at_call 82; refine cargs (by first | (simp [Act.eval]; done) | fail) ((HFM.out _).mono ?_); rintro e w6 ⟨rfl, hb6⟩; have HI6 := Lib.hid (HI5.out.below hb6); have HG6 := Lib.hid ((hb6.block g (lt_of_block HG5.out)).trans HG5.out); clear hb6)
     | (go_at_call 80; refine cargs (by first | (rw [HDS.out]; done) | fail) ((HWS.out L (AT ++ [32] ++ NM) _ HI6.out (by have := HLl.out; omega) (by have := HDl.out; omega)).mono ?_); rintro e w7 ⟨⟨n7, rfl⟩, hi7, hk7⟩; have HI7 := Lib.hid hi7; have HG7 := Lib.hid (kept_cells hk7 HG6.out (by simp; omega) (by decide)); clear hi7 hk7))
    obtain ⟨_, d1, _, _⟩ : w7.cell? ⟨g, 0, none⟩ = some (.int .i64 (n : Int)) ∧ w7.cell? ⟨g, 1, none⟩ = some (.slice A' conds.length c') ∧ w7.cell? ⟨g, 2, none⟩ = some (.int .i64 rk) ∧ w7.cell? ⟨g, 3, none⟩ = some (.int .i64 re) := by
     have h := HG7.out; exact ⟨(cell_of_row _ _ _ _ _ _ h).trans rfl, (cell_of_row _ _ _ _ _ _ h).trans rfl, (cell_of_row _ _ _ _ _ _ h).trans rfl, (cell_of_row _ _ _ _ _ _ h).trans rfl⟩
    clear HI4 HG4 HID HGD HI5 HG5 HI6 HG6 HSC HDS HAT HFM hix hfl g3 g4 HG7; obtain ⟨LD, HLD⟩ : ∃ LD, Hid (LD = L ++ (AT ++ [32] ++ NM)) := ⟨L ++ (AT ++ [32] ++ NM), rfl⟩
    rw [← HLD.out] at HI7; have HLDl : Hid (LD.length ≤ 60000) := by show _ ≤ _; rw [HLD.out, List.length_append]; have := HLl.out; have := HDl.out; omega
    have HIC : Hid (TxtAt w1 w7 (LD ++ condsT 0 (conds.take 0))) := by
     have e : LD ++ condsT 0 (conds.take 0) = LD := by simp [condsT]
     rw [e]; exact HI7.out
    go_wp2_with fail
    go_loopw [42] (fun jv wr => ∃ j : Nat, j ≤ conds.length ∧ jv = .int .i64 j ∧ Hid (TxtAt w1 wr (LD ++ condsT 0 (conds.take j)))) (fun jv _ => conds.length - (intOf jv).toNat)
    case atStart => exact ⟨0, Nat.zero_le _, rfl, HIC⟩
    case round =>
     clear HIC HI7; obtain ⟨j, hj, rfl, HJ⟩ := hrel
     by_cases hjl : j < conds.length
     ·have y2 : (j : Int) < (conds.length : Int) := by omega
      have y3 : (0 : Int) ≤ (j : Int) := by omega
      have hlk : conds[j]? = some conds[j] := by simp
      have hbr := HBW.out wr HJ.out.bel; obtain ⟨hcok, A2, c2, hA2, hrw⟩ := HCS.out.below hbr (Nat.le_refl _); obtain ⟨rfl, rfl⟩ : A' = A2 ∧ c' = c2 := by simpa using hA2
      obtain ⟨b2, o2, rfl, hb2, hrow2⟩ := hrw.resolve_left (by intro e; rw [e] at hjl; simp at hjl); have hr9 := hrow2 j _ hlk; obtain ⟨hsm, hck, hcf⟩ := HCN.out conds[j] (by simp)
      have HNJ : Hid (LD ++ condsT 0 (conds.take (j + 1)) = LD ++ condsT 0 (conds.take j) ++ ((if j = 0 then [32, 105, 102, 32] else [32, 97, 110, 100, 32]) ++ ctL conds[j])) := by
       show _ = _; rw [take_next hlk, condsT_snoc, List.append_assoc]; have : 0 + (conds.take j).length = j := by simp; omega
       rw [this]
      have hcl := ctL_len hsm
      have hLj : (LD ++ condsT 0 (conds.take j)).length ≤ 70000 := by
       have h1 := condsT_len (conds.take j) 0 (fun x hx => (HCN.out x (List.mem_of_mem_take hx)).1); have h2 : (conds.take j).length ≤ 4 := by simp only [List.length_take]; omega
       have h3 := HLDl.out; simp only [List.length_append]; omega
      have HCT : Hid (∀ W : World, Below w.heap.size w W → Calls Tryz.prog 83 #[conds[j].val] W fun e w' => e = .returned (.string ⟨(ctL conds[j]).toArray⟩) ∧ Below W.heap.size W w') := fun W hb => condText_any n _ W hck hcf (HTB.out W hb); clear hcok hA2 hrw hrow2 hlk hsm hck hcf hbr; generalize conds[j] = CC at *
      obtain ⟨arg, op, v, m, glob, ⟨ip, bits, lo, hi⟩⟩ := CC; have e0 : wr.cell? ⟨b2, o2 + j * 9, none⟩ = some (.int .i64 arg) := hr9 0 _ rfl; have e1 := hr9 1 _ rfl; have e2 := hr9 2 _ rfl; have e3 := hr9 3 _ rfl; have e4 := hr9 4 _ rfl; have e5 := hr9 5 _ rfl; have e6 := hr9 6 _ rfl; have e7 := hr9 7 _ rfl; have e8 := hr9 8 _ rfl; simp only at e1 e2 e3 e4 e5 e6 e7 e8; unfold CondD.val at HCT
      simp only at HCT; generalize ctL ⟨arg, op, v, m, glob, ⟨ip, bits, lo, hi⟩⟩ = CT at *
      generalize LD ++ condsT 0 (conds.take j) = LJ at *
      have HC9 := Lib.hid (cell9 wr (.int .i64 arg) (.int .i64 op) (.int .u64 v) (.int .u64 m) (.string glob) (.int .u32 ip) (.int .i64 bits) (.int .i64 lo) (.int .i64 hi) 47)
      have HJ4 : Hid (TxtAt w1 (wr.alloc (.cells #[.int .i64 arg, .int .i64 op, .int .u64 v, .int .u64 m, .string glob, .int .u32 ip, .int .i64 bits, .int .i64 lo, .int .i64 hi] 47)) LJ) := HJ.out.below ((Below.refl _ _).alloc (Nat.le_refl _) _)
      obtain ⟨M, SP, hmn, hM2, hmM, hsp, hsl⟩ : ∃ (M : Nat) (SP : List UInt8), min (j : Int) 1 = (M : Int) ∧ M < 2 ∧ (∀ W : World, (W.alloc (.cells #[.string ⟨#[32, 105, 102, 32]⟩, .string ⟨#[32, 97, 110, 100, 32]⟩] 9)).cell? ⟨W.heap.size, M, none⟩ = some (.string ⟨SP.toArray⟩)) ∧ (if j = 0 then [32, 105, 102, 32] else [32, 97, 110, 100, 32]) = SP ∧ SP.length ≤ 5 := by
       by_cases h0 : j = 0
       ·exact ⟨0, [32, 105, 102, 32], by omega, by omega, fun W => by rw [cell_of_row _ _ _ _ _ _ (heap_alloc_new _ _)]; rfl, if_pos h0, by decide⟩
       ·exact ⟨1, [32, 97, 110, 100, 32], by omega, by omega, fun W => by rw [cell_of_row _ _ _ _ _ _ (heap_alloc_new _ _)]; rfl, if_neg h0, by decide⟩
      rw [hsp] at HNJ; have HSL := Lib.hid hsl; have hM0 : (0 : Int) ≤ (M : Int) := by omega
      have hM3 : (M : Int) < 2 := by omega
      clear hsp hsl; clear hr9; go_upto_region 13 with fail; generalize hW5 : wr.alloc (.cells #[.int .i64 arg, .int .i64 op, .int .u64 v, .int .u64 m, .string glob, .int .u32 ip, .int .i64 bits, .int .i64 lo, .int .i64 hi] 47) = W5 at *
      clear e0 e1 e2 e3 e4 e5 e6 e7 e8; have hh5 : W5.heap[wr.heap.size]? = some (.cells #[.int .i64 arg, .int .i64 op, .int .u64 v, .int .u64 m, .string glob, .int .u32 ip, .int .i64 bits, .int .i64 lo, .int .i64 hi] 47 (0, 0)) := by rw [← hW5]; exact heap_alloc_new _ _
      have hgr : w1.heap.size < wr.heap.size := lt_of_builder HJ.out.blt; clear HC9 hW5; generalize wr.heap.size = h at *
      have HROW : Hid (∀ W : World, W.heap[h]? = some (.cells #[.int .i64 arg, .int .i64 op, .int .u64 v, .int .u64 m, .string glob, .int .u32 ip, .int .i64 bits, .int .i64 lo, .int .i64 hi] 47 (0, 0)) → W.cell? ⟨h, 0, none⟩ = some (.int .i64 arg) ∧ W.cell? ⟨h, 1, none⟩ = some (.int .i64 op) ∧ W.cell? ⟨h, 2, none⟩ = some (.int .u64 v) ∧ W.cell? ⟨h, 3, none⟩ = some (.int .u64 m) ∧ W.cell? ⟨h, 4, none⟩ = some (.string glob) ∧ W.cell? ⟨h, 5, none⟩ = some (.int .u32 ip) ∧ W.cell? ⟨h, 6, none⟩ = some (.int .i64 bits) ∧ W.cell? ⟨h, 7, none⟩ = some (.int .i64 lo) ∧ W.cell? ⟨h, 8, none⟩ = some (.int .i64 hi)) := fun W hw =>
       ⟨(cell_of_row _ _ _ _ _ _ hw).trans rfl, (cell_of_row _ _ _ _ _ _ hw).trans rfl, (cell_of_row _ _ _ _ _ _ hw).trans rfl, (cell_of_row _ _ _ _ _ _ hw).trans rfl, (cell_of_row _ _ _ _ _ _ hw).trans rfl, (cell_of_row _ _ _ _ _ _ hw).trans rfl, (cell_of_row _ _ _ _ _ _ hw).trans rfl, (cell_of_row _ _ _ _ _ _ hw).trans rfl, (cell_of_row _ _ _ _ _ _ hw).trans rfl⟩
      have hlt5 : h < W5.heap.size := lt_of_block hh5
      have HALLW : Hid (∀ W, Below W5.heap.size W5 W → Below w.heap.size w W ∧ TxtAt w1 W LJ ∧ W.heap[h]? = some (.cells #[.int .i64 arg, .int .i64 op, .int .u64 v, .int .u64 m, .string glob, .int .u32 ip, .int .i64 bits, .int .i64 lo, .int .i64 hi] 47 (0, 0))) := fun W hb =>
       ⟨HBW.out W (HJ4.out.bel.trans (hb.mono HJ4.out.bel.size)), HJ4.out.below hb, (hb.block h hlt5).trans hh5⟩
      obtain ⟨q0, q1, q2, q3, q4, q5, q6, q7, q8⟩ := HROW.out W5 hh5; have HD0 : Hid (Below W5.heap.size W5 W5.drew) := (Below.refl _ _).drew; have HD1 : Hid (∀ o, Below W5.heap.size W5 (W5.drew.alloc o)) := fun o => (Below.refl _ _).drew.alloc (Nat.le_refl _) o; have HD2 : Hid (∀ o, Below W5.heap.size W5 (W5.alloc o)) := fun o => (Below.refl _ _).alloc (Nat.le_refl _) o
      have HD3 : Hid (∀ o, Below W5.heap.size W5 (W5.alloc o).drew) := fun o => ((Below.refl _ _).alloc (Nat.le_refl _) o).drew; have HD4 : Hid (Below W5.heap.size W5 W5) := Below.refl _ _; have HLJ := Lib.hid hLj; have HCL := Lib.hid hcl; clear HJ4 HJ hh5 hLj hcl hj; have HNJ2 : Hid (LD ++ condsT 0 (conds.take (j + 1)) = LJ ++ (SP ++ CT)) := by show _ = _; rw [HNJ.out]
      have HDS : Hid ((⟨(SP ++ CT).toArray⟩ : ByteArray) = ⟨SP.toArray⟩ ++ ⟨CT.toArray⟩) := by show _ = _; rw [← bstr_app]
      have g3 : ¬ 9223372036854775807 < SP.length + CT.length := by have := HCL.out; have := HSL.out; omega
      clear HNJ hM2
      go_region_with (first
       | (go_at_call 83; refine cargs (by first | (simp [Act.eval]; done) | fail) ((HCT.out _ (HALLW.out _ (by first | exact HD0.out | exact HD1.out _ | exact HD2.out _ | exact HD3.out _ | exact HD4.out)).1).mono ?_); rintro e w6 ⟨rfl, hb6⟩; have HD6 : Hid (Below W5.heap.size W5 w6) := (by first | exact HD0.out.trans (hb6.mono HD0.out.size) | exact (HD1.out _).trans (hb6.mono (HD1.out _).size) | exact (HD2.out _).trans (hb6.mono (HD2.out _).size) | exact (HD3.out _).trans (hb6.mono (HD3.out _).size) | exact hb6); have HD6A : Hid (∀ o, Below W5.heap.size W5 (w6.alloc o)) := (fun o => HD6.out.alloc HD6.out.size o); have HD6B : Hid (∀ o, Below W5.heap.size W5 (w6.alloc o).drew) := (fun o => (HD6.out.alloc HD6.out.size o).drew); have HD6C : Hid (Below W5.heap.size W5 w6.drew) := HD6.out.drew; obtain ⟨hc6, hf6⟩ := bcell' hb6; clear hb6)
       | (go_at_call 80; refine cargs (by first | (rw [HDS.out]; done) | fail) ((HWS.out LJ (SP ++ CT) _ (HALLW.out _ (by first | exact HD6.out | exact HD6A.out _ | exact HD6B.out _ | exact HD6C.out)).2.1 (by have := HLJ.out; omega) (by have := HCL.out; have := HSL.out; simp only [List.length_append]; omega)).mono ?_); rintro e w7 ⟨⟨n7, rfl⟩, hi7, hk7⟩; have HJ7 := Lib.hid hi7; have HG7 := Lib.hid (kept_cells hk7 (HALLW.out _ (by first | exact HD6.out | exact HD6A.out _ | exact HD6B.out _ | exact HD6C.out)).2.2 (by simp; omega) (by decide)); clear hi7 hk7))
      all_goals
       go_wp2_with fail; go_roundw
       case rel => exact ⟨j + 1, by omega, by go_num, by rw [HNJ2.out]; exact HJ7⟩
       case measure => simp [intOf]; omega
     ·obtain rfl : j = conds.length := by omega
      rw [List.take_length] at HJ
      have HNL : Hid (LD ++ condsT 0 conds ++ [10] = ET ++ rulesT (rules.take (i + 1))) := by
       show _ = _; rw [HNX.out, HLD.out]; simp
      have hLj : (LD ++ condsT 0 conds).length ≤ 70000 := by
       have h1 := condsT_len conds 0 (fun x hx => (HCN.out x hx).1); have h3 := HLDl.out; simp only [List.length_append]; omega
      have HLj := Lib.hid hLj; clear hLj HNX HLD; generalize LD ++ condsT 0 conds = LJ at *
      go_wp2_with (go_at_call 80; refine cargs (by first | (simp [Act.eval]; done) | rfl) ((HWS.out LJ [10] _ HJ.out (by have := HLj.out; omega) (by simp)).mono ?_); rintro e w8 ⟨⟨n8, rfl⟩, hi8, _⟩; have HI8 := Lib.hid hi8; clear hi8)
      go_roundw
      case rel => exact ⟨i + 1, by omega, by go_num, by rw [← HNL.out]; exact HI8⟩
      case measure => simp [intOf]; omega
   ·obtain rfl : i = rules.length := by omega
    rw [List.take_length, ← HPT.out] at HI; have HST : Hid (∀ W, TxtAt w1 W PT → Calls Tryz.prog 84 #[.pointer (some ⟨w1.heap.size, 0, none⟩)] W fun e w' => e = .returned (.string ⟨PT.toArray⟩) ∧ Below w1.heap.size w1 w') := fun W h => (Tryz.str_k w1.heap.size w1.heap.size PT W h.blt h.bel.size).mono fun e w' ⟨h1, _, h3, _⟩ => ⟨h1, h.bel.trans h3⟩
    go_wp2_with (go_at_call 84; refine cargs (by simp [Act.eval]) ((HST.out _ HI.out).mono ?_); rintro e w9 ⟨rfl, hb9⟩; have HB9 := Lib.hid hb9; clear hb9)
    go_returns
    exact ⟨rfl, HBW.out _ HB9.out⟩
 ·rw [if_neg hF, errV_pos hF]; rw [errV_pos hF] at HCH; generalize polF ⟨rules, pk, pe⟩ = pf at *
  clear hr hg hl hcl HTB; have HB0 : Hid (∀ W, W = w.alloc (.cells #[.slice A rules.length cp, .int .i64 pk, .int .i64 pe] 26) → Below w.heap.size w W) := fun W h => by subst h; exact (Below.refl _ _).alloc (Nat.le_refl _) _
  go_enter Tryz.func36, Tryz.ntmps36
  go_wp2_with (go_at_call 72; refine cargs (by simp [Act.eval]) ((HCH.out _ (HB0.out _ rfl)).mono ?_); rintro e w1 ⟨rfl, hb1⟩; have HB1 := Lib.hid hb1; clear hb1)
  go_returns
  exact ⟨rfl, HAB.out _ HB1.out⟩
end Go.Proofs.YtmgngapkgcofnabGreatDoor
namespace Go.Proofs.YtmgngapkgcofnabGreatDoor
open Go.RowKit
theorem step_append_rule {w : World} {ops : Array Oper} {o : Oper} {a : Act} {K : Act → World → Prop} {Q : Exit → Act → World → Prop} {E : Prop} (hgd : o.guard = none) (s x : Operand)
  (ho : o.op = .call { callee := .builtin .append, args := #[s, x], argTypes := #[22, 22] })
  (base bs n : Nat) (v1 : Value) (xs : List Value) (y : RuleD) (A : Option Addr) (c : Nat) (hs : a.eval s = v1) (hx : a.eval x = .slice (some ⟨bs, 0, none⟩) 1 1)
  (hown : w.ownsRow base 41 4 v1 n xs)
  (hb : w.heap[bs]? = some (.cells #[.int .i64 y.nr, .slice A y.conds.length c, .int .i64 y.kind, .int .i64 y.errno] 41 (0, 0))) (hl : n ≤ 1000000) (hbase : base ≤ w.heap.size)
  (h : ∀ g cap w', w'.ownsRow base 41 4 (.slice (some ⟨g, 0, none⟩) (n + 1) cap) (n + 1) (xs ++ ruleV y A c) → w.grownBy w' v1.ownBlock → K (a.put o.dst (.slice (some ⟨g, 0, none⟩) (n + 1) cap)) w') :
  if Region.wanted o (yielded ops a.tmps) = true then Oper.wp Tryz.prog o a w K Q else E := by
 obtain ⟨z, hinf, hz2⟩ := ruleInfo; obtain ⟨i0, hi, hz0, hz1, hz3⟩ := info_parts hinf; refine step_append_lies w hgd s x _ ho base 41 i0 z 4 48 Tryz.underlying22 hi hz0 hz1 hz3 hz2 (by omega) v1 n xs hs hown ⟨bs, 0, none⟩ 1 1 (ruleV y A c) hx rfl (World.news_of_block hb) (by simp [ruleV, Value.oneCell']) (by omega) (by unfold maxLen; omega) (by omega) hbase _ rfl ?_; intro g cap w' h2 h3 _ _
 exact h g cap w' h2 h3
def RulesOwnB (w : World) (B : Nat) (rs : List RuleD) (xs : List Value) : Prop := ∀ k r, rs[k]? = some r → ∃ A c, CondsOwn w (.slice A r.conds.length c) r.conds ∧ CondsFrom B (.slice A r.conds.length c) ∧ ∀ j u, (ruleV r A c)[j]? = some u → xs[k * 4 + j]? = some u
theorem RulesOwnB.own {w : World} {B : Nat} {rs : List RuleD} {xs : List Value} (h : RulesOwnB w B rs xs) : RulesOwn w rs xs := fun k r hr => by
 obtain ⟨A, c, h1, _, h3⟩ := h k r hr; exact ⟨A, c, h1, h3⟩
theorem RulesOwnB.kept {w w' : World} {B : Nat} {rs : List RuleD} {xs : List Value} (h : RulesOwnB w B rs xs) (hk : KeptC w w') : RulesOwnB w' B rs xs := fun k r hr => by
 obtain ⟨A, c, h1, h2, h3⟩ := h k r hr; exact ⟨A, c, h1.kept hk, h2, h3⟩
theorem RulesOwnB.snoc {w : World} {B : Nat} {rs : List RuleD} {xs : List Value} {r : RuleD} {A : Option Addr} {c : Nat} (h : RulesOwnB w B rs xs) (hl : xs.length = rs.length * 4) (hc : CondsOwn w (.slice A r.conds.length c) r.conds) (hf : CondsFrom B (.slice A r.conds.length c)) : RulesOwnB w B (rs ++ [r]) (xs ++ ruleV r A c) := by
 intro k q hq; rcases Nat.lt_or_ge k rs.length with hk | hk
 ·rw [List.getElem?_append_left hk] at hq; obtain ⟨A', c', h1, h2, h3⟩ := h k q hq; refine ⟨A', c', h1, h2, fun j u hu => ?_⟩; have hj := h3 j u hu
  have hlt : k * 4 + j < xs.length := by
   rcases Nat.lt_or_ge (k * 4 + j) xs.length with h' | h'
   ·exact h'
   ·rw [List.getElem?_eq_none h'] at hj; cases hj
  rw [List.getElem?_append_left hlt]; exact hj
 ·rw [List.getElem?_append_right hk] at hq
  have hk0 : k - rs.length = 0 := by
   rcases Nat.eq_zero_or_pos (k - rs.length) with h0 | h0
   ·exact h0
   ·rw [List.getElem?_eq_none (by simp; omega)] at hq; cases hq
  rw [hk0] at hq; obtain rfl : r = q := by simpa using hq
  refine ⟨A, c, hc, hf, fun j u hu => ?_⟩; rw [List.getElem?_append_right (by omega), show k * 4 + j - xs.length = j from by omega]; exact hu
theorem CondsFrom.mono {B B' : Nat} {v : Value} (h : CondsFrom B v) (hb : B' ≤ B) : CondsFrom B' v := by
 rcases h with h | ⟨g, n, c, h1, h2⟩
 ·exact .inl h
 ·exact .inr ⟨g, n, c, h1, Nat.le_trans hb h2⟩
theorem keptC_but {w w' : World} {b : Nat} {cur : Array Value} {t : TypeId} {fr : Nat × Nat} (hg : w.grownBy w' (some b)) (hb : w.heap[b]? = some (.cells cur t fr)) (ht : t ≠ 47) : KeptC w w' := fun k cs f hk => by
 refine (hg.block k (lt_of_block hk) (fun e => ?_)).trans hk; simp only [Option.some.injEq] at e; subst e; rw [hb] at hk; simp only [Option.some.injEq, Obj.cells.injEq] at hk; exact ht hk.2.1
theorem keptC_below {w w' : World} (h : Below w.heap.size w w') : KeptC w w' := keptC_of_lt h.block
def zero3 : Array Value := #[.slice none 0 0, .int .i64 0, .int .i64 0]
structure PS (w W : World) (lines : List ByteArray) (rs : List RuleD) (k e : Int) (AO : Option Addr) (cO : Nat) (xs : List Value) : Prop where
 bel : Below w.heap.size w W
 res : W.heap[w.heap.size]? = some (.cells zero3 26 (0, 0))
 pol : W.heap[w.heap.size + 1]? = some (.cells #[.slice AO rs.length cO, .int .i64 k, .int .i64 e] 26 (0, 0))
 lin : W.heap[w.heap.size + 2]? = some (.cells (lines.map Value.string).toArray 9 (0, 0))
 own : W.ownsRow (w.heap.size + 3) 41 4 (.slice AO rs.length cO) rs.length xs
 rul : RulesOwnB W (w.heap.size + 3) rs xs
section
variable {w W W' : World} {lines : List ByteArray} {rs : List RuleD} {k e : Int} {AO : Option Addr} {cO : Nat} {xs : List Value}
theorem PS.big (h : PS w W lines rs k e AO cO xs) : w.heap.size + 3 ≤ W.heap.size := lt_of_block h.lin
theorem PS.below (h : PS w W lines rs k e AO cO xs) (hb : Below W.heap.size W W') : PS w W' lines rs k e AO cO xs := by
 have hs := h.big; refine ⟨h.bel.trans (hb.mono (by omega)), (hb.block _ (by omega)).trans h.res, (hb.block _ (by omega)).trans h.pol, (hb.block _ (by omega)).trans h.lin, ?_, h.rul.kept (keptC_below hb)⟩; exact own_at h.own (fun g cur _ hg => (hb.block g (lt_of_block hg)).trans hg)
theorem PS.words (h : PS w W lines rs k e AO cO xs) {b : Nat} {cur : Array Value} (hb : w.heap.size + 3 ≤ b) (hg : W.grownBy W' (some b)) (hw : W.heap[b]? = some (.cells cur 188 (0, 0))) : PS w W' lines rs k e AO cO xs := by
 have hs := h.big; refine ⟨below_of_grown h.bel hg (by omega) (by omega), (hg.block _ (by omega) (by simp; omega)).trans h.res, (hg.block _ (by omega) (by simp; omega)).trans h.pol, (hg.block _ (by omega) (by simp; omega)).trans h.lin, ?_, h.rul.kept (keptC_but hg hw (by decide))⟩; refine own_at h.own (fun g cur' _ hgc => (hg.block g (lt_of_block hgc) (fun ee => ?_)).trans hgc)
 simp only [Option.some.injEq] at ee; subst ee; rw [hw] at hgc; simp only [Option.some.injEq, Obj.cells.injEq] at hgc; exact absurd hgc.2.1 (by decide)
theorem PS.setElse (h : PS w W lines rs k e AO cO xs) (k' e' : Int) : PS w ((W.setCell ⟨w.heap.size + 1, 1, none⟩ (.int .i64 k')).setCell ⟨w.heap.size + 1, 2, none⟩ (.int .i64 e')) lines rs k' e' AO cO xs := by
 have hs := h.big
 have e1 : (W.setCell ⟨w.heap.size + 1, 1, none⟩ (.int .i64 k')).heap[w.heap.size + 1]? = some (.cells #[.slice AO rs.length cO, .int .i64 k', .int .i64 e] 26 (0, 0)) := by
  have := heap_setCell_same W (w.heap.size + 1) 1 _ _ (.int .i64 k') h.pol; simpa using this
 have e2 : ((W.setCell ⟨w.heap.size + 1, 1, none⟩ (.int .i64 k')).setCell ⟨w.heap.size + 1, 2, none⟩ (.int .i64 e')).heap[w.heap.size + 1]? = some (.cells #[.slice AO rs.length cO, .int .i64 k', .int .i64 e'] 26 (0, 0)) := by
  have := heap_setCell_same _ (w.heap.size + 1) 2 _ _ (.int .i64 e') e1; simpa using this
 have hother : ∀ g, g ≠ w.heap.size + 1 → ((W.setCell ⟨w.heap.size + 1, 1, none⟩ (.int .i64 k')).setCell ⟨w.heap.size + 1, 2, none⟩ (.int .i64 e')).heap[g]? = W.heap[g]? := fun g hg =>
  (heap_setCell_other _ ⟨w.heap.size + 1, 2, none⟩ g _ hg).trans (heap_setCell_other W ⟨w.heap.size + 1, 1, none⟩ g _ hg)
 refine ⟨(h.bel.setCell (p := ⟨w.heap.size + 1, 1, none⟩) (by show w.heap.size ≤ w.heap.size + 1; omega) _).setCell (p := ⟨w.heap.size + 1, 2, none⟩) (by show w.heap.size ≤ w.heap.size + 1; omega) _, (hother _ (by omega)).trans h.res, e2, (hother _ (by omega)).trans h.lin, ?_, h.rul.kept ((keptC_set h.pol (by decide)).trans (keptC_set e1 (by decide)))⟩
 refine own_at h.own (fun g cur' hbg hgc => (hother g (by omega)).trans hgc)
theorem PS.keptOwn (h : PS w W lines rs k e AO cO xs) {o : Obj} {W1 : World} (hg : (W.alloc o).grownBy W1 (Value.slice AO rs.length cO).ownBlock) : KeptC W W1 ∧ Below w.heap.size W W1 ∧ (∀ (i : Nat) (ob : Obj), W.heap[i]? = some ob → (∀ cur, ob ≠ .cells cur 41 (0, 0)) → W1.heap[i]? = some ob) := by
 have hs := h.big
 have hk : ∀ (i : Nat) (ob : Obj), W.heap[i]? = some ob → (∀ cur, ob ≠ .cells cur 41 (0, 0)) → W1.heap[i]? = some ob := fun i ob hi hne => by
  have hlt := lt_of_block hi; have h1 : (W.alloc o).heap[i]? = some ob := (((Below.refl W.heap.size W).alloc (Nat.le_refl _) o).block i hlt).trans hi; refine (hg.block i (by simp; omega) (fun e => ?_)).trans h1; rcases own_block h.own with h0 | ⟨g, cur, h0, _, h3⟩
  ·rw [h0] at e; simp at e
  ·rw [h0] at e; simp only [Option.some.injEq] at e; subst e; rw [h3] at hi; simp only [Option.some.injEq] at hi; exact hne cur hi.symm
 refine ⟨fun i cs fr hi => hk i _ hi (fun cur e => by simp only [Obj.cells.injEq] at e; exact absurd e.2.1 (by decide)), ⟨hg.os, hg.tape, hg.output, Nat.le_trans (by simp) hg.size, fun i hi => ?_⟩, hk⟩; have hlt : i < W.heap.size := by omega
 refine (hg.block i (by simp; omega) (fun e => ?_)).trans (((Below.refl W.heap.size W).alloc (Nat.le_refl _) o).block i hlt); rcases own_block h.own with h0 | ⟨g, cur, h0, h2, _⟩
 ·rw [h0] at e; simp at e
 ·rw [h0] at e; simp only [Option.some.injEq] at e; omega
theorem PS.append (h : PS w W lines rs k e AO cO xs) {o : Obj} {W1 : World} {g cap : Nat} {y : RuleD} {A : Option Addr} {c : Nat} (ho : W1.ownsRow (w.heap.size + 3) 41 4 (.slice (some ⟨g, 0, none⟩) (rs.length + 1) cap) (rs.length + 1) (xs ++ ruleV y A c))
  (hg : (W.alloc o).grownBy W1 (Value.slice AO rs.length cO).ownBlock) (hc : CondsOwn W (.slice A y.conds.length c) y.conds) (hf : CondsFrom (w.heap.size + 3) (.slice A y.conds.length c)) :
  PS w (W1.setCell ⟨w.heap.size + 1, 0, none⟩ (.slice (some ⟨g, 0, none⟩) (rs.length + 1) cap)) lines (rs ++ [y]) k e (some ⟨g, 0, none⟩) cap (xs ++ ruleV y A c) := by
 obtain ⟨hkc, hlow, hk⟩ := h.keptOwn hg; have hs := h.big; have hp1 := hk _ _ h.pol (fun cur e => by simp only [Obj.cells.injEq] at e; exact absurd e.2.1 (by decide))
 have e1 : (W1.setCell ⟨w.heap.size + 1, 0, none⟩ (.slice (some ⟨g, 0, none⟩) (rs.length + 1) cap)).heap[w.heap.size + 1]? = some (.cells #[.slice (some ⟨g, 0, none⟩) (rs.length + 1) cap, .int .i64 k, .int .i64 e] 26 (0, 0)) := by
  have := heap_setCell_same W1 (w.heap.size + 1) 0 _ _ (.slice (some ⟨g, 0, none⟩) (rs.length + 1) cap) hp1; simpa using this
 have hlen : (rs ++ [y]).length = rs.length + 1 := by simp
 refine ⟨(h.bel.trans hlow).setCell (p := ⟨w.heap.size + 1, 0, none⟩) (by show w.heap.size ≤ w.heap.size + 1; omega) _, ?_, by rw [hlen]; exact e1, ?_, ?_, ?_⟩
 ·exact (heap_setCell_other W1 ⟨w.heap.size + 1, 0, none⟩ w.heap.size _ (by simp)).trans (hk _ _ h.res (fun cur e => by simp only [Obj.cells.injEq] at e; exact absurd e.2.1 (by decide)))
 ·exact (heap_setCell_other W1 ⟨w.heap.size + 1, 0, none⟩ (w.heap.size + 2) _ (by simp)).trans (hk _ _ h.lin (fun cur e => by simp only [Obj.cells.injEq] at e; exact absurd e.2.1 (by decide)))
 ·rw [hlen]; exact own_at ho (fun g cur' hbg hgc => (heap_setCell_other W1 ⟨w.heap.size + 1, 0, none⟩ g _ (by simp only; omega)).trans hgc)
 ·exact ((h.rul.kept hkc).snoc h.own.1 (hc.kept hkc) hf).kept (keptC_set hp1 (by decide))
end
theorem lines_fwd {s : ByteArray} {lines : List ByteArray} (h : lines.map bL = cutW 10 (bL s)) {p0 : PolD} (hok : PolOk p0) (hf : polF p0 = 0) (hs : bL s = polT p0) :
  lines.length = p0.rules.length + 2 ∧ (∀ x, lines[0]? = some x → cutW 32 (bL x) = wElse :: (actW p0.kind p0.errno ++ [])) ∧ (ActRd p0.kind p0.errno ∧ p0.errno ≤ 255) ∧
   ∀ i x, lines[i + 1]? = some x → i < p0.rules.length → ∃ r, p0.rules[i]? = some r ∧ cutW 32 (bL x) = ruleW r ∧ RuleRd r ∧ r.errno ≤ 255 := by
 obtain ⟨h12, ha, hr⟩ := polF_zero hf; have he : ∀ {k e : Int}, actF k e = 0 → e ≤ 255 := fun {k e} h => by rcases actF_cases h with ⟨_, h⟩ | ⟨_, h⟩ | ⟨_, _, h⟩ <;> omega
 rw [hs, cut_pol hf] at h; have hlen := congrArg List.length h; simp only [List.length_map, linesP, List.length_cons, List.length_append, List.length_nil] at hlen; have hat : ∀ i x, lines[i]? = some x → (linesP p0)[i]? = some (bL x) := fun i x hx => by rw [← h, List.getElem?_map, hx]; rfl
 refine ⟨by omega, fun x hx => ?_, ⟨actRd_of ha, he ha⟩, fun i x hx hi => ?_⟩
 ·have := hat 0 x hx; simp only [linesP, List.getElem?_cons_zero, Option.some.injEq] at this; rw [← this, cut_else, List.append_nil]
 ·have := hat (i + 1) x hx; simp only [linesP, List.getElem?_cons_succ] at this; rw [List.getElem?_append_left (by simp; exact hi), List.getElem?_map] at this; obtain ⟨r, hr1, hr2⟩ := Option.map_eq_some_iff.1 this; have hm := List.mem_of_getElem? hr1; have hrf := hr r hm; exact ⟨r, hr1, by rw [← hr2, cut_line hrf], ruleRd_of (hok r hm) hrf, he (ruleF_zero hrf).2.2.2.2⟩
def ParseA (s : ByteArray) (w : World) (e : Ending) (w' : World) : Prop :=
 Below w.heap.size w w' ∧ ((8000 < s.size ∧ e = .returned (.tuple #[.agg zero3, .iface 105 (.int .i64 2)])) ∨ (s.size ≤ 8000 ∧ ReadP (bL s) none ∧ e = .returned (.tuple #[.agg zero3, .iface 105 (.int .i64 4)])) ∨
  (s.size ≤ 8000 ∧ ∃ (p : PolD) (A : Option Addr) (c : Nat) (xs : List Value), ReadP (bL s) (some p) ∧ e = .returned (.tuple #[.agg #[.slice A p.rules.length c, .int .i64 p.kind, .int .i64 p.errno], .nilIface]) ∧ w'.ownsRow w.heap.size 41 4 (.slice A p.rules.length c) p.rules.length xs ∧ RulesOwnB w' w.heap.size p.rules xs))
end Go.Proofs.YtmgngapkgcofnabGreatDoor
