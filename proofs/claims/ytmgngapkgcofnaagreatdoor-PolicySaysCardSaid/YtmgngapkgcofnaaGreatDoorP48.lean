/- The reference's text of a policy: the walk. -/
import Derived.Test.YtmgngapkgcofnaaGreatDoorP47
import Derived.Test.YtmgngapkgcofnaaGreatDoorP34
import Derived.Deep.RegionWith
import Derived.Deep.DeepCutAuto
namespace Go.Proofs.YtmgngapkgcofnaaGreatDoor
open Go.RowKit

set_option linter.unusedSimpArgs false in
set_option maxRecDepth 100000 in
set_option maxHeartbeats 4000000 in
theorem refPolText_any (v : Value) (p : PolD) (w : World) (h : PolAt w w.heap.size v p) (hok : PolOk p) (hf : polF p = 0) :
    Calls Tryz.prog 18 #[v] w fun e w' => e = .returned (.string ⟨(polT p).toArray⟩) ∧ Below w.heap.size w w' := by
  obtain ⟨A, cp, rfl, hr⟩ := h
  obtain ⟨A1, cp1, hA, hr⟩ := hr
  obtain ⟨rfl, rfl⟩ : A = A1 ∧ cp = cp1 := by simpa using hA
  clear hA
  obtain ⟨rules, pk, pe⟩ := p
  simp only at hr ⊢
  have HR := Lib.hid hr
  have HRS : Hid (∀ (i : Nat) r, rules[i]? = some r → RuleSm r) := fun i r hi => by
    have hm := List.mem_of_getElem? hi
    obtain ⟨_, _, h3⟩ := polF_zero hf
    exact ruleSm_of (hok r hm) (h3 r hm)
  obtain ⟨hr12, hact, _⟩ := polF_zero hf
  have HPT : Hid (polT ⟨rules, pk, pe⟩ = elseT ⟨rules, pk, pe⟩ ++ rulesT rules) := polT_text _
  have hel := elseT_len (p := ⟨rules, pk, pe⟩) hact
  have HEL : Hid (elseT ⟨rules, pk, pe⟩ = [101, 108, 115, 101, 32] ++ joinW 32 (actW pk pe) ++ [10]) := rfl
  have HAT : Hid (∀ W : World, Calls Tryz.prog 39 #[.agg #[.int .i64 pk, .int .i64 pe]] W fun e' w' => e' = .returned (.string ⟨(joinW 32 (actW pk pe)).toArray⟩) ∧ Below W.heap.size W w') := fun W => refActionText_any pk pe W hact
  have hal := act_len hact
  have HB3 := Lib.hid (box3 w (.slice A rules.length cp) (.int .i64 pk) (.int .i64 pe) 27)
  have HAB := Lib.hid (above w (.cells #[.slice A rules.length cp, .int .i64 pk, .int .i64 pe] 27))
  clear hf hr hok hact
  generalize polT ⟨rules, pk, pe⟩ = PT at *
  generalize elseT ⟨rules, pk, pe⟩ = ET at *
  generalize joinW 32 (actW pk pe) = AT at *
  have hlE : ET.length ≤ 31 := hel
  have HSE : Hid ((⟨ET.toArray⟩ : ByteArray) = ⟨#[101, 108, 115, 101, 32]⟩ ++ ⟨AT.toArray⟩ ++ ⟨#[10]⟩) := by
    show _ = _
    rw [HEL.out, ← bstr_app, ← bstr_app]
  have g1 : ¬ 9223372036854775807 < 5 + AT.length := by omega
  have g2 : ¬ 9223372036854775807 < 5 + AT.length + 1 := by omega
  have hcv : ∀ W : World, (convert 88 9 (.slice (some ⟨W.heap.size, 0, none⟩) 1 1)).run Tryz.prog (W.alloc (.cells #[.int .u8 10] 5)) = .ok (.string ⟨#[10]⟩) (W.alloc (.cells #[.int .u8 10] 5)) := fun W => conv_one 10 (heap_alloc_new _ _)
  have hcvd : ∀ W : World, (convert 88 9 (.slice (some ⟨W.heap.size, 0, none⟩) 1 1)).run Tryz.prog (W.alloc (.cells #[.int .u8 10] 5)).drew = .ok (.string ⟨#[10]⟩) (W.alloc (.cells #[.int .u8 10] 5)).drew := fun W => conv_one 10 (heap_alloc_new W _)
  go_enter Tryz.func18, Tryz.ntmps18
  go_upto_region 1 with fail
  have HW0 : Hid (∀ W, W = w.alloc (.cells #[.slice A rules.length cp, .int .i64 pk, .int .i64 pe] 27) → Below (w.alloc (.cells #[.slice A rules.length cp, .int .i64 pk, .int .i64 pe] 27)).heap.size (w.alloc (.cells #[.slice A rules.length cp, .int .i64 pk, .int .i64 pe] 27)) W) := fun W h => by subst h; exact Below.refl _ _
  have hb00 := HW0.out _ rfl
  generalize w.alloc (.cells #[.slice A rules.length cp, .int .i64 pk, .int .i64 pe] 27) = W0 at *
  obtain ⟨c0, c1, c2⟩ := HB3.out W0 hb00
  have hws : w.heap.size < W0.heap.size := lt_of_cell c0
  clear hb00 HW0
  go_cut [3] (fun sv wx => sv = .string ⟨ET.toArray⟩ ∧ Hid (Below W0.heap.size W0 wx))
  case first =>
    go_region_with (first
      | (go_at_call 39; refine cargs (by simp) ((HAT.out _).mono ?_); rintro e w1 ⟨rfl, hb1⟩; have hx1 := conv_one 10 (W := w1) (b := W0.heap.size) ((hb1.block _ (by simp)).trans (heap_alloc_new W0 _)); have HB1 : Hid (Below W0.heap.size W0 w1) := ((Below.refl W0.heap.size W0).alloc (Nat.le_refl _) (.cells #[.int .u8 10] 5)).trans (Below.mono (B' := W0.heap.size) ⟨hb1.os, hb1.tape, hb1.output, hb1.size, hb1.block⟩ (by simp)); clear hb1)
      | (go_at_call 39; refine cargs (by simp) ((HAT.out _).mono ?_); rintro e w1 ⟨rfl, hb1⟩; have HB1 : Hid (Below W0.heap.size W0 w1) := (by first | exact hb1 | exact (Below.refl _ _).drew.trans hb1); clear hb1))
    all_goals
      go_wp2_with fail
      go_meet
      exact ⟨by rw [HSE.out], by first | exact HB1 | exact HB1.out.alloc HB1.out.size _ | exact (HB1.out.alloc HB1.out.size _).drew⟩
  case rest =>
    obtain ⟨rfl, HBC⟩ := hcut
    clear hcv hcvd g1 g2 HSE HEL HAT hal c0 c1 c2
    have HIE : Hid ((⟨ET.toArray⟩ : ByteArray) = ⟨(ET ++ rulesT (rules.take 0)).toArray⟩) := by show _ = _; simp [rulesT]
    go_wp2_with fail
    go_loopw [3, 4] (fun sv iv wr => ∃ i : Nat, i ≤ rules.length ∧ iv = .int .i64 i ∧ sv = .string ⟨(ET ++ rulesT (rules.take i)).toArray⟩ ∧ Hid (Below W0.heap.size W0 wr)) (fun _ iv _ => rules.length - (intOf iv).toNat)
    case atStart => exact ⟨0, Nat.zero_le _, rfl, by rw [HIE.out], HBC⟩
    case round =>
      clear HIE HBC
      obtain ⟨i, hi, rfl, rfl, HI⟩ := hrel
      obtain ⟨wo, rfl⟩ : ∃ wo : World, wo = wr := ⟨_, rfl⟩
      obtain ⟨c0, c1, c2⟩ := HB3.out wo HI.out
      by_cases hlt : i < rules.length
      · have x2 : (i : Int) < (rules.length : Int) := by omega
        have x3 : (0 : Int) ≤ (i : Int) := by omega
        have hli : rules[i]? = some rules[i] := by simp
        have hbo := HAB.out wo HI.out
        obtain ⟨b, o, rfl, hb, hrow⟩ := HR.out.resolve_left (by intro e; rw [e] at hlt; simp at hlt)
        obtain ⟨A', c', hcs, hrg⟩ := hrow i _ hli
        have hrg2 := rangeAt_below hrg hbo hb
        have HCS := Lib.hid hcs
        have HSM := HRS.out i _ hli
        have HNX : Hid (ET ++ rulesT (rules.take (i + 1)) = ET ++ rulesT (rules.take i) ++ ruleT rules[i]) := by
          show _ = _
          rw [take_next hli, rulesT_snoc, List.append_assoc]
        have hLl : (ET ++ rulesT (rules.take i)).length ≤ 50000 := by
          have h1 := rulesT_len (rules.take i) (fun r hr => by
            obtain ⟨k, hk⟩ := List.getElem?_of_mem (List.mem_of_mem_take hr)
            exact HRS.out k r hk)
          have h2 : (rules.take i).length ≤ 12 := by simp only [List.length_take]; omega
          simp only [List.length_append]
          omega
        clear hcs hrg hrow hli
        generalize rules[i] = R at *
        obtain ⟨nr, conds, rk, re⟩ := R
        obtain ⟨ha, hn, hfew, hcon⟩ := HSM
        simp only at hrg2 HCS ha hn hfew hcon
        obtain ⟨n, rfl⟩ : ∃ n : Nat, nr = n := ⟨nr.toNat, by omega⟩
        have HRT : Hid (ruleT ⟨(n : Int), conds, rk, re⟩ = joinW 32 (actW rk re) ++ [32] ++ nameW n ++ condsT 0 conds ++ [10]) := rfl
        rw [HRT.out] at HNX
        have HAT : Hid (∀ W : World, Calls Tryz.prog 39 #[.agg #[.int .i64 rk, .int .i64 re]] W fun e' w' => e' = .returned (.string ⟨(joinW 32 (actW rk re)).toArray⟩) ∧ Below W.heap.size W w') := fun W => refActionText_any rk re W ha
        have hal2 := act_len ha
        have hnl := name_len n (by omega)
        have HNM : Hid (nameW n = (formName n).data.toList) := rfl
        have hns : (formName n).size = (nameW n).length := by unfold nameW; simp
        have hix := fun w : World => nameIdx n (by omega) w
        have HCNM := Lib.hid (fun W : World => callNames_any W)
        have HCN := Lib.hid hcon
        rw [Int.toNat_natCast] at HCN
        have f0 : wo.cell? ⟨b, o + i * 4, none⟩ = some (.int .i64 (n : Int)) := hrg2 0 _ rfl
        have f1 := hrg2 1 _ rfl
        have f2 := hrg2 2 _ rfl
        have f3 := hrg2 3 _ rfl
        clear hrg2 hcon HRT ha hbo
        generalize joinW 32 (actW rk re) = AT at *
        generalize nameW n = NM at *
        generalize formName n = FN at *
        generalize ET ++ rulesT (rules.take i) = L at *
        have HC4 := Lib.hid (cell4 wo (.int .i64 (n : Int)) (.slice A' conds.length c') (.int .i64 rk) (.int .i64 re) 73)
        have HB4 : Hid (Below W0.heap.size W0 (wo.alloc (.cells #[.int .i64 (n : Int), .slice A' conds.length c', .int .i64 rk, .int .i64 re] 73))) := HI.out.alloc HI.out.size _
        go_upto_region 6 with fail
        generalize wo.alloc (.cells #[.int .i64 (n : Int), .slice A' conds.length c', .int .i64 rk, .int .i64 re] 73) = W4 at *
        clear f0 f1 f2 f3
        obtain ⟨k0, k1, k2, k3⟩ := HC4.out W4 (Below.refl _ _)
        have r0 := cell_regrown k0
        have r2 := cell_regrown k2
        have r3 := cell_regrown k3
        have HBQ : Hid (∀ (d : Nat) (os : Array Obj), Below W4.heap.size W4 (Go.Sort.grow (redrawn W4 d) os)) := fun d os => below_regrown W4 d os
        have cAT := fun d os => Calls.regrown_of (HAT.out (Go.Sort.grow (redrawn W4 d) os))
        have cNM := fun d os => Calls.regrown_of (HCNM.out (Go.Sort.grow (redrawn W4 d) os))
        have HDS : Hid ((⟨(L ++ (AT ++ [32] ++ NM)).toArray⟩ : ByteArray) = ⟨L.toArray⟩ ++ ⟨AT.toArray⟩ ++ ⟨#[32]⟩ ++ FN) := by
          show _ = _
          have e1 : (⟨#[32]⟩ : ByteArray) = ⟨([32] : List UInt8).toArray⟩ := rfl
          rw [gstr FN, ← HNM.out, e1]
          simp only [bstr_app, List.append_assoc]
        have HDl : Hid ((AT ++ [32] ++ NM).length ≤ 50) := by show _ ≤ _; simp only [List.length_append, List.length_cons, List.length_nil]; omega
        have g3 : ¬ 9223372036854775807 < L.length + AT.length := by omega
        have g4 : ¬ 9223372036854775807 < L.length + AT.length + 1 := by omega
        have g5 : ¬ 9223372036854775807 < L.length + AT.length + 1 + FN.size := by omega
        have HLl := Lib.hid hLl
        clear hLl hal2 hnl hns
        refine wp_region_quiet_below (by kernel_rfl) (by kernel_rfl) ?_
        repeat (go_big_quiet_step (first | (go_at_call 39; exact cAT _ _) | (go_at_call 40; exact cNM _ _)))
        refine wpQuiet_nil ?_
        intro _ hw'
        obtain ⟨pq, hw''⟩ := hw'
        subst hw''
        have HB5 : Hid (Below W0.heap.size W0 (Go.Sort.grow (redrawn W4 pq.d) pq.os)) := HB4.out.trans ((HBQ.out pq.d pq.os).mono HB4.out.size)
        have HC5 := Lib.hid (fun W hb => HC4.out W ((HBQ.out pq.d pq.os).trans (Below.mono (B' := W4.heap.size) hb (HBQ.out pq.d pq.os).size)))
        obtain ⟨LD, HLD⟩ : ∃ LD, Hid (LD = L ++ (AT ++ [32] ++ NM)) := ⟨L ++ (AT ++ [32] ++ NM), rfl⟩
        have HLDl : Hid (LD.length ≤ 60000) := by show _ ≤ _; rw [HLD.out, List.length_append]; have := HLl.out; have := HDl.out; omega
        have HS0 : Hid ((⟨L.toArray⟩ : ByteArray) ++ ⟨AT.toArray⟩ ++ ⟨#[32]⟩ ++ FN = ⟨(LD ++ condsT 0 (conds.take 0)).toArray⟩) := by
          show _ = _
          rw [← HDS.out, HLD.out]
          simp [condsT]
        clear HB4 HC4 HBQ cAT cNM r0 r2 r3 k0 k1 k2 k3 HDS HDl HLl g3 g4 g5 HAT HCNM hix HNM HI c0 c1 c2
        generalize Go.Sort.grow (redrawn W4 pq.d) pq.os = W5 at *
        go_wp2_with fail
        go_loopw [3, 6] (fun sv jv wr => ∃ j : Nat, j ≤ conds.length ∧ jv = .int .i64 j ∧ sv = .string ⟨(LD ++ condsT 0 (conds.take j)).toArray⟩ ∧ Hid (Below W5.heap.size W5 wr)) (fun _ jv _ => conds.length - (intOf jv).toNat)
        case atStart => exact ⟨0, Nat.zero_le _, rfl, by rw [HS0.out], Below.refl _ _⟩
        case round =>
          clear HS0
          obtain ⟨j, hj, rfl, rfl, HJ⟩ := hrel
          obtain ⟨_, d1, _, _⟩ := HC5.out wr HJ.out
          have HJ0 : Hid (Below W0.heap.size W0 wr) := HB5.out.trans (HJ.out.mono HB5.out.size)
          by_cases hjl : j < conds.length
          · have y2 : (j : Int) < (conds.length : Int) := by omega
            have y3 : (0 : Int) ≤ (j : Int) := by omega
            have hlk : conds[j]? = some conds[j] := by simp
            have hbr := HAB.out wr HJ0.out
            obtain ⟨hcok, A2, c2, hA2, hrw⟩ := HCS.out.below hbr (Nat.le_refl _)
            obtain ⟨rfl, rfl⟩ : A' = A2 ∧ c' = c2 := by simpa using hA2
            obtain ⟨b2, o2, rfl, hb2, hrow2⟩ := hrw.resolve_left (by intro e; rw [e] at hjl; simp at hjl)
            have hr9 := hrow2 j _ hlk
            obtain ⟨hsm, hck, hcf⟩ := HCN.out conds[j] (by simp)
            have HNJ : Hid (LD ++ condsT 0 (conds.take (j + 1)) = LD ++ condsT 0 (conds.take j) ++ ((if j = 0 then [32, 105, 102, 32] else [32, 97, 110, 100, 32]) ++ ctL conds[j])) := by
              show _ = _
              rw [take_next hlk, condsT_snoc, List.append_assoc]
              have : 0 + (conds.take j).length = j := by simp; omega
              rw [this]
            have hcl := ctL_len hsm
            have hLj : (LD ++ condsT 0 (conds.take j)).length ≤ 70000 := by
              have h1 := condsT_len (conds.take j) 0 (fun x hx => (HCN.out x (List.mem_of_mem_take hx)).1)
              have h2 : (conds.take j).length ≤ 4 := by simp only [List.length_take]; omega
              have h3 := HLDl.out
              simp only [List.length_append]
              omega
            have HCT : Hid (∀ W : World, Calls Tryz.prog 41 #[conds[j].val] W fun e w' => e = .returned (.string ⟨(ctL conds[j]).toArray⟩) ∧ Below W.heap.size W w') := fun W => refCondText_any n _ W hck hcf
            clear hcok hA2 hrw hrow2 hlk hsm hck hcf hbr
            generalize conds[j] = CC at *
            obtain ⟨arg, op, v, m, glob, ⟨ip, bits, lo, hi'⟩⟩ := CC
            have e0 : wr.cell? ⟨b2, o2 + j * 9, none⟩ = some (.int .i64 arg) := hr9 0 _ rfl
            have e1 := hr9 1 _ rfl
            have e2 := hr9 2 _ rfl
            have e3 := hr9 3 _ rfl
            have e4 := hr9 4 _ rfl
            have e5 := hr9 5 _ rfl
            have e6 := hr9 6 _ rfl
            have e7 := hr9 7 _ rfl
            have e8 := hr9 8 _ rfl
            simp only at e1 e2 e3 e4 e5 e6 e7 e8
            unfold CondD.val at HCT
            simp only at HCT
            generalize ctL ⟨arg, op, v, m, glob, ⟨ip, bits, lo, hi'⟩⟩ = CT at *
            generalize LD ++ condsT 0 (conds.take j) = LJ at *
            have HBR : Hid (∀ W : World, Below wr.heap.size wr W → Below W5.heap.size W5 W) := fun W hb => HJ.out.trans (hb.mono HJ.out.size)
            have z4 : ¬ 9223372036854775807 < LJ.length + 4 := by omega
            have z5 : ¬ 9223372036854775807 < LJ.length + 5 := by omega
            have z6 : ¬ 9223372036854775807 < LJ.length + 4 + CT.length := by omega
            have z7 : ¬ 9223372036854775807 < LJ.length + 5 + CT.length := by omega
            clear hr9 hLj hcl
            by_cases hj0 : j = 0
            · have t0 : ((j : Int) == 0) = true := by rw [hj0]; rfl
              have HNJ2 : Hid ((⟨(LD ++ condsT 0 (conds.take (j + 1))).toArray⟩ : ByteArray) = ⟨LJ.toArray⟩ ++ ⟨#[32, 105, 102, 32]⟩ ++ ⟨CT.toArray⟩) := by
                show _ = _
                rw [HNJ.out, if_pos hj0, ← List.append_assoc, ← bstr_app, ← bstr_app]
              clear HNJ hj0
              go_upto_region 13 with fail
              go_wp2_with (go_at_call 41; refine cargs (by simp) ((HCT.out _).mono ?_); rintro e w6 ⟨rfl, hb6⟩; have HB6 := Lib.hid (HBR.out w6 hb6); clear hb6)
              go_roundw
              case rel => exact ⟨j + 1, by omega, by go_num, by rw [HNJ2.out], HB6⟩
              case measure => simp [intOf]; omega
            · have t0 : ((j : Int) == 0) = false := by simp; omega
              have HNJ2 : Hid ((⟨(LD ++ condsT 0 (conds.take (j + 1))).toArray⟩ : ByteArray) = ⟨LJ.toArray⟩ ++ ⟨#[32, 97, 110, 100, 32]⟩ ++ ⟨CT.toArray⟩) := by
                show _ = _
                rw [HNJ.out, if_neg hj0, ← List.append_assoc, ← bstr_app, ← bstr_app]
              clear HNJ hj0
              go_upto_region 13 with fail
              go_wp2_with (go_at_call 41; refine cargs (by simp) ((HCT.out _).mono ?_); rintro e w6 ⟨rfl, hb6⟩; have HB6 := Lib.hid (HBR.out w6 hb6); clear hb6)
              go_roundw
              case rel => exact ⟨j + 1, by omega, by go_num, by rw [HNJ2.out], HB6⟩
              case measure => simp [intOf]; omega
          · obtain rfl : j = conds.length := by omega
            have hcv : ∀ W : World, (convert 88 9 (.slice (some ⟨W.heap.size, 0, none⟩) 1 1)).run Tryz.prog (W.alloc (.cells #[.int .u8 10] 5)) = .ok (.string ⟨#[10]⟩) (W.alloc (.cells #[.int .u8 10] 5)) := fun W => conv_one 10 (heap_alloc_new _ _)
            have HNL : Hid ((⟨(ET ++ rulesT (rules.take (i + 1))).toArray⟩ : ByteArray) = ⟨(LD ++ condsT 0 (conds.take conds.length)).toArray⟩ ++ ⟨#[10]⟩) := by
              show _ = _
              have e : ET ++ rulesT (rules.take (i + 1)) = (LD ++ condsT 0 (conds.take conds.length)) ++ [10] := by rw [HNX.out, List.take_length, HLD.out]; simp
              rw [e, ← bstr_app]
            have hLj : (LD ++ condsT 0 (conds.take conds.length)).length ≤ 70000 := by
              rw [List.take_length]
              have h1 := condsT_len conds 0 (fun x hx => (HCN.out x hx).1)
              have h3 := HLDl.out
              simp only [List.length_append]
              omega
            generalize LD ++ condsT 0 (conds.take conds.length) = LJ at *
            have z4 : ¬ 9223372036854775807 < LJ.length + 1 := by omega
            clear hLj HNX HLD
            go_wp2_with fail
            go_roundw
            case rel => exact ⟨i + 1, by omega, by go_num, by rw [HNL.out], HJ0.out.alloc HJ0.out.size _⟩
            case measure => simp [intOf]; omega
      · obtain rfl : i = rules.length := by omega
        have HFT : Hid ((⟨(ET ++ rulesT (rules.take rules.length)).toArray⟩ : ByteArray) = ⟨PT.toArray⟩) := by show _ = _; rw [List.take_length, ← HPT.out]
        have HBF := Lib.hid (HAB.out wo HI.out)
        generalize ET ++ rulesT (rules.take rules.length) = L at *
        go_wp2_with fail
        go_returns
        exact ⟨by rw [HFT.out]; rfl, HBF.out⟩
end Go.Proofs.YtmgngapkgcofnaaGreatDoor
