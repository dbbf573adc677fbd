/- The law AddrSays: the walk. -/
import Derived.Test.YtmgngapkgcofnaaDoorAddrR
import Derived.Test.YtmgngapkgcofnaaDoorNetOf
namespace Go.Proofs.YtmgngapkgcofnaaDoor
open Go.RowKit Go.PlainAid

def net0 : NetD := ⟨167772160, 8, 80, 90⟩
theorem net0_ok : net0.ok := by refine ⟨⟨by decide, by decide⟩, by decide, by decide, by decide⟩
theorem net0_F : netF net0 = 0 := by decide
theorem net0_text : textN net0 = [49, 48, 46, 48, 46, 48, 46, 48, 47, 56, 58, 56, 48, 45, 57, 48] := by
  have e : partsN net0 = [10, 0, 0, 0, 8, 80, 90] := by decide
  unfold textN
  rw [e]
  simp only [sepsN, joinT]
  rw [Lib.decDigits_two (i := 10) (by omega) (by omega), decDigits_small (u := 0) (by omega), decDigits_small (u := 8) (by omega), Lib.decDigits_two (i := 80) (by omega) (by omega), Lib.decDigits_two (i := 90) (by omega) (by omega)]
  decide
theorem hasN1 : hasN net0 167772165 85 = true := by decide
theorem hasN2 : hasN net0 184549381 85 = false := by decide
set_option linter.unusedSimpArgs false in
set_option maxRecDepth 100000 in
set_option maxHeartbeats 4000000 in
theorem nets_any (w : World) : Calls Tryd.prog 10 #[] w fun e w' => e = .returned (.bool true) ∧ Below w.heap.size w w' := by
  have HPA : Hid (∀ w, Calls Tryd.prog 17 #[.string ⟨#[49, 48, 46, 48, 46, 48, 46, 48, 47, 56, 58, 56, 48, 45, 57, 48]⟩] w fun e w' => e = .returned (.tuple #[.agg #[.int .u32 167772160, .int .i64 8, .int .i64 80, .int .i64 90], .nilIface]) ∧ Below w.heap.size w w') := fun w => (parse_any ⟨#[49, 48, 46, 48, 46, 48, 46, 48, 47, 56, 58, 56, 48, 45, 57, 48]⟩ w (by decide)).mono fun e w' ⟨r, h1, h2, h3⟩ => by
    have hr : r = some net0 := ReadN.same h1 (show ReadN _ (some net0) from ⟨net0_ok, net0_F, net0_text.symm⟩)
    subst hr
    exact ⟨h2, h3⟩
  have HH1 : Hid (∀ w, Calls Tryd.prog 15 #[.agg #[.int .u32 167772160, .int .i64 8, .int .i64 80, .int .i64 90], .int .u32 167772165, .int .i64 85] w fun e w' => e = .returned (.bool true) ∧ Below w.heap.size w w') := fun w => by
    have := has_any net0 167772165 85 w net0_ok (by omega)
    rw [hasN1] at this; exact this
  have HH2 : Hid (∀ w, Calls Tryd.prog 15 #[.agg #[.int .u32 167772160, .int .i64 8, .int .i64 80, .int .i64 90], .int .u32 184549381, .int .i64 85] w fun e w' => e = .returned (.bool false) ∧ Below w.heap.size w w') := fun w => by
    have := has_any net0 184549381 85 w net0_ok (by omega)
    rw [hasN2] at this; exact this
  have HSM : Hid (∀ w, Calls Tryd.prog 5 #[.nilIface, .int .i64 0] w fun e w' => e = .returned (.bool true) ∧ w = w') := fun w => same_any 0 0 w (by omega)
  go_enter Tryd.func10, Tryd.ntmps10
  go_upto_region 2 with (go_at_call 17; refine cargs (by simp [Act.eval]) ((HPA.out _).mono ?_); rintro e w1 ⟨rfl, hb1⟩; have HB1 := Lib.hid hb1; clear hb1)
  have HC4 := Lib.hid (box_cells w1 (.int .u32 167772160) (.int .i64 8) (.int .i64 80) (.int .i64 90) 39)
  have HB0 : Hid (Below w.heap.size w (w1.alloc (.cells #[.int .u32 167772160, .int .i64 8, .int .i64 80, .int .i64 90] 39))) := HB1.out.alloc HB1.out.size _
  generalize w1.alloc (.cells #[.int .u32 167772160, .int .i64 8, .int .i64 80, .int .i64 90] 39) = W0 at *
  obtain ⟨c0, c1, c2, c3⟩ := HC4.out W0 (Below.refl _ _)
  go_wp2_with (first
    | (go_at_call 5; refine cargs (by simp [Act.eval]) ((HSM.out _).mono ?_); rintro e w2 ⟨rfl, rfl⟩)
    | (go_at_call 15; refine cargs (by first | (simp [Act.eval]; done) | fail) ((HH1.out _).mono ?_); rintro e w3 ⟨rfl, hb3⟩; have HB3 := Lib.hid hb3; obtain ⟨d0, d1, d2, d3⟩ := HC4.out w3 hb3; clear hb3)
    | (go_at_call 15; refine cargs (by first | (simp [Act.eval]; done) | fail) ((HH2.out _).mono ?_); rintro e w4 ⟨rfl, hb4⟩; have HB4 := Lib.hid hb4; clear hb4))
  go_returns
  exact ⟨rfl, HB0.out.trans ((HB3.out.trans (HB4.out.mono HB3.out.size)).mono HB0.out.size)⟩

theorem readN_ex (l : List UInt8) : ∃ r, ReadN l r := by
  by_cases h : ∃ x : NetD, x.ok ∧ netF x = 0 ∧ l = textN x
  · obtain ⟨x, hx⟩ := h; exact ⟨some x, hx⟩
  · exact ⟨none, fun x h1 h2 h3 => h ⟨x, h1, h2, h3⟩⟩
theorem rg_same {P : Program} {f : FuncId} {args : Array Value} {W0 : World} {v : Value} {d : Nat} {os : Array Obj} (h : Calls P f args (Go.Sort.grow (redrawn W0 d) os) fun e w' => e = .returned v ∧ Go.Sort.grow (redrawn W0 d) os = w') : Calls P f args (Go.Sort.grow (redrawn W0 d) os) fun e w'' => e = .returned v ∧ ∃ p : Regrown, w'' = Go.Sort.grow (redrawn W0 p.d) p.os :=
  h.mono fun _ _ h => ⟨h.1, ⟨⟨d, os⟩, h.2.symm⟩⟩
set_option linter.unusedSimpArgs false in
set_option maxRecDepth 100000 in
set_option maxHeartbeats 8000000 in
theorem addrSays_walk (x : NetD) (s : ByteArray) (ip : Nat) (port : Int) (b : ByteArray) (w : World) (hok : x.ok) (hip : ip < 4294967296) (htab : Lib.TabIs Tryd.prog w "internal/strconv.uint64pow10" .u64 Lib.pow10Tab) :
    Calls Tryd.prog 4 #[x.v, .string s, .int .u32 ip, .int .i64 port, .string b] w fun e w' => e = .returned (.bool true) ∧ Below w.heap.size w w' := by
  have HTB := Lib.hid (tab_below htab)
  clear htab
  have HNF : Hid (∀ w, Calls Tryd.prog 11 #[x.v] w fun e' w' => e' = .returned (.int .i64 (netF x)) ∧ Below w.heap.size w w') := fun w => refNet_any x w hok
  have HCK : Hid (∀ w, Calls Tryd.prog 13 #[x.v] w fun e' w' => e' = .returned (errV (netF x)) ∧ Below w.heap.size w w') := fun w => netCheck_any x w hok
  have HTX : Hid (∀ W, Below w.heap.size w W → Calls Tryd.prog 12 #[x.v] W fun e w' => e = .returned (.tuple #[.string ⟨(if netF x = 0 then textN x else []).toArray⟩, errV (netF x)]) ∧ Below W.heap.size W w') := fun W hb => text_any x W hok (HTB.out W hb)
  have HHA : Hid (∀ w, Calls Tryd.prog 15 #[x.v, .int .u32 ip, .int .i64 port] w fun e w' => e = .returned (.bool (hasN x ip port)) ∧ Below w.heap.size w w') := fun w => has_any x ip port w hok hip
  have HHB : Hid (∀ w, Calls Tryd.prog 16 #[x.v, .int .u32 ip, .int .i64 port] w fun e w' => e = .returned (.bool (hasN x ip port)) ∧ Below w.heap.size w w') := fun w => hasNet_any x ip port w hok hip
  have HSF : Hid (∀ w, Calls Tryd.prog 5 #[errV (netF x), .int .i64 (netF x)] w fun e w' => e = .returned (.bool true) ∧ w = w') := fun w => by
    have := same_any (netF x) (netF x) w (netF_ge x)
    rw [decide_eq_true rfl] at this; exact this
  have HNT : Hid (netF x = 0 → ∀ w, Calls Tryd.prog 14 #[x.v] w fun e w' => e = .returned (.string ⟨(textN x).toArray⟩) ∧ Below w.heap.size w w') := fun hf w => refText_any x w hok hf
  have HNG := netF_ge x
  generalize hasN x ip port = H at *
  obtain ⟨xip, xb, xlo, xhi⟩ := x
  have HC4 := Lib.hid (box_cells w (.int .u32 xip) (.int .i64 xb) (.int .i64 xlo) (.int .i64 xhi) 39)
  have HAB := Lib.hid (box_below w (.cells #[.int .u32 xip, .int .i64 xb, .int .i64 xlo, .int .i64 xhi] 39))
  unfold NetD.v at *
  simp only at *
  by_cases h1 : 100 < s.size
  · have h1' : (100 : Int) < (s.size : Int) := by omega
    clear HNF HCK HTX HHA HHB HSF HNT HNG h1
    go_enter Tryd.func4, Tryd.ntmps4
    go_wp2_with (go_at_call 10; refine cargs (by simp [Act.eval]) ((nets_any _).mono ?_); rintro e w1 ⟨rfl, hb1⟩; have HB1 := Lib.hid hb1; clear hb1)
    go_returns
    exact ⟨rfl, HAB.out _ HB1.out⟩
  · have h1' : ¬ (100 : Int) < (s.size : Int) := by omega
    by_cases h2 : 100 < b.size
    · have h2' : (100 : Int) < (b.size : Int) := by omega
      clear HNF HCK HTX HHA HHB HSF HNT HNG h1 h2
      go_enter Tryd.func4, Tryd.ntmps4
      go_wp2_with (go_at_call 10; refine cargs (by simp [Act.eval]) ((nets_any _).mono ?_); rintro e w1 ⟨rfl, hb1⟩; have HB1 := Lib.hid hb1; clear hb1)
      go_returns
      exact ⟨rfl, HAB.out _ HB1.out⟩
    · have h2' : ¬ (100 : Int) < (b.size : Int) := by omega
      have HPA : Hid (∀ w, Calls Tryd.prog 17 #[.string s] w fun e w' => ∃ r, ReadN s.data.toList r ∧ e = .returned (.tuple #[(netV r).1, (netV r).2]) ∧ Below w.heap.size w w') := fun w => parse_any s w (by omega)
      have HNO : Hid (∀ w, Calls Tryd.prog 18 #[.string s] w fun e w' => ∃ r : Option NetD, ReadN s.data.toList r ∧ e = .returned (.tuple #[(netV r).1, .bool r.isSome]) ∧ Below w.heap.size w w') := fun w => netOf_any s w (by omega)
      clear h1 h2
      have HIP := Lib.hid hip
      have HBYT : Hid (∀ w, Calls Tryd.prog 19 #[.int .u32 ip, .int .i64 port] w fun e w' => e = .returned (if port < 0 ∨ 65535 < port then .tuple #[.string ⟨#[]⟩, .iface 23 (.int .i64 1)] else .tuple #[.string ⟨(bytesA ip port.toNat).toArray⟩, .nilIface]) ∧ Below w.heap.size w w') := fun w => bytes_any ip port w hip
      have HRD : Hid (∀ w, Calls Tryd.prog 21 #[.string b] w fun e w' => e = readE (readA b) ∧ Below w.heap.size w w') := fun w => read_any b w
      have HRR : Hid (∀ w, Calls Tryd.prog 22 #[.string b] w fun e w' => e = readEr (readA b) ∧ Below w.heap.size w w') := fun w => refRead_any b w
      have HS00 : Hid (∀ w, Calls Tryd.prog 5 #[.nilIface, .int .i64 0] w fun e w' => e = .returned (.bool true) ∧ w = w') := fun w => same_any 0 0 w (by omega)
      have HS40 : Hid (∀ w, Calls Tryd.prog 5 #[.iface 23 (.int .i64 4), .int .i64 0] w fun e w' => e = .returned (.bool false) ∧ w = w') := fun w => same_any 4 0 w (by omega)
      have HS44 : Hid (∀ w, Calls Tryd.prog 5 #[.iface 23 (.int .i64 4), .int .i64 4] w fun e w' => e = .returned (.bool true) ∧ w = w') := fun w => same_any 4 4 w (by omega)
      have HS11 : Hid (∀ w, Calls Tryd.prog 5 #[.iface 23 (.int .i64 1), .int .i64 1] w fun e w' => e = .returned (.bool true) ∧ w = w') := fun w => same_any 1 1 w (by omega)
      have HS30 : Hid (∀ w, Calls Tryd.prog 5 #[.iface 23 (.int .i64 3), .int .i64 0] w fun e w' => e = .returned (.bool false) ∧ w = w') := fun w => same_any 3 0 w (by omega)
      have HS33 : Hid (∀ w, Calls Tryd.prog 5 #[.iface 23 (.int .i64 3), .int .i64 3] w fun e w' => e = .returned (.bool true) ∧ w = w') := fun w => same_any 3 3 w (by omega)
      by_cases hf : netF ⟨xip, xb, xlo, xhi⟩ = 0
      · skip
        have HNT2 := Lib.hid (HNT.out hf)
        rw [if_pos hf] at HTX
        rw [hf] at HNF HCK HTX HSF
        have HCK2 : Hid (∀ w, Calls Tryd.prog 13 #[.agg #[.int .u32 xip, .int .i64 xb, .int .i64 xlo, .int .i64 xhi]] w fun e' w' => e' = .returned .nilIface ∧ Below w.heap.size w w') := HCK.out
        have HSF2 : Hid (∀ w, Calls Tryd.prog 5 #[.nilIface, .int .i64 0] w fun e w' => e = .returned (.bool true) ∧ w = w') := HSF.out
        have HTX2 : Hid (∀ W, Below w.heap.size w W → Calls Tryd.prog 12 #[.agg #[.int .u32 xip, .int .i64 xb, .int .i64 xlo, .int .i64 xhi]] W fun e w' => e = .returned (.tuple #[.string ⟨(textN ⟨xip, xb, xlo, xhi⟩).toArray⟩, .nilIface]) ∧ Below W.heap.size W w') := HTX.out
        generalize textN ⟨xip, xb, xlo, xhi⟩ = T at *
        clear hf HNT HCK HTX HSF HNG hok
        go_enter Tryd.func4, Tryd.ntmps4
        go_upto_region 6 with (first
          | (go_at_call 10; refine cargs (by simp [Act.eval]) ((nets_any _).mono ?_); rintro e w1 ⟨rfl, hb1⟩; have HB1 := Lib.hid hb1; obtain ⟨c0, c1, c2, c3⟩ := HC4.out w1 hb1; clear hb1)
          | (go_at_call 11; refine cargs (by simp [Act.eval]) ((HNF.out _).mono ?_); rintro e w2 ⟨rfl, hb2⟩; have HB2 := Lib.hid (HB1.out.trans (hb2.mono HB1.out.size)); obtain ⟨d0, d1, d2, d3⟩ := HC4.out w2 HB2.out; clear hb2)
          | (go_at_call 12; refine cargs (by simp [Act.eval]) ((HTX2.out _ (HAB.out _ HB2.out)).mono ?_); rintro e w3 ⟨rfl, hb3⟩; have HB3 := Lib.hid (HB2.out.trans (hb3.mono HB2.out.size)); obtain ⟨g0, g1, g2, g3⟩ := HC4.out w3 HB3.out; clear hb3))
        have r0 := cell_regrown g0
        have r1 := cell_regrown g1
        have r2 := cell_regrown g2
        have r3 := cell_regrown g3
        have cCK := fun d os => Calls.regrown_of (HCK2.out (Go.Sort.grow (redrawn w3 d) os))
        have cSA := fun d os => rg_same (HSF2.out (Go.Sort.grow (redrawn w3 d) os))
        have cNT := fun d os => Calls.regrown_of (HNT2.out (Go.Sort.grow (redrawn w3 d) os))
        have cHA := fun d os => Calls.regrown_of (HHA.out (Go.Sort.grow (redrawn w3 d) os))
        have cHB := fun d os => Calls.regrown_of (HHB.out (Go.Sort.grow (redrawn w3 d) os))
        refine wp_region_quiet_below (by kernel_rfl) (by kernel_rfl) ?_
        repeat (quiet_step (first | exact cCK _ _ | exact cSA _ _ | exact cNT _ _ | exact cHA _ _ | exact cHB _ _))
        refine wpQuiet_nil ?_
        intro _ hw'
        obtain ⟨⟨dq, osq⟩, hw''⟩ := hw'
        subst hw''
        have hbq := below_regrown w3 dq osq
        have HB4 : Hid (Below (w.alloc (.cells #[.int .u32 xip, .int .i64 xb, .int .i64 xlo, .int .i64 xhi] 39)).heap.size (w.alloc (.cells #[.int .u32 xip, .int .i64 xb, .int .i64 xlo, .int .i64 xhi] 39)) (Go.Sort.grow (redrawn w3 dq) osq)) := HB3.out.trans (hbq.mono HB3.out.size)
        clear cCK cSA cHA cHB r0 r1 r2 r3 g0 g1 g2 g3 c0 c1 c2 c3 d0 d1 d2 d3 hbq HB1 HB2 HB3 cNT
        generalize Go.Sort.grow (redrawn w3 dq) osq = W4 at *
        obtain ⟨r, hR⟩ := readN_ex s.data.toList
        have HR := Lib.hid hR
        clear hR
        cases r with
        | none =>
          have HPA2 : Hid (∀ w, Calls Tryd.prog 17 #[.string s] w fun e w' => e = .returned (.tuple #[.agg #[.int .u32 0, .int .i64 0, .int .i64 0, .int .i64 0], .iface 23 (.int .i64 4)]) ∧ Below w.heap.size w w') := fun w => (HPA.out w).mono fun e w' ⟨r', h1, h2, h3⟩ => by
            have hr' := ReadN.same h1 HR.out
            subst hr'
            exact ⟨h2, h3⟩
          have HNO2 : Hid (∀ w, Calls Tryd.prog 18 #[.string s] w fun e w' => e = .returned (.tuple #[.agg #[.int .u32 0, .int .i64 0, .int .i64 0, .int .i64 0], .bool false]) ∧ Below w.heap.size w w') := fun w => (HNO.out w).mono fun e w' ⟨r', h1, h2, h3⟩ => by
            have hr' := ReadN.same h1 HR.out
            subst hr'
            exact ⟨h2, h3⟩
          clear HPA HNO HR
          go_upto_region 9 with (go_at_call 17; refine cargs (by simp [Act.eval]) ((HPA2.out _).mono ?_); rintro e w5 ⟨rfl, hb5⟩; have HB5a := Lib.hid (HB4.out.trans (hb5.mono HB4.out.size)); clear hb5)
          have HC5 := Lib.hid (box_cells w5 (.int .u32 0) (.int .i64 0) (.int .i64 0) (.int .i64 0) 39)
          have HB5 : Hid (Below (w.alloc (.cells #[.int .u32 xip, .int .i64 xb, .int .i64 xlo, .int .i64 xhi] 39)).heap.size (w.alloc (.cells #[.int .u32 xip, .int .i64 xb, .int .i64 xlo, .int .i64 xhi] 39)) (w5.alloc (.cells #[.int .u32 0, .int .i64 0, .int .i64 0, .int .i64 0] 39))) := HB5a.out.alloc HB5a.out.size _
          go_upto_region 10 with (go_at_call 18; refine cargs (by simp [Act.eval]) ((HNO2.out _).mono ?_); rintro e w6 ⟨rfl, hb6⟩; have HB6a := Lib.hid hb6; clear hb6)
          have HB6b : Hid (Below (w5.alloc (.cells #[.int .u32 0, .int .i64 0, .int .i64 0, .int .i64 0] 39)).heap.size (w5.alloc (.cells #[.int .u32 0, .int .i64 0, .int .i64 0, .int .i64 0] 39)) (w6.alloc (.cells #[.int .u32 0, .int .i64 0, .int .i64 0, .int .i64 0] 39))) := HB6a.out.alloc HB6a.out.size _
          obtain ⟨m0, m1, m2, m3⟩ := HC5.out _ HB6b.out
          obtain ⟨n0, n1, n2, n3⟩ := box_cells w6 (.int .u32 0) (.int .i64 0) (.int .i64 0) (.int .i64 0) 39 _ (Below.refl _ _)
          have HB6 : Hid (Below (w.alloc (.cells #[.int .u32 xip, .int .i64 xb, .int .i64 xlo, .int .i64 xhi] 39)).heap.size (w.alloc (.cells #[.int .u32 xip, .int .i64 xb, .int .i64 xlo, .int .i64 xhi] 39)) (w6.alloc (.cells #[.int .u32 0, .int .i64 0, .int .i64 0, .int .i64 0] 39))) := HB5.out.trans (HB6b.out.mono HB5.out.size)
          generalize w6.alloc (.cells #[.int .u32 0, .int .i64 0, .int .i64 0, .int .i64 0] 39) = W6 at *
          go_upto_region 12 with (first
            | (go_at_call 5; refine cargs (by first | (simp [Act.eval]; done) | fail) ((HS40.out _).mono ?_); rintro e wa ⟨rfl, rfl⟩)
            | (go_at_call 5; refine cargs (by first | (simp [Act.eval]; done) | fail) ((HS44.out _).mono ?_); rintro e wb ⟨rfl, rfl⟩))
          clear HC5 HB5a HB5 HB6a HB6b m0 m1 m2 m3 n0 n1 n2 n3
          have HB6' := HB6
          by_cases p0 : port < 0
          · have hcond : (port < 0 ∨ 65535 < port) = True := by simp [p0]
            have HBY2 : Hid (∀ w, Calls Tryd.prog 19 #[.int .u32 ip, .int .i64 port] w fun e w' => e = .returned (.tuple #[.string ⟨#[]⟩, .iface 23 (.int .i64 1)]) ∧ Below w.heap.size w w') := by
              have := HBYT.out
              simp only [hcond, if_true, true_or, or_true] at this
              exact this
            go_upto_region 18 with (first
              | (go_at_call 19; refine cargs (by simp [Act.eval]) ((HBY2.out _).mono ?_); rintro e w7 ⟨rfl, hb7⟩; have HB7 := Lib.hid (HB6.out.trans (hb7.mono HB6.out.size)); clear hb7)
              | (go_at_call 5; refine cargs (by first | (simp [Act.eval]; done) | fail) ((HS11.out _).mono ?_); rintro e wa ⟨rfl, rfl⟩))
            cases hra : readA b with
            | none =>
              rw [hra] at HRD HRR
              have HRD2 : Hid (∀ w, Calls Tryd.prog 21 #[.string b] w fun e w' => e = .returned (.tuple #[.int .u32 0, .int .i64 0, .iface 23 (.int .i64 3)]) ∧ Below w.heap.size w w') := HRD.out
              have HRR2 : Hid (∀ w, Calls Tryd.prog 22 #[.string b] w fun e w' => e = .returned (.tuple #[.int .u32 0, .int .i64 0, .bool false]) ∧ Below w.heap.size w w') := HRR.out
              clear hra HRD HRR
              go_wp2_with (first
                | (go_at_call 21; refine cargs (by simp [Act.eval]) ((HRD2.out _).mono ?_); rintro e w8 ⟨rfl, hb8⟩; have HB8 := Lib.hid hb8; clear hb8)
                | (go_at_call 22; refine cargs (by simp [Act.eval]) ((HRR2.out _).mono ?_); rintro e w9 ⟨rfl, hb9⟩; have HB9 := Lib.hid hb9; clear hb9)
                | (go_at_call 5; refine cargs (by first | (simp [Act.eval]; done) | fail) ((HS30.out _).mono ?_); rintro e wa ⟨rfl, rfl⟩)
                | (go_at_call 5; refine cargs (by first | (simp [Act.eval]; done) | fail) ((HS33.out _).mono ?_); rintro e wb ⟨rfl, rfl⟩))
              go_returns
              exact ⟨rfl, HAB.out _ (HB7.out.trans ((HB8.out.trans (HB9.out.mono HB8.out.size)).mono HB7.out.size))⟩
            | some q =>
              obtain ⟨qi, qp⟩ := q
              rw [hra] at HRD HRR
              have HRD2 : Hid (∀ w, Calls Tryd.prog 21 #[.string b] w fun e w' => e = .returned (.tuple #[.int .u32 qi, .int .i64 qp, .nilIface]) ∧ Below w.heap.size w w') := HRD.out
              have HRR2 : Hid (∀ w, Calls Tryd.prog 22 #[.string b] w fun e w' => e = .returned (.tuple #[.int .u32 qi, .int .i64 qp, .bool true]) ∧ Below w.heap.size w w') := HRR.out
              clear hra HRD HRR
              go_wp2_with (first
                | (go_at_call 21; refine cargs (by simp [Act.eval]) ((HRD2.out _).mono ?_); rintro e w8 ⟨rfl, hb8⟩; have HB8 := Lib.hid hb8; clear hb8)
                | (go_at_call 22; refine cargs (by simp [Act.eval]) ((HRR2.out _).mono ?_); rintro e w9 ⟨rfl, hb9⟩; have HB9 := Lib.hid hb9; clear hb9)
                | (go_at_call 5; refine cargs (by first | (simp [Act.eval]; done) | fail) ((HS00.out _).mono ?_); rintro e wa ⟨rfl, rfl⟩))
              go_returns
              exact ⟨rfl, HAB.out _ (HB7.out.trans ((HB8.out.trans (HB9.out.mono HB8.out.size)).mono HB7.out.size))⟩
          · by_cases p1 : 65535 < port
            · have hcond : (port < 0 ∨ 65535 < port) = True := by simp [p1]
              have dp0 : decide (port < 0) = false := decide_eq_false p0
              have dp1 : decide (65535 < port) = true := decide_eq_true p1
              clear p0
              have HBY2 : Hid (∀ w, Calls Tryd.prog 19 #[.int .u32 ip, .int .i64 port] w fun e w' => e = .returned (.tuple #[.string ⟨#[]⟩, .iface 23 (.int .i64 1)]) ∧ Below w.heap.size w w') := by
                have := HBYT.out
                simp only [hcond, if_true, true_or, or_true] at this
                exact this
              go_upto_region 18 with (first
                | (go_at_call 19; refine cargs (by simp [Act.eval]) ((HBY2.out _).mono ?_); rintro e w7 ⟨rfl, hb7⟩; have HB7 := Lib.hid (HB6.out.trans (hb7.mono HB6.out.size)); clear hb7)
                | (go_at_call 5; refine cargs (by first | (simp [Act.eval]; done) | fail) ((HS11.out _).mono ?_); rintro e wa ⟨rfl, rfl⟩))
              cases hra : readA b with
              | none =>
                rw [hra] at HRD HRR
                have HRD2 : Hid (∀ w, Calls Tryd.prog 21 #[.string b] w fun e w' => e = .returned (.tuple #[.int .u32 0, .int .i64 0, .iface 23 (.int .i64 3)]) ∧ Below w.heap.size w w') := HRD.out
                have HRR2 : Hid (∀ w, Calls Tryd.prog 22 #[.string b] w fun e w' => e = .returned (.tuple #[.int .u32 0, .int .i64 0, .bool false]) ∧ Below w.heap.size w w') := HRR.out
                clear hra HRD HRR
                go_wp2_with (first
                  | (go_at_call 21; refine cargs (by simp [Act.eval]) ((HRD2.out _).mono ?_); rintro e w8 ⟨rfl, hb8⟩; have HB8 := Lib.hid hb8; clear hb8)
                  | (go_at_call 22; refine cargs (by simp [Act.eval]) ((HRR2.out _).mono ?_); rintro e w9 ⟨rfl, hb9⟩; have HB9 := Lib.hid hb9; clear hb9)
                  | (go_at_call 5; refine cargs (by first | (simp [Act.eval]; done) | fail) ((HS30.out _).mono ?_); rintro e wa ⟨rfl, rfl⟩)
                  | (go_at_call 5; refine cargs (by first | (simp [Act.eval]; done) | fail) ((HS33.out _).mono ?_); rintro e wb ⟨rfl, rfl⟩))
                go_returns
                exact ⟨rfl, HAB.out _ (HB7.out.trans ((HB8.out.trans (HB9.out.mono HB8.out.size)).mono HB7.out.size))⟩
              | some q =>
                obtain ⟨qi, qp⟩ := q
                rw [hra] at HRD HRR
                have HRD2 : Hid (∀ w, Calls Tryd.prog 21 #[.string b] w fun e w' => e = .returned (.tuple #[.int .u32 qi, .int .i64 qp, .nilIface]) ∧ Below w.heap.size w w') := HRD.out
                have HRR2 : Hid (∀ w, Calls Tryd.prog 22 #[.string b] w fun e w' => e = .returned (.tuple #[.int .u32 qi, .int .i64 qp, .bool true]) ∧ Below w.heap.size w w') := HRR.out
                clear hra HRD HRR
                go_wp2_with (first
                  | (go_at_call 21; refine cargs (by simp [Act.eval]) ((HRD2.out _).mono ?_); rintro e w8 ⟨rfl, hb8⟩; have HB8 := Lib.hid hb8; clear hb8)
                  | (go_at_call 22; refine cargs (by simp [Act.eval]) ((HRR2.out _).mono ?_); rintro e w9 ⟨rfl, hb9⟩; have HB9 := Lib.hid hb9; clear hb9)
                  | (go_at_call 5; refine cargs (by first | (simp [Act.eval]; done) | fail) ((HS00.out _).mono ?_); rintro e wa ⟨rfl, rfl⟩))
                go_returns
                exact ⟨rfl, HAB.out _ (HB7.out.trans ((HB8.out.trans (HB9.out.mono HB8.out.size)).mono HB7.out.size))⟩
            · skip
              obtain ⟨pn, rfl⟩ : ∃ p : Nat, port = p := ⟨port.toNat, by omega⟩
              have HBY2 : Hid (∀ w, Calls Tryd.prog 19 #[.int .u32 ip, .int .i64 (pn : Int)] w fun e w' => e = .returned (.tuple #[.string ⟨(bytesA ip pn).toArray⟩, .nilIface]) ∧ Below w.heap.size w w') := by
                have := HBYT.out
                rw [if_neg (by omega), Int.toNat_natCast] at this
                exact this
              have HRB2 : Hid (∀ w, Calls Tryd.prog 20 #[.int .u32 ip, .int .i64 (pn : Int)] w fun e w' => e = .returned (.string ⟨(bytesA ip pn).toArray⟩) ∧ Below w.heap.size w w') := fun w => refBytes_any ip pn w HIP.out (by omega)
              generalize bytesA ip pn = X at *
              go_upto_region 18 with (first
                | (go_at_call 19; refine cargs (by simp [Act.eval]) ((HBY2.out _).mono ?_); rintro e w7a ⟨rfl, hb7⟩; have HB7a := Lib.hid (HB6.out.trans (hb7.mono HB6.out.size)); clear hb7)
                | (go_at_call 20; refine cargs (by simp [Act.eval]) ((HRB2.out _).mono ?_); rintro e w7 ⟨rfl, hb7⟩; have HB7 := Lib.hid (HB7a.out.trans (hb7.mono HB7a.out.size)); clear hb7)
                | (go_at_call 5; refine cargs (by first | (simp [Act.eval]; done) | fail) ((HS00.out _).mono ?_); rintro e wa ⟨rfl, rfl⟩))
              cases hra : readA b with
              | none =>
                rw [hra] at HRD HRR
                have HRD2 : Hid (∀ w, Calls Tryd.prog 21 #[.string b] w fun e w' => e = .returned (.tuple #[.int .u32 0, .int .i64 0, .iface 23 (.int .i64 3)]) ∧ Below w.heap.size w w') := HRD.out
                have HRR2 : Hid (∀ w, Calls Tryd.prog 22 #[.string b] w fun e w' => e = .returned (.tuple #[.int .u32 0, .int .i64 0, .bool false]) ∧ Below w.heap.size w w') := HRR.out
                clear hra HRD HRR
                go_wp2_with (first
                  | (go_at_call 21; refine cargs (by simp [Act.eval]) ((HRD2.out _).mono ?_); rintro e w8 ⟨rfl, hb8⟩; have HB8 := Lib.hid hb8; clear hb8)
                  | (go_at_call 22; refine cargs (by simp [Act.eval]) ((HRR2.out _).mono ?_); rintro e w9 ⟨rfl, hb9⟩; have HB9 := Lib.hid hb9; clear hb9)
                  | (go_at_call 5; refine cargs (by first | (simp [Act.eval]; done) | fail) ((HS30.out _).mono ?_); rintro e wa ⟨rfl, rfl⟩)
                  | (go_at_call 5; refine cargs (by first | (simp [Act.eval]; done) | fail) ((HS33.out _).mono ?_); rintro e wb ⟨rfl, rfl⟩))
                go_returns
                exact ⟨rfl, HAB.out _ (HB7.out.trans ((HB8.out.trans (HB9.out.mono HB8.out.size)).mono HB7.out.size))⟩
              | some q =>
                obtain ⟨qi, qp⟩ := q
                rw [hra] at HRD HRR
                have HRD2 : Hid (∀ w, Calls Tryd.prog 21 #[.string b] w fun e w' => e = .returned (.tuple #[.int .u32 qi, .int .i64 qp, .nilIface]) ∧ Below w.heap.size w w') := HRD.out
                have HRR2 : Hid (∀ w, Calls Tryd.prog 22 #[.string b] w fun e w' => e = .returned (.tuple #[.int .u32 qi, .int .i64 qp, .bool true]) ∧ Below w.heap.size w w') := HRR.out
                clear hra HRD HRR
                go_wp2_with (first
                  | (go_at_call 21; refine cargs (by simp [Act.eval]) ((HRD2.out _).mono ?_); rintro e w8 ⟨rfl, hb8⟩; have HB8 := Lib.hid hb8; clear hb8)
                  | (go_at_call 22; refine cargs (by simp [Act.eval]) ((HRR2.out _).mono ?_); rintro e w9 ⟨rfl, hb9⟩; have HB9 := Lib.hid hb9; clear hb9)
                  | (go_at_call 5; refine cargs (by first | (simp [Act.eval]; done) | fail) ((HS00.out _).mono ?_); rintro e wa ⟨rfl, rfl⟩))
                go_returns
                exact ⟨rfl, HAB.out _ (HB7.out.trans ((HB8.out.trans (HB9.out.mono HB8.out.size)).mono HB7.out.size))⟩
        | some y =>
          obtain ⟨yip, yb, ylo, yhi⟩ := y
          have HPA2 : Hid (∀ w, Calls Tryd.prog 17 #[.string s] w fun e w' => e = .returned (.tuple #[.agg #[.int .u32 yip, .int .i64 yb, .int .i64 ylo, .int .i64 yhi], .nilIface]) ∧ Below w.heap.size w w') := fun w => (HPA.out w).mono fun e w' ⟨r', h1, h2, h3⟩ => by
            have hr' := ReadN.same h1 HR.out
            subst hr'
            exact ⟨h2, h3⟩
          have HNO2 : Hid (∀ w, Calls Tryd.prog 18 #[.string s] w fun e w' => e = .returned (.tuple #[.agg #[.int .u32 yip, .int .i64 yb, .int .i64 ylo, .int .i64 yhi], .bool true]) ∧ Below w.heap.size w w') := fun w => (HNO.out w).mono fun e w' ⟨r', h1, h2, h3⟩ => by
            have hr' := ReadN.same h1 HR.out
            subst hr'
            exact ⟨h2, h3⟩
          clear HPA HNO HR
          go_upto_region 9 with (go_at_call 17; refine cargs (by simp [Act.eval]) ((HPA2.out _).mono ?_); rintro e w5 ⟨rfl, hb5⟩; have HB5a := Lib.hid (HB4.out.trans (hb5.mono HB4.out.size)); clear hb5)
          have HC5 := Lib.hid (box_cells w5 (.int .u32 yip) (.int .i64 yb) (.int .i64 ylo) (.int .i64 yhi) 39)
          have HB5 : Hid (Below (w.alloc (.cells #[.int .u32 xip, .int .i64 xb, .int .i64 xlo, .int .i64 xhi] 39)).heap.size (w.alloc (.cells #[.int .u32 xip, .int .i64 xb, .int .i64 xlo, .int .i64 xhi] 39)) (w5.alloc (.cells #[.int .u32 yip, .int .i64 yb, .int .i64 ylo, .int .i64 yhi] 39))) := HB5a.out.alloc HB5a.out.size _
          go_upto_region 10 with (go_at_call 18; refine cargs (by simp [Act.eval]) ((HNO2.out _).mono ?_); rintro e w6 ⟨rfl, hb6⟩; have HB6a := Lib.hid hb6; clear hb6)
          have HB6b : Hid (Below (w5.alloc (.cells #[.int .u32 yip, .int .i64 yb, .int .i64 ylo, .int .i64 yhi] 39)).heap.size (w5.alloc (.cells #[.int .u32 yip, .int .i64 yb, .int .i64 ylo, .int .i64 yhi] 39)) (w6.alloc (.cells #[.int .u32 yip, .int .i64 yb, .int .i64 ylo, .int .i64 yhi] 39))) := HB6a.out.alloc HB6a.out.size _
          obtain ⟨m0, m1, m2, m3⟩ := HC5.out _ HB6b.out
          obtain ⟨n0, n1, n2, n3⟩ := box_cells w6 (.int .u32 yip) (.int .i64 yb) (.int .i64 ylo) (.int .i64 yhi) 39 _ (Below.refl _ _)
          have HB6 : Hid (Below (w.alloc (.cells #[.int .u32 xip, .int .i64 xb, .int .i64 xlo, .int .i64 xhi] 39)).heap.size (w.alloc (.cells #[.int .u32 xip, .int .i64 xb, .int .i64 xlo, .int .i64 xhi] 39)) (w6.alloc (.cells #[.int .u32 yip, .int .i64 yb, .int .i64 ylo, .int .i64 yhi] 39))) := HB5.out.trans (HB6b.out.mono HB5.out.size)
          generalize w6.alloc (.cells #[.int .u32 yip, .int .i64 yb, .int .i64 ylo, .int .i64 yhi] 39) = W6 at *
          go_upto_region 12 with (first
            | (go_at_call 5; refine cargs (by first | (simp [Act.eval]; done) | fail) ((HS00.out _).mono ?_); rintro e wa ⟨rfl, rfl⟩))
          clear HC5 HB5a HB5 HB6a HB6b m0 m1 m2 m3 n0 n1 n2 n3
          have HB6' := HB6
          by_cases p0 : port < 0
          · have hcond : (port < 0 ∨ 65535 < port) = True := by simp [p0]
            have HBY2 : Hid (∀ w, Calls Tryd.prog 19 #[.int .u32 ip, .int .i64 port] w fun e w' => e = .returned (.tuple #[.string ⟨#[]⟩, .iface 23 (.int .i64 1)]) ∧ Below w.heap.size w w') := by
              have := HBYT.out
              simp only [hcond, if_true, true_or, or_true] at this
              exact this
            go_upto_region 18 with (first
              | (go_at_call 19; refine cargs (by simp [Act.eval]) ((HBY2.out _).mono ?_); rintro e w7 ⟨rfl, hb7⟩; have HB7 := Lib.hid (HB6.out.trans (hb7.mono HB6.out.size)); clear hb7)
              | (go_at_call 5; refine cargs (by first | (simp [Act.eval]; done) | fail) ((HS11.out _).mono ?_); rintro e wa ⟨rfl, rfl⟩))
            cases hra : readA b with
            | none =>
              rw [hra] at HRD HRR
              have HRD2 : Hid (∀ w, Calls Tryd.prog 21 #[.string b] w fun e w' => e = .returned (.tuple #[.int .u32 0, .int .i64 0, .iface 23 (.int .i64 3)]) ∧ Below w.heap.size w w') := HRD.out
              have HRR2 : Hid (∀ w, Calls Tryd.prog 22 #[.string b] w fun e w' => e = .returned (.tuple #[.int .u32 0, .int .i64 0, .bool false]) ∧ Below w.heap.size w w') := HRR.out
              clear hra HRD HRR
              go_wp2_with (first
                | (go_at_call 21; refine cargs (by simp [Act.eval]) ((HRD2.out _).mono ?_); rintro e w8 ⟨rfl, hb8⟩; have HB8 := Lib.hid hb8; clear hb8)
                | (go_at_call 22; refine cargs (by simp [Act.eval]) ((HRR2.out _).mono ?_); rintro e w9 ⟨rfl, hb9⟩; have HB9 := Lib.hid hb9; clear hb9)
                | (go_at_call 5; refine cargs (by first | (simp [Act.eval]; done) | fail) ((HS30.out _).mono ?_); rintro e wa ⟨rfl, rfl⟩)
                | (go_at_call 5; refine cargs (by first | (simp [Act.eval]; done) | fail) ((HS33.out _).mono ?_); rintro e wb ⟨rfl, rfl⟩))
              go_returns
              exact ⟨rfl, HAB.out _ (HB7.out.trans ((HB8.out.trans (HB9.out.mono HB8.out.size)).mono HB7.out.size))⟩
            | some q =>
              obtain ⟨qi, qp⟩ := q
              rw [hra] at HRD HRR
              have HRD2 : Hid (∀ w, Calls Tryd.prog 21 #[.string b] w fun e w' => e = .returned (.tuple #[.int .u32 qi, .int .i64 qp, .nilIface]) ∧ Below w.heap.size w w') := HRD.out
              have HRR2 : Hid (∀ w, Calls Tryd.prog 22 #[.string b] w fun e w' => e = .returned (.tuple #[.int .u32 qi, .int .i64 qp, .bool true]) ∧ Below w.heap.size w w') := HRR.out
              clear hra HRD HRR
              go_wp2_with (first
                | (go_at_call 21; refine cargs (by simp [Act.eval]) ((HRD2.out _).mono ?_); rintro e w8 ⟨rfl, hb8⟩; have HB8 := Lib.hid hb8; clear hb8)
                | (go_at_call 22; refine cargs (by simp [Act.eval]) ((HRR2.out _).mono ?_); rintro e w9 ⟨rfl, hb9⟩; have HB9 := Lib.hid hb9; clear hb9)
                | (go_at_call 5; refine cargs (by first | (simp [Act.eval]; done) | fail) ((HS00.out _).mono ?_); rintro e wa ⟨rfl, rfl⟩))
              go_returns
              exact ⟨rfl, HAB.out _ (HB7.out.trans ((HB8.out.trans (HB9.out.mono HB8.out.size)).mono HB7.out.size))⟩
          · by_cases p1 : 65535 < port
            · have hcond : (port < 0 ∨ 65535 < port) = True := by simp [p1]
              have dp0 : decide (port < 0) = false := decide_eq_false p0
              have dp1 : decide (65535 < port) = true := decide_eq_true p1
              clear p0
              have HBY2 : Hid (∀ w, Calls Tryd.prog 19 #[.int .u32 ip, .int .i64 port] w fun e w' => e = .returned (.tuple #[.string ⟨#[]⟩, .iface 23 (.int .i64 1)]) ∧ Below w.heap.size w w') := by
                have := HBYT.out
                simp only [hcond, if_true, true_or, or_true] at this
                exact this
              go_upto_region 18 with (first
                | (go_at_call 19; refine cargs (by simp [Act.eval]) ((HBY2.out _).mono ?_); rintro e w7 ⟨rfl, hb7⟩; have HB7 := Lib.hid (HB6.out.trans (hb7.mono HB6.out.size)); clear hb7)
                | (go_at_call 5; refine cargs (by first | (simp [Act.eval]; done) | fail) ((HS11.out _).mono ?_); rintro e wa ⟨rfl, rfl⟩))
              cases hra : readA b with
              | none =>
                rw [hra] at HRD HRR
                have HRD2 : Hid (∀ w, Calls Tryd.prog 21 #[.string b] w fun e w' => e = .returned (.tuple #[.int .u32 0, .int .i64 0, .iface 23 (.int .i64 3)]) ∧ Below w.heap.size w w') := HRD.out
                have HRR2 : Hid (∀ w, Calls Tryd.prog 22 #[.string b] w fun e w' => e = .returned (.tuple #[.int .u32 0, .int .i64 0, .bool false]) ∧ Below w.heap.size w w') := HRR.out
                clear hra HRD HRR
                go_wp2_with (first
                  | (go_at_call 21; refine cargs (by simp [Act.eval]) ((HRD2.out _).mono ?_); rintro e w8 ⟨rfl, hb8⟩; have HB8 := Lib.hid hb8; clear hb8)
                  | (go_at_call 22; refine cargs (by simp [Act.eval]) ((HRR2.out _).mono ?_); rintro e w9 ⟨rfl, hb9⟩; have HB9 := Lib.hid hb9; clear hb9)
                  | (go_at_call 5; refine cargs (by first | (simp [Act.eval]; done) | fail) ((HS30.out _).mono ?_); rintro e wa ⟨rfl, rfl⟩)
                  | (go_at_call 5; refine cargs (by first | (simp [Act.eval]; done) | fail) ((HS33.out _).mono ?_); rintro e wb ⟨rfl, rfl⟩))
                go_returns
                exact ⟨rfl, HAB.out _ (HB7.out.trans ((HB8.out.trans (HB9.out.mono HB8.out.size)).mono HB7.out.size))⟩
              | some q =>
                obtain ⟨qi, qp⟩ := q
                rw [hra] at HRD HRR
                have HRD2 : Hid (∀ w, Calls Tryd.prog 21 #[.string b] w fun e w' => e = .returned (.tuple #[.int .u32 qi, .int .i64 qp, .nilIface]) ∧ Below w.heap.size w w') := HRD.out
                have HRR2 : Hid (∀ w, Calls Tryd.prog 22 #[.string b] w fun e w' => e = .returned (.tuple #[.int .u32 qi, .int .i64 qp, .bool true]) ∧ Below w.heap.size w w') := HRR.out
                clear hra HRD HRR
                go_wp2_with (first
                  | (go_at_call 21; refine cargs (by simp [Act.eval]) ((HRD2.out _).mono ?_); rintro e w8 ⟨rfl, hb8⟩; have HB8 := Lib.hid hb8; clear hb8)
                  | (go_at_call 22; refine cargs (by simp [Act.eval]) ((HRR2.out _).mono ?_); rintro e w9 ⟨rfl, hb9⟩; have HB9 := Lib.hid hb9; clear hb9)
                  | (go_at_call 5; refine cargs (by first | (simp [Act.eval]; done) | fail) ((HS00.out _).mono ?_); rintro e wa ⟨rfl, rfl⟩))
                go_returns
                exact ⟨rfl, HAB.out _ (HB7.out.trans ((HB8.out.trans (HB9.out.mono HB8.out.size)).mono HB7.out.size))⟩
            · skip
              obtain ⟨pn, rfl⟩ : ∃ p : Nat, port = p := ⟨port.toNat, by omega⟩
              have HBY2 : Hid (∀ w, Calls Tryd.prog 19 #[.int .u32 ip, .int .i64 (pn : Int)] w fun e w' => e = .returned (.tuple #[.string ⟨(bytesA ip pn).toArray⟩, .nilIface]) ∧ Below w.heap.size w w') := by
                have := HBYT.out
                rw [if_neg (by omega), Int.toNat_natCast] at this
                exact this
              have HRB2 : Hid (∀ w, Calls Tryd.prog 20 #[.int .u32 ip, .int .i64 (pn : Int)] w fun e w' => e = .returned (.string ⟨(bytesA ip pn).toArray⟩) ∧ Below w.heap.size w w') := fun w => refBytes_any ip pn w HIP.out (by omega)
              generalize bytesA ip pn = X at *
              go_upto_region 18 with (first
                | (go_at_call 19; refine cargs (by simp [Act.eval]) ((HBY2.out _).mono ?_); rintro e w7a ⟨rfl, hb7⟩; have HB7a := Lib.hid (HB6.out.trans (hb7.mono HB6.out.size)); clear hb7)
                | (go_at_call 20; refine cargs (by simp [Act.eval]) ((HRB2.out _).mono ?_); rintro e w7 ⟨rfl, hb7⟩; have HB7 := Lib.hid (HB7a.out.trans (hb7.mono HB7a.out.size)); clear hb7)
                | (go_at_call 5; refine cargs (by first | (simp [Act.eval]; done) | fail) ((HS00.out _).mono ?_); rintro e wa ⟨rfl, rfl⟩))
              cases hra : readA b with
              | none =>
                rw [hra] at HRD HRR
                have HRD2 : Hid (∀ w, Calls Tryd.prog 21 #[.string b] w fun e w' => e = .returned (.tuple #[.int .u32 0, .int .i64 0, .iface 23 (.int .i64 3)]) ∧ Below w.heap.size w w') := HRD.out
                have HRR2 : Hid (∀ w, Calls Tryd.prog 22 #[.string b] w fun e w' => e = .returned (.tuple #[.int .u32 0, .int .i64 0, .bool false]) ∧ Below w.heap.size w w') := HRR.out
                clear hra HRD HRR
                go_wp2_with (first
                  | (go_at_call 21; refine cargs (by simp [Act.eval]) ((HRD2.out _).mono ?_); rintro e w8 ⟨rfl, hb8⟩; have HB8 := Lib.hid hb8; clear hb8)
                  | (go_at_call 22; refine cargs (by simp [Act.eval]) ((HRR2.out _).mono ?_); rintro e w9 ⟨rfl, hb9⟩; have HB9 := Lib.hid hb9; clear hb9)
                  | (go_at_call 5; refine cargs (by first | (simp [Act.eval]; done) | fail) ((HS30.out _).mono ?_); rintro e wa ⟨rfl, rfl⟩)
                  | (go_at_call 5; refine cargs (by first | (simp [Act.eval]; done) | fail) ((HS33.out _).mono ?_); rintro e wb ⟨rfl, rfl⟩))
                go_returns
                exact ⟨rfl, HAB.out _ (HB7.out.trans ((HB8.out.trans (HB9.out.mono HB8.out.size)).mono HB7.out.size))⟩
              | some q =>
                obtain ⟨qi, qp⟩ := q
                rw [hra] at HRD HRR
                have HRD2 : Hid (∀ w, Calls Tryd.prog 21 #[.string b] w fun e w' => e = .returned (.tuple #[.int .u32 qi, .int .i64 qp, .nilIface]) ∧ Below w.heap.size w w') := HRD.out
                have HRR2 : Hid (∀ w, Calls Tryd.prog 22 #[.string b] w fun e w' => e = .returned (.tuple #[.int .u32 qi, .int .i64 qp, .bool true]) ∧ Below w.heap.size w w') := HRR.out
                clear hra HRD HRR
                go_wp2_with (first
                  | (go_at_call 21; refine cargs (by simp [Act.eval]) ((HRD2.out _).mono ?_); rintro e w8 ⟨rfl, hb8⟩; have HB8 := Lib.hid hb8; clear hb8)
                  | (go_at_call 22; refine cargs (by simp [Act.eval]) ((HRR2.out _).mono ?_); rintro e w9 ⟨rfl, hb9⟩; have HB9 := Lib.hid hb9; clear hb9)
                  | (go_at_call 5; refine cargs (by first | (simp [Act.eval]; done) | fail) ((HS00.out _).mono ?_); rintro e wa ⟨rfl, rfl⟩))
                go_returns
                exact ⟨rfl, HAB.out _ (HB7.out.trans ((HB8.out.trans (HB9.out.mono HB8.out.size)).mono HB7.out.size))⟩
      · skip
        have hpos : 0 < netF ⟨xip, xb, xlo, xhi⟩ := by omega
        rw [if_neg hf] at HTX
        rw [errV_pos hf] at HCK HTX HSF
        generalize netF ⟨xip, xb, xlo, xhi⟩ = F at *
        have hF1 : decide (0 < F) = true := decide_eq_true hpos
        have hF2 : decide (F = 0) = false := decide_eq_false hf
        have hF3 : (F == 0) = false := by simpa using hf
        have HCK2 : Hid (∀ w, Calls Tryd.prog 13 #[.agg #[.int .u32 xip, .int .i64 xb, .int .i64 xlo, .int .i64 xhi]] w fun e' w' => e' = .returned (.iface 23 (.int .i64 F)) ∧ Below w.heap.size w w') := HCK.out
        have HSF2 : Hid (∀ w, Calls Tryd.prog 5 #[.iface 23 (.int .i64 F), .int .i64 F] w fun e w' => e = .returned (.bool true) ∧ w = w') := HSF.out
        have HTX2 : Hid (∀ W, Below w.heap.size w W → Calls Tryd.prog 12 #[.agg #[.int .u32 xip, .int .i64 xb, .int .i64 xlo, .int .i64 xhi]] W fun e w' => e = .returned (.tuple #[.string ⟨#[]⟩, .iface 23 (.int .i64 F)]) ∧ Below W.heap.size W w') := HTX.out
        clear hf HNT HCK HTX HSF HNG hok
        go_enter Tryd.func4, Tryd.ntmps4
        go_upto_region 6 with (first
          | (go_at_call 10; refine cargs (by simp [Act.eval]) ((nets_any _).mono ?_); rintro e w1 ⟨rfl, hb1⟩; have HB1 := Lib.hid hb1; obtain ⟨c0, c1, c2, c3⟩ := HC4.out w1 hb1; clear hb1)
          | (go_at_call 11; refine cargs (by simp [Act.eval]) ((HNF.out _).mono ?_); rintro e w2 ⟨rfl, hb2⟩; have HB2 := Lib.hid (HB1.out.trans (hb2.mono HB1.out.size)); obtain ⟨d0, d1, d2, d3⟩ := HC4.out w2 HB2.out; clear hb2)
          | (go_at_call 12; refine cargs (by simp [Act.eval]) ((HTX2.out _ (HAB.out _ HB2.out)).mono ?_); rintro e w3 ⟨rfl, hb3⟩; have HB3 := Lib.hid (HB2.out.trans (hb3.mono HB2.out.size)); obtain ⟨g0, g1, g2, g3⟩ := HC4.out w3 HB3.out; clear hb3))
        have r0 := cell_regrown g0
        have r1 := cell_regrown g1
        have r2 := cell_regrown g2
        have r3 := cell_regrown g3
        have cCK := fun d os => Calls.regrown_of (HCK2.out (Go.Sort.grow (redrawn w3 d) os))
        have cSA := fun d os => rg_same (HSF2.out (Go.Sort.grow (redrawn w3 d) os))
        have cHA := fun d os => Calls.regrown_of (HHA.out (Go.Sort.grow (redrawn w3 d) os))
        have cHB := fun d os => Calls.regrown_of (HHB.out (Go.Sort.grow (redrawn w3 d) os))
        refine wp_region_quiet_below (by kernel_rfl) (by kernel_rfl) ?_
        repeat (quiet_step (first | exact cCK _ _ | exact cSA _ _ | exact cHA _ _ | exact cHB _ _))
        refine wpQuiet_nil ?_
        intro _ hw'
        obtain ⟨⟨dq, osq⟩, hw''⟩ := hw'
        subst hw''
        have hbq := below_regrown w3 dq osq
        have HB4 : Hid (Below (w.alloc (.cells #[.int .u32 xip, .int .i64 xb, .int .i64 xlo, .int .i64 xhi] 39)).heap.size (w.alloc (.cells #[.int .u32 xip, .int .i64 xb, .int .i64 xlo, .int .i64 xhi] 39)) (Go.Sort.grow (redrawn w3 dq) osq)) := HB3.out.trans (hbq.mono HB3.out.size)
        clear cCK cSA cHA cHB r0 r1 r2 r3 g0 g1 g2 g3 c0 c1 c2 c3 d0 d1 d2 d3 hbq HB1 HB2 HB3
        generalize Go.Sort.grow (redrawn w3 dq) osq = W4 at *
        obtain ⟨r, hR⟩ := readN_ex s.data.toList
        have HR := Lib.hid hR
        clear hR
        cases r with
        | none =>
          have HPA2 : Hid (∀ w, Calls Tryd.prog 17 #[.string s] w fun e w' => e = .returned (.tuple #[.agg #[.int .u32 0, .int .i64 0, .int .i64 0, .int .i64 0], .iface 23 (.int .i64 4)]) ∧ Below w.heap.size w w') := fun w => (HPA.out w).mono fun e w' ⟨r', h1, h2, h3⟩ => by
            have hr' := ReadN.same h1 HR.out
            subst hr'
            exact ⟨h2, h3⟩
          have HNO2 : Hid (∀ w, Calls Tryd.prog 18 #[.string s] w fun e w' => e = .returned (.tuple #[.agg #[.int .u32 0, .int .i64 0, .int .i64 0, .int .i64 0], .bool false]) ∧ Below w.heap.size w w') := fun w => (HNO.out w).mono fun e w' ⟨r', h1, h2, h3⟩ => by
            have hr' := ReadN.same h1 HR.out
            subst hr'
            exact ⟨h2, h3⟩
          clear HPA HNO HR
          go_upto_region 9 with (go_at_call 17; refine cargs (by simp [Act.eval]) ((HPA2.out _).mono ?_); rintro e w5 ⟨rfl, hb5⟩; have HB5a := Lib.hid (HB4.out.trans (hb5.mono HB4.out.size)); clear hb5)
          have HC5 := Lib.hid (box_cells w5 (.int .u32 0) (.int .i64 0) (.int .i64 0) (.int .i64 0) 39)
          have HB5 : Hid (Below (w.alloc (.cells #[.int .u32 xip, .int .i64 xb, .int .i64 xlo, .int .i64 xhi] 39)).heap.size (w.alloc (.cells #[.int .u32 xip, .int .i64 xb, .int .i64 xlo, .int .i64 xhi] 39)) (w5.alloc (.cells #[.int .u32 0, .int .i64 0, .int .i64 0, .int .i64 0] 39))) := HB5a.out.alloc HB5a.out.size _
          go_upto_region 10 with (go_at_call 18; refine cargs (by simp [Act.eval]) ((HNO2.out _).mono ?_); rintro e w6 ⟨rfl, hb6⟩; have HB6a := Lib.hid hb6; clear hb6)
          have HB6b : Hid (Below (w5.alloc (.cells #[.int .u32 0, .int .i64 0, .int .i64 0, .int .i64 0] 39)).heap.size (w5.alloc (.cells #[.int .u32 0, .int .i64 0, .int .i64 0, .int .i64 0] 39)) (w6.alloc (.cells #[.int .u32 0, .int .i64 0, .int .i64 0, .int .i64 0] 39))) := HB6a.out.alloc HB6a.out.size _
          obtain ⟨m0, m1, m2, m3⟩ := HC5.out _ HB6b.out
          obtain ⟨n0, n1, n2, n3⟩ := box_cells w6 (.int .u32 0) (.int .i64 0) (.int .i64 0) (.int .i64 0) 39 _ (Below.refl _ _)
          have HB6 : Hid (Below (w.alloc (.cells #[.int .u32 xip, .int .i64 xb, .int .i64 xlo, .int .i64 xhi] 39)).heap.size (w.alloc (.cells #[.int .u32 xip, .int .i64 xb, .int .i64 xlo, .int .i64 xhi] 39)) (w6.alloc (.cells #[.int .u32 0, .int .i64 0, .int .i64 0, .int .i64 0] 39))) := HB5.out.trans (HB6b.out.mono HB5.out.size)
          generalize w6.alloc (.cells #[.int .u32 0, .int .i64 0, .int .i64 0, .int .i64 0] 39) = W6 at *
          go_upto_region 12 with (first
            | (go_at_call 5; refine cargs (by first | (simp [Act.eval]; done) | fail) ((HS40.out _).mono ?_); rintro e wa ⟨rfl, rfl⟩)
            | (go_at_call 5; refine cargs (by first | (simp [Act.eval]; done) | fail) ((HS44.out _).mono ?_); rintro e wb ⟨rfl, rfl⟩))
          clear HC5 HB5a HB5 HB6a HB6b m0 m1 m2 m3 n0 n1 n2 n3
          have HB6' := HB6
          by_cases p0 : port < 0
          · have hcond : (port < 0 ∨ 65535 < port) = True := by simp [p0]
            have HBY2 : Hid (∀ w, Calls Tryd.prog 19 #[.int .u32 ip, .int .i64 port] w fun e w' => e = .returned (.tuple #[.string ⟨#[]⟩, .iface 23 (.int .i64 1)]) ∧ Below w.heap.size w w') := by
              have := HBYT.out
              simp only [hcond, if_true, true_or, or_true] at this
              exact this
            go_upto_region 18 with (first
              | (go_at_call 19; refine cargs (by simp [Act.eval]) ((HBY2.out _).mono ?_); rintro e w7 ⟨rfl, hb7⟩; have HB7 := Lib.hid (HB6.out.trans (hb7.mono HB6.out.size)); clear hb7)
              | (go_at_call 5; refine cargs (by first | (simp [Act.eval]; done) | fail) ((HS11.out _).mono ?_); rintro e wa ⟨rfl, rfl⟩))
            cases hra : readA b with
            | none =>
              rw [hra] at HRD HRR
              have HRD2 : Hid (∀ w, Calls Tryd.prog 21 #[.string b] w fun e w' => e = .returned (.tuple #[.int .u32 0, .int .i64 0, .iface 23 (.int .i64 3)]) ∧ Below w.heap.size w w') := HRD.out
              have HRR2 : Hid (∀ w, Calls Tryd.prog 22 #[.string b] w fun e w' => e = .returned (.tuple #[.int .u32 0, .int .i64 0, .bool false]) ∧ Below w.heap.size w w') := HRR.out
              clear hra HRD HRR
              go_wp2_with (first
                | (go_at_call 21; refine cargs (by simp [Act.eval]) ((HRD2.out _).mono ?_); rintro e w8 ⟨rfl, hb8⟩; have HB8 := Lib.hid hb8; clear hb8)
                | (go_at_call 22; refine cargs (by simp [Act.eval]) ((HRR2.out _).mono ?_); rintro e w9 ⟨rfl, hb9⟩; have HB9 := Lib.hid hb9; clear hb9)
                | (go_at_call 5; refine cargs (by first | (simp [Act.eval]; done) | fail) ((HS30.out _).mono ?_); rintro e wa ⟨rfl, rfl⟩)
                | (go_at_call 5; refine cargs (by first | (simp [Act.eval]; done) | fail) ((HS33.out _).mono ?_); rintro e wb ⟨rfl, rfl⟩))
              go_returns
              exact ⟨rfl, HAB.out _ (HB7.out.trans ((HB8.out.trans (HB9.out.mono HB8.out.size)).mono HB7.out.size))⟩
            | some q =>
              obtain ⟨qi, qp⟩ := q
              rw [hra] at HRD HRR
              have HRD2 : Hid (∀ w, Calls Tryd.prog 21 #[.string b] w fun e w' => e = .returned (.tuple #[.int .u32 qi, .int .i64 qp, .nilIface]) ∧ Below w.heap.size w w') := HRD.out
              have HRR2 : Hid (∀ w, Calls Tryd.prog 22 #[.string b] w fun e w' => e = .returned (.tuple #[.int .u32 qi, .int .i64 qp, .bool true]) ∧ Below w.heap.size w w') := HRR.out
              clear hra HRD HRR
              go_wp2_with (first
                | (go_at_call 21; refine cargs (by simp [Act.eval]) ((HRD2.out _).mono ?_); rintro e w8 ⟨rfl, hb8⟩; have HB8 := Lib.hid hb8; clear hb8)
                | (go_at_call 22; refine cargs (by simp [Act.eval]) ((HRR2.out _).mono ?_); rintro e w9 ⟨rfl, hb9⟩; have HB9 := Lib.hid hb9; clear hb9)
                | (go_at_call 5; refine cargs (by first | (simp [Act.eval]; done) | fail) ((HS00.out _).mono ?_); rintro e wa ⟨rfl, rfl⟩))
              go_returns
              exact ⟨rfl, HAB.out _ (HB7.out.trans ((HB8.out.trans (HB9.out.mono HB8.out.size)).mono HB7.out.size))⟩
          · by_cases p1 : 65535 < port
            · have hcond : (port < 0 ∨ 65535 < port) = True := by simp [p1]
              have dp0 : decide (port < 0) = false := decide_eq_false p0
              have dp1 : decide (65535 < port) = true := decide_eq_true p1
              clear p0
              have HBY2 : Hid (∀ w, Calls Tryd.prog 19 #[.int .u32 ip, .int .i64 port] w fun e w' => e = .returned (.tuple #[.string ⟨#[]⟩, .iface 23 (.int .i64 1)]) ∧ Below w.heap.size w w') := by
                have := HBYT.out
                simp only [hcond, if_true, true_or, or_true] at this
                exact this
              go_upto_region 18 with (first
                | (go_at_call 19; refine cargs (by simp [Act.eval]) ((HBY2.out _).mono ?_); rintro e w7 ⟨rfl, hb7⟩; have HB7 := Lib.hid (HB6.out.trans (hb7.mono HB6.out.size)); clear hb7)
                | (go_at_call 5; refine cargs (by first | (simp [Act.eval]; done) | fail) ((HS11.out _).mono ?_); rintro e wa ⟨rfl, rfl⟩))
              cases hra : readA b with
              | none =>
                rw [hra] at HRD HRR
                have HRD2 : Hid (∀ w, Calls Tryd.prog 21 #[.string b] w fun e w' => e = .returned (.tuple #[.int .u32 0, .int .i64 0, .iface 23 (.int .i64 3)]) ∧ Below w.heap.size w w') := HRD.out
                have HRR2 : Hid (∀ w, Calls Tryd.prog 22 #[.string b] w fun e w' => e = .returned (.tuple #[.int .u32 0, .int .i64 0, .bool false]) ∧ Below w.heap.size w w') := HRR.out
                clear hra HRD HRR
                go_wp2_with (first
                  | (go_at_call 21; refine cargs (by simp [Act.eval]) ((HRD2.out _).mono ?_); rintro e w8 ⟨rfl, hb8⟩; have HB8 := Lib.hid hb8; clear hb8)
                  | (go_at_call 22; refine cargs (by simp [Act.eval]) ((HRR2.out _).mono ?_); rintro e w9 ⟨rfl, hb9⟩; have HB9 := Lib.hid hb9; clear hb9)
                  | (go_at_call 5; refine cargs (by first | (simp [Act.eval]; done) | fail) ((HS30.out _).mono ?_); rintro e wa ⟨rfl, rfl⟩)
                  | (go_at_call 5; refine cargs (by first | (simp [Act.eval]; done) | fail) ((HS33.out _).mono ?_); rintro e wb ⟨rfl, rfl⟩))
                go_returns
                exact ⟨rfl, HAB.out _ (HB7.out.trans ((HB8.out.trans (HB9.out.mono HB8.out.size)).mono HB7.out.size))⟩
              | some q =>
                obtain ⟨qi, qp⟩ := q
                rw [hra] at HRD HRR
                have HRD2 : Hid (∀ w, Calls Tryd.prog 21 #[.string b] w fun e w' => e = .returned (.tuple #[.int .u32 qi, .int .i64 qp, .nilIface]) ∧ Below w.heap.size w w') := HRD.out
                have HRR2 : Hid (∀ w, Calls Tryd.prog 22 #[.string b] w fun e w' => e = .returned (.tuple #[.int .u32 qi, .int .i64 qp, .bool true]) ∧ Below w.heap.size w w') := HRR.out
                clear hra HRD HRR
                go_wp2_with (first
                  | (go_at_call 21; refine cargs (by simp [Act.eval]) ((HRD2.out _).mono ?_); rintro e w8 ⟨rfl, hb8⟩; have HB8 := Lib.hid hb8; clear hb8)
                  | (go_at_call 22; refine cargs (by simp [Act.eval]) ((HRR2.out _).mono ?_); rintro e w9 ⟨rfl, hb9⟩; have HB9 := Lib.hid hb9; clear hb9)
                  | (go_at_call 5; refine cargs (by first | (simp [Act.eval]; done) | fail) ((HS00.out _).mono ?_); rintro e wa ⟨rfl, rfl⟩))
                go_returns
                exact ⟨rfl, HAB.out _ (HB7.out.trans ((HB8.out.trans (HB9.out.mono HB8.out.size)).mono HB7.out.size))⟩
            · skip
              obtain ⟨pn, rfl⟩ : ∃ p : Nat, port = p := ⟨port.toNat, by omega⟩
              have HBY2 : Hid (∀ w, Calls Tryd.prog 19 #[.int .u32 ip, .int .i64 (pn : Int)] w fun e w' => e = .returned (.tuple #[.string ⟨(bytesA ip pn).toArray⟩, .nilIface]) ∧ Below w.heap.size w w') := by
                have := HBYT.out
                rw [if_neg (by omega), Int.toNat_natCast] at this
                exact this
              have HRB2 : Hid (∀ w, Calls Tryd.prog 20 #[.int .u32 ip, .int .i64 (pn : Int)] w fun e w' => e = .returned (.string ⟨(bytesA ip pn).toArray⟩) ∧ Below w.heap.size w w') := fun w => refBytes_any ip pn w HIP.out (by omega)
              generalize bytesA ip pn = X at *
              go_upto_region 18 with (first
                | (go_at_call 19; refine cargs (by simp [Act.eval]) ((HBY2.out _).mono ?_); rintro e w7a ⟨rfl, hb7⟩; have HB7a := Lib.hid (HB6.out.trans (hb7.mono HB6.out.size)); clear hb7)
                | (go_at_call 20; refine cargs (by simp [Act.eval]) ((HRB2.out _).mono ?_); rintro e w7 ⟨rfl, hb7⟩; have HB7 := Lib.hid (HB7a.out.trans (hb7.mono HB7a.out.size)); clear hb7)
                | (go_at_call 5; refine cargs (by first | (simp [Act.eval]; done) | fail) ((HS00.out _).mono ?_); rintro e wa ⟨rfl, rfl⟩))
              cases hra : readA b with
              | none =>
                rw [hra] at HRD HRR
                have HRD2 : Hid (∀ w, Calls Tryd.prog 21 #[.string b] w fun e w' => e = .returned (.tuple #[.int .u32 0, .int .i64 0, .iface 23 (.int .i64 3)]) ∧ Below w.heap.size w w') := HRD.out
                have HRR2 : Hid (∀ w, Calls Tryd.prog 22 #[.string b] w fun e w' => e = .returned (.tuple #[.int .u32 0, .int .i64 0, .bool false]) ∧ Below w.heap.size w w') := HRR.out
                clear hra HRD HRR
                go_wp2_with (first
                  | (go_at_call 21; refine cargs (by simp [Act.eval]) ((HRD2.out _).mono ?_); rintro e w8 ⟨rfl, hb8⟩; have HB8 := Lib.hid hb8; clear hb8)
                  | (go_at_call 22; refine cargs (by simp [Act.eval]) ((HRR2.out _).mono ?_); rintro e w9 ⟨rfl, hb9⟩; have HB9 := Lib.hid hb9; clear hb9)
                  | (go_at_call 5; refine cargs (by first | (simp [Act.eval]; done) | fail) ((HS30.out _).mono ?_); rintro e wa ⟨rfl, rfl⟩)
                  | (go_at_call 5; refine cargs (by first | (simp [Act.eval]; done) | fail) ((HS33.out _).mono ?_); rintro e wb ⟨rfl, rfl⟩))
                go_returns
                exact ⟨rfl, HAB.out _ (HB7.out.trans ((HB8.out.trans (HB9.out.mono HB8.out.size)).mono HB7.out.size))⟩
              | some q =>
                obtain ⟨qi, qp⟩ := q
                rw [hra] at HRD HRR
                have HRD2 : Hid (∀ w, Calls Tryd.prog 21 #[.string b] w fun e w' => e = .returned (.tuple #[.int .u32 qi, .int .i64 qp, .nilIface]) ∧ Below w.heap.size w w') := HRD.out
                have HRR2 : Hid (∀ w, Calls Tryd.prog 22 #[.string b] w fun e w' => e = .returned (.tuple #[.int .u32 qi, .int .i64 qp, .bool true]) ∧ Below w.heap.size w w') := HRR.out
                clear hra HRD HRR
                go_wp2_with (first
                  | (go_at_call 21; refine cargs (by simp [Act.eval]) ((HRD2.out _).mono ?_); rintro e w8 ⟨rfl, hb8⟩; have HB8 := Lib.hid hb8; clear hb8)
                  | (go_at_call 22; refine cargs (by simp [Act.eval]) ((HRR2.out _).mono ?_); rintro e w9 ⟨rfl, hb9⟩; have HB9 := Lib.hid hb9; clear hb9)
                  | (go_at_call 5; refine cargs (by first | (simp [Act.eval]; done) | fail) ((HS00.out _).mono ?_); rintro e wa ⟨rfl, rfl⟩))
                go_returns
                exact ⟨rfl, HAB.out _ (HB7.out.trans ((HB8.out.trans (HB9.out.mono HB8.out.size)).mono HB7.out.size))⟩
        | some y =>
          obtain ⟨yip, yb, ylo, yhi⟩ := y
          have HPA2 : Hid (∀ w, Calls Tryd.prog 17 #[.string s] w fun e w' => e = .returned (.tuple #[.agg #[.int .u32 yip, .int .i64 yb, .int .i64 ylo, .int .i64 yhi], .nilIface]) ∧ Below w.heap.size w w') := fun w => (HPA.out w).mono fun e w' ⟨r', h1, h2, h3⟩ => by
            have hr' := ReadN.same h1 HR.out
            subst hr'
            exact ⟨h2, h3⟩
          have HNO2 : Hid (∀ w, Calls Tryd.prog 18 #[.string s] w fun e w' => e = .returned (.tuple #[.agg #[.int .u32 yip, .int .i64 yb, .int .i64 ylo, .int .i64 yhi], .bool true]) ∧ Below w.heap.size w w') := fun w => (HNO.out w).mono fun e w' ⟨r', h1, h2, h3⟩ => by
            have hr' := ReadN.same h1 HR.out
            subst hr'
            exact ⟨h2, h3⟩
          clear HPA HNO HR
          go_upto_region 9 with (go_at_call 17; refine cargs (by simp [Act.eval]) ((HPA2.out _).mono ?_); rintro e w5 ⟨rfl, hb5⟩; have HB5a := Lib.hid (HB4.out.trans (hb5.mono HB4.out.size)); clear hb5)
          have HC5 := Lib.hid (box_cells w5 (.int .u32 yip) (.int .i64 yb) (.int .i64 ylo) (.int .i64 yhi) 39)
          have HB5 : Hid (Below (w.alloc (.cells #[.int .u32 xip, .int .i64 xb, .int .i64 xlo, .int .i64 xhi] 39)).heap.size (w.alloc (.cells #[.int .u32 xip, .int .i64 xb, .int .i64 xlo, .int .i64 xhi] 39)) (w5.alloc (.cells #[.int .u32 yip, .int .i64 yb, .int .i64 ylo, .int .i64 yhi] 39))) := HB5a.out.alloc HB5a.out.size _
          go_upto_region 10 with (go_at_call 18; refine cargs (by simp [Act.eval]) ((HNO2.out _).mono ?_); rintro e w6 ⟨rfl, hb6⟩; have HB6a := Lib.hid hb6; clear hb6)
          have HB6b : Hid (Below (w5.alloc (.cells #[.int .u32 yip, .int .i64 yb, .int .i64 ylo, .int .i64 yhi] 39)).heap.size (w5.alloc (.cells #[.int .u32 yip, .int .i64 yb, .int .i64 ylo, .int .i64 yhi] 39)) (w6.alloc (.cells #[.int .u32 yip, .int .i64 yb, .int .i64 ylo, .int .i64 yhi] 39))) := HB6a.out.alloc HB6a.out.size _
          obtain ⟨m0, m1, m2, m3⟩ := HC5.out _ HB6b.out
          obtain ⟨n0, n1, n2, n3⟩ := box_cells w6 (.int .u32 yip) (.int .i64 yb) (.int .i64 ylo) (.int .i64 yhi) 39 _ (Below.refl _ _)
          have HB6 : Hid (Below (w.alloc (.cells #[.int .u32 xip, .int .i64 xb, .int .i64 xlo, .int .i64 xhi] 39)).heap.size (w.alloc (.cells #[.int .u32 xip, .int .i64 xb, .int .i64 xlo, .int .i64 xhi] 39)) (w6.alloc (.cells #[.int .u32 yip, .int .i64 yb, .int .i64 ylo, .int .i64 yhi] 39))) := HB5.out.trans (HB6b.out.mono HB5.out.size)
          generalize w6.alloc (.cells #[.int .u32 yip, .int .i64 yb, .int .i64 ylo, .int .i64 yhi] 39) = W6 at *
          go_upto_region 12 with (first
            | (go_at_call 5; refine cargs (by first | (simp [Act.eval]; done) | fail) ((HS00.out _).mono ?_); rintro e wa ⟨rfl, rfl⟩))
          clear HC5 HB5a HB5 HB6a HB6b m0 m1 m2 m3 n0 n1 n2 n3
          have HB6' := HB6
          by_cases p0 : port < 0
          · have hcond : (port < 0 ∨ 65535 < port) = True := by simp [p0]
            have HBY2 : Hid (∀ w, Calls Tryd.prog 19 #[.int .u32 ip, .int .i64 port] w fun e w' => e = .returned (.tuple #[.string ⟨#[]⟩, .iface 23 (.int .i64 1)]) ∧ Below w.heap.size w w') := by
              have := HBYT.out
              simp only [hcond, if_true, true_or, or_true] at this
              exact this
            go_upto_region 18 with (first
              | (go_at_call 19; refine cargs (by simp [Act.eval]) ((HBY2.out _).mono ?_); rintro e w7 ⟨rfl, hb7⟩; have HB7 := Lib.hid (HB6.out.trans (hb7.mono HB6.out.size)); clear hb7)
              | (go_at_call 5; refine cargs (by first | (simp [Act.eval]; done) | fail) ((HS11.out _).mono ?_); rintro e wa ⟨rfl, rfl⟩))
            cases hra : readA b with
            | none =>
              rw [hra] at HRD HRR
              have HRD2 : Hid (∀ w, Calls Tryd.prog 21 #[.string b] w fun e w' => e = .returned (.tuple #[.int .u32 0, .int .i64 0, .iface 23 (.int .i64 3)]) ∧ Below w.heap.size w w') := HRD.out
              have HRR2 : Hid (∀ w, Calls Tryd.prog 22 #[.string b] w fun e w' => e = .returned (.tuple #[.int .u32 0, .int .i64 0, .bool false]) ∧ Below w.heap.size w w') := HRR.out
              clear hra HRD HRR
              go_wp2_with (first
                | (go_at_call 21; refine cargs (by simp [Act.eval]) ((HRD2.out _).mono ?_); rintro e w8 ⟨rfl, hb8⟩; have HB8 := Lib.hid hb8; clear hb8)
                | (go_at_call 22; refine cargs (by simp [Act.eval]) ((HRR2.out _).mono ?_); rintro e w9 ⟨rfl, hb9⟩; have HB9 := Lib.hid hb9; clear hb9)
                | (go_at_call 5; refine cargs (by first | (simp [Act.eval]; done) | fail) ((HS30.out _).mono ?_); rintro e wa ⟨rfl, rfl⟩)
                | (go_at_call 5; refine cargs (by first | (simp [Act.eval]; done) | fail) ((HS33.out _).mono ?_); rintro e wb ⟨rfl, rfl⟩))
              go_returns
              exact ⟨rfl, HAB.out _ (HB7.out.trans ((HB8.out.trans (HB9.out.mono HB8.out.size)).mono HB7.out.size))⟩
            | some q =>
              obtain ⟨qi, qp⟩ := q
              rw [hra] at HRD HRR
              have HRD2 : Hid (∀ w, Calls Tryd.prog 21 #[.string b] w fun e w' => e = .returned (.tuple #[.int .u32 qi, .int .i64 qp, .nilIface]) ∧ Below w.heap.size w w') := HRD.out
              have HRR2 : Hid (∀ w, Calls Tryd.prog 22 #[.string b] w fun e w' => e = .returned (.tuple #[.int .u32 qi, .int .i64 qp, .bool true]) ∧ Below w.heap.size w w') := HRR.out
              clear hra HRD HRR
              go_wp2_with (first
                | (go_at_call 21; refine cargs (by simp [Act.eval]) ((HRD2.out _).mono ?_); rintro e w8 ⟨rfl, hb8⟩; have HB8 := Lib.hid hb8; clear hb8)
                | (go_at_call 22; refine cargs (by simp [Act.eval]) ((HRR2.out _).mono ?_); rintro e w9 ⟨rfl, hb9⟩; have HB9 := Lib.hid hb9; clear hb9)
                | (go_at_call 5; refine cargs (by first | (simp [Act.eval]; done) | fail) ((HS00.out _).mono ?_); rintro e wa ⟨rfl, rfl⟩))
              go_returns
              exact ⟨rfl, HAB.out _ (HB7.out.trans ((HB8.out.trans (HB9.out.mono HB8.out.size)).mono HB7.out.size))⟩
          · by_cases p1 : 65535 < port
            · have hcond : (port < 0 ∨ 65535 < port) = True := by simp [p1]
              have dp0 : decide (port < 0) = false := decide_eq_false p0
              have dp1 : decide (65535 < port) = true := decide_eq_true p1
              clear p0
              have HBY2 : Hid (∀ w, Calls Tryd.prog 19 #[.int .u32 ip, .int .i64 port] w fun e w' => e = .returned (.tuple #[.string ⟨#[]⟩, .iface 23 (.int .i64 1)]) ∧ Below w.heap.size w w') := by
                have := HBYT.out
                simp only [hcond, if_true, true_or, or_true] at this
                exact this
              go_upto_region 18 with (first
                | (go_at_call 19; refine cargs (by simp [Act.eval]) ((HBY2.out _).mono ?_); rintro e w7 ⟨rfl, hb7⟩; have HB7 := Lib.hid (HB6.out.trans (hb7.mono HB6.out.size)); clear hb7)
                | (go_at_call 5; refine cargs (by first | (simp [Act.eval]; done) | fail) ((HS11.out _).mono ?_); rintro e wa ⟨rfl, rfl⟩))
              cases hra : readA b with
              | none =>
                rw [hra] at HRD HRR
                have HRD2 : Hid (∀ w, Calls Tryd.prog 21 #[.string b] w fun e w' => e = .returned (.tuple #[.int .u32 0, .int .i64 0, .iface 23 (.int .i64 3)]) ∧ Below w.heap.size w w') := HRD.out
                have HRR2 : Hid (∀ w, Calls Tryd.prog 22 #[.string b] w fun e w' => e = .returned (.tuple #[.int .u32 0, .int .i64 0, .bool false]) ∧ Below w.heap.size w w') := HRR.out
                clear hra HRD HRR
                go_wp2_with (first
                  | (go_at_call 21; refine cargs (by simp [Act.eval]) ((HRD2.out _).mono ?_); rintro e w8 ⟨rfl, hb8⟩; have HB8 := Lib.hid hb8; clear hb8)
                  | (go_at_call 22; refine cargs (by simp [Act.eval]) ((HRR2.out _).mono ?_); rintro e w9 ⟨rfl, hb9⟩; have HB9 := Lib.hid hb9; clear hb9)
                  | (go_at_call 5; refine cargs (by first | (simp [Act.eval]; done) | fail) ((HS30.out _).mono ?_); rintro e wa ⟨rfl, rfl⟩)
                  | (go_at_call 5; refine cargs (by first | (simp [Act.eval]; done) | fail) ((HS33.out _).mono ?_); rintro e wb ⟨rfl, rfl⟩))
                go_returns
                exact ⟨rfl, HAB.out _ (HB7.out.trans ((HB8.out.trans (HB9.out.mono HB8.out.size)).mono HB7.out.size))⟩
              | some q =>
                obtain ⟨qi, qp⟩ := q
                rw [hra] at HRD HRR
                have HRD2 : Hid (∀ w, Calls Tryd.prog 21 #[.string b] w fun e w' => e = .returned (.tuple #[.int .u32 qi, .int .i64 qp, .nilIface]) ∧ Below w.heap.size w w') := HRD.out
                have HRR2 : Hid (∀ w, Calls Tryd.prog 22 #[.string b] w fun e w' => e = .returned (.tuple #[.int .u32 qi, .int .i64 qp, .bool true]) ∧ Below w.heap.size w w') := HRR.out
                clear hra HRD HRR
                go_wp2_with (first
                  | (go_at_call 21; refine cargs (by simp [Act.eval]) ((HRD2.out _).mono ?_); rintro e w8 ⟨rfl, hb8⟩; have HB8 := Lib.hid hb8; clear hb8)
                  | (go_at_call 22; refine cargs (by simp [Act.eval]) ((HRR2.out _).mono ?_); rintro e w9 ⟨rfl, hb9⟩; have HB9 := Lib.hid hb9; clear hb9)
                  | (go_at_call 5; refine cargs (by first | (simp [Act.eval]; done) | fail) ((HS00.out _).mono ?_); rintro e wa ⟨rfl, rfl⟩))
                go_returns
                exact ⟨rfl, HAB.out _ (HB7.out.trans ((HB8.out.trans (HB9.out.mono HB8.out.size)).mono HB7.out.size))⟩
            · skip
              obtain ⟨pn, rfl⟩ : ∃ p : Nat, port = p := ⟨port.toNat, by omega⟩
              have HBY2 : Hid (∀ w, Calls Tryd.prog 19 #[.int .u32 ip, .int .i64 (pn : Int)] w fun e w' => e = .returned (.tuple #[.string ⟨(bytesA ip pn).toArray⟩, .nilIface]) ∧ Below w.heap.size w w') := by
                have := HBYT.out
                rw [if_neg (by omega), Int.toNat_natCast] at this
                exact this
              have HRB2 : Hid (∀ w, Calls Tryd.prog 20 #[.int .u32 ip, .int .i64 (pn : Int)] w fun e w' => e = .returned (.string ⟨(bytesA ip pn).toArray⟩) ∧ Below w.heap.size w w') := fun w => refBytes_any ip pn w HIP.out (by omega)
              generalize bytesA ip pn = X at *
              go_upto_region 18 with (first
                | (go_at_call 19; refine cargs (by simp [Act.eval]) ((HBY2.out _).mono ?_); rintro e w7a ⟨rfl, hb7⟩; have HB7a := Lib.hid (HB6.out.trans (hb7.mono HB6.out.size)); clear hb7)
                | (go_at_call 20; refine cargs (by simp [Act.eval]) ((HRB2.out _).mono ?_); rintro e w7 ⟨rfl, hb7⟩; have HB7 := Lib.hid (HB7a.out.trans (hb7.mono HB7a.out.size)); clear hb7)
                | (go_at_call 5; refine cargs (by first | (simp [Act.eval]; done) | fail) ((HS00.out _).mono ?_); rintro e wa ⟨rfl, rfl⟩))
              cases hra : readA b with
              | none =>
                rw [hra] at HRD HRR
                have HRD2 : Hid (∀ w, Calls Tryd.prog 21 #[.string b] w fun e w' => e = .returned (.tuple #[.int .u32 0, .int .i64 0, .iface 23 (.int .i64 3)]) ∧ Below w.heap.size w w') := HRD.out
                have HRR2 : Hid (∀ w, Calls Tryd.prog 22 #[.string b] w fun e w' => e = .returned (.tuple #[.int .u32 0, .int .i64 0, .bool false]) ∧ Below w.heap.size w w') := HRR.out
                clear hra HRD HRR
                go_wp2_with (first
                  | (go_at_call 21; refine cargs (by simp [Act.eval]) ((HRD2.out _).mono ?_); rintro e w8 ⟨rfl, hb8⟩; have HB8 := Lib.hid hb8; clear hb8)
                  | (go_at_call 22; refine cargs (by simp [Act.eval]) ((HRR2.out _).mono ?_); rintro e w9 ⟨rfl, hb9⟩; have HB9 := Lib.hid hb9; clear hb9)
                  | (go_at_call 5; refine cargs (by first | (simp [Act.eval]; done) | fail) ((HS30.out _).mono ?_); rintro e wa ⟨rfl, rfl⟩)
                  | (go_at_call 5; refine cargs (by first | (simp [Act.eval]; done) | fail) ((HS33.out _).mono ?_); rintro e wb ⟨rfl, rfl⟩))
                go_returns
                exact ⟨rfl, HAB.out _ (HB7.out.trans ((HB8.out.trans (HB9.out.mono HB8.out.size)).mono HB7.out.size))⟩
              | some q =>
                obtain ⟨qi, qp⟩ := q
                rw [hra] at HRD HRR
                have HRD2 : Hid (∀ w, Calls Tryd.prog 21 #[.string b] w fun e w' => e = .returned (.tuple #[.int .u32 qi, .int .i64 qp, .nilIface]) ∧ Below w.heap.size w w') := HRD.out
                have HRR2 : Hid (∀ w, Calls Tryd.prog 22 #[.string b] w fun e w' => e = .returned (.tuple #[.int .u32 qi, .int .i64 qp, .bool true]) ∧ Below w.heap.size w w') := HRR.out
                clear hra HRD HRR
                go_wp2_with (first
                  | (go_at_call 21; refine cargs (by simp [Act.eval]) ((HRD2.out _).mono ?_); rintro e w8 ⟨rfl, hb8⟩; have HB8 := Lib.hid hb8; clear hb8)
                  | (go_at_call 22; refine cargs (by simp [Act.eval]) ((HRR2.out _).mono ?_); rintro e w9 ⟨rfl, hb9⟩; have HB9 := Lib.hid hb9; clear hb9)
                  | (go_at_call 5; refine cargs (by first | (simp [Act.eval]; done) | fail) ((HS00.out _).mono ?_); rintro e wa ⟨rfl, rfl⟩))
                go_returns
                exact ⟨rfl, HAB.out _ (HB7.out.trans ((HB8.out.trans (HB9.out.mono HB8.out.size)).mono HB7.out.size))⟩

end Go.Proofs.YtmgngapkgcofnaaDoor
