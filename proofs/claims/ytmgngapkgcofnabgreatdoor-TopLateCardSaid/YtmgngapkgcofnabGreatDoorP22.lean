/- A net's text: the reference's NetText, and addr.Text: the walks. -/
import Derived.Test.YtmgngapkgcofnabGreatDoorP10
namespace Go.Proofs.YtmgngapkgcofnabGreatDoor
open Go.RowKit Go.PlainAid
def preN (l : List Nat) : List UInt8 := l.foldl (fun s x => (if s = [] then [] else s ++ [46]) ++ Lib.decDigits x) []
theorem preN_snoc (l : List Nat) (x : Nat) : preN (l ++ [x]) = (if preN l = [] then [] else preN l ++ [46]) ++ Lib.decDigits x := by
 unfold preN; rw [List.foldl_append, List.foldl_cons, List.foldl_nil]
theorem preN_ne (l : List Nat) (x : Nat) : preN (l ++ [x]) ≠ [] := by
 rw [preN_snoc]; intro h; exact dec_ne x (List.append_eq_nil_iff.1 h).2
theorem preN_one (a : Nat) : preN [a] = Lib.decDigits a := by
 simp [preN]
theorem preN_two (a b : Nat) : preN [a, b] = Lib.decDigits a ++ [46] ++ Lib.decDigits b := by
 have := preN_snoc [a] b; rw [preN_one, if_neg (dec_ne a)] at this; exact this
theorem preN_three (a b c : Nat) : preN [a, b, c] = Lib.decDigits a ++ [46] ++ Lib.decDigits b ++ [46] ++ Lib.decDigits c := by
 have := preN_snoc [a, b] c; rw [if_neg (show preN [a, b] ≠ [] from preN_ne [a] b), preN_two] at this; exact this
theorem preN_four (a b c d : Nat) : preN [a, b, c, d] = Lib.decDigits a ++ [46] ++ Lib.decDigits b ++ [46] ++ Lib.decDigits c ++ [46] ++ Lib.decDigits d := by
 have := preN_snoc [a, b, c] d; rw [if_neg (show preN [a, b, c] ≠ [] from preN_ne [a, b] c), preN_three] at this; exact this
theorem preN_len (l : List Nat) (h : ∀ x ∈ l, x < 100000) : (preN l).length ≤ 6 * l.length := by
 obtain ⟨n, hn⟩ : ∃ n, l.length = n := ⟨_, rfl⟩
 induction n generalizing l with
 | zero => obtain rfl := List.eq_nil_of_length_eq_zero hn; simp [preN]
 | succ n ih =>
  rcases List.eq_nil_or_concat l with rfl | ⟨t, b, rfl⟩
  ·simp at hn
  ·rw [List.concat_eq_append] at *
   have ht : t.length = n := by rw [List.length_append] at hn; simp at hn; omega
   have := ih t (fun x hx => h x (by simp [hx])) ht; have hb := nDigits_le5 (h b (by simp)); rw [preN_snoc, List.length_append, Lib.decDigits_length, List.length_append]; split <;> simp <;> omega
theorem and255_u32 (n : Nat) (h : n < 4294967296) : bits .and .u32 (n : Int) 255 = ((n % 256 : Nat) : Int) := by
 rw [show (255 : Int) = ((255 : Nat) : Int) from rfl, u32_and_nat _ _ (by omega) (by omega)]
 congr 1
 exact Nat.and_two_pow_sub_one_eq_mod n 8
theorem bstr_app (a b : List UInt8) : (⟨a.toArray⟩ : ByteArray) ++ ⟨b.toArray⟩ = ⟨(a ++ b).toArray⟩ := by
 apply ByteArray.ext; simp
theorem bsz (l : List UInt8) : (⟨l.toArray⟩ : ByteArray).size = l.length := by simp [ByteArray.size]
theorem below_q {B : Nat} {a W w w' : World} (hb : Below w.heap.size w w') (h : Below B a W) (hB : ∀ k, k < B → k < W.heap.size) (h1 : w.heap = W.heap) (h2 : w.os = W.os) (h3 : w.tape = W.tape) (h4 : w.output = W.output) : Below B a w' :=
 ⟨hb.os.trans (h2.trans h.os), hb.tape.trans (h3.trans h.tape), hb.output.trans (h4.trans h.output), Nat.le_trans h.size (by rw [← h1]; exact hb.size), fun k hk => (hb.block k (by rw [h1]; exact hB k hk)).trans ((congrArg (fun x : Array Obj => x[k]?) h1).trans (h.block k hk))⟩
theorem box_cells (w : World) (p q r s : Value) (t : TypeId) (W : World) (h : Below (w.alloc (.cells #[p, q, r, s] t)).heap.size (w.alloc (.cells #[p, q, r, s] t)) W) :
  W.cell? ⟨w.heap.size, 0, none⟩ = some p ∧ W.cell? ⟨w.heap.size, 1, none⟩ = some q ∧ W.cell? ⟨w.heap.size, 2, none⟩ = some r ∧ W.cell? ⟨w.heap.size, 3, none⟩ = some s := by
 have hs : w.heap.size < (w.alloc (.cells #[p, q, r, s] t)).heap.size := by simp
 refine ⟨?_, ?_, ?_, ?_⟩ <;> (rw [h.cell (p := ⟨w.heap.size, _, none⟩) hs, cell_of_row _ _ _ _ _ _ (heap_alloc_new _ _)]; rfl)
theorem box_below (w : World) (o : Obj) (W : World) (h : Below (w.alloc o).heap.size (w.alloc o) W) : Below w.heap.size w W := ((Below.refl _ _).alloc (Nat.le_refl _) _).trans (h.mono (by simp))
theorem tab_below {P : Program} {w : World} {name : String} {k : IntKind} {zs : List Int} (h : Lib.TabIs P w name k zs) : ∀ w', Below w.heap.size w w' → Lib.TabIs P w' name k zs := fun w' hb => by
 unfold Lib.TabIs World.var? at *
 cases hg : P.globalNamed name with
 | none => simp [hg] at h
 | some g =>
  simp only [hg, Option.bind_some] at h ⊢
  have hlt : g < w.heap.size := by
   rcases Nat.lt_or_ge g w.heap.size with h' | h'
   ·exact h'
   ·rw [Array.getElem?_eq_none h'] at h; simp at h
  rw [hb.block g hlt]; exact h
structure TxtAt (w1 wr : World) (l : List UInt8) : Prop where
 bel : Below w1.heap.size w1 wr
 blt : Lib.IsBuilderF 175 5 w1.heap.size w1.heap.size (Lib.byteCells l) wr
theorem builderF_below {T e : TypeId} {B b : Nat} {bs : List Value} {w w' : World} (h : Lib.IsBuilderF T e B b bs w) (hb : Below w.heap.size w w') : Lib.IsBuilderF T e B b bs w' := by
 have key : ∀ p, Lib.BuilderAtF T e B b p bs w → Lib.BuilderAtF T e B b p bs w' := by
  rintro p ⟨hB, v, hbk, hown, hne⟩; have hlt : ∀ (k : Nat) (o : Obj), w.heap[k]? = some o → w'.heap[k]? = some o := fun k o hk => (hb.block k (Array.getElem?_eq_some_iff.1 hk).1).trans hk; refine ⟨hB, v, hlt _ _ hbk, ⟨hown.1, ?_⟩, hne⟩; rcases hown.2 with hn | ⟨g, cap, cur, fz, hv, hbg, hg, rest⟩
  ·exact .inl hn
  ·exact .inr ⟨g, cap, cur, fz, hv, hbg, hlt _ _ hg, rest⟩
 exact h.elim (fun x => .inl (key _ x)) (fun x => .inr (key _ x))
theorem builderF_new (w : World) (T e : TypeId) : Lib.IsBuilderF T e w.heap.size w.heap.size [] (w.alloc (.cells #[.pointer none, .slice none 0 0] T)) :=
 .inl ⟨Nat.le_refl _, .slice none 0 0, heap_alloc_new _ _, ⟨by simp, .inl ⟨rfl, rfl⟩⟩, by simp [Value.ownBlock]⟩
set_option linter.unusedSimpArgs false in
set_option maxRecDepth 100000 in
set_option maxHeartbeats 4000000 in
theorem text_any (x : NetD) (w : World) (hok : x.ok) (htab : Lib.TabIs Tryz.prog w "internal/strconv.uint64pow10" .u64 Lib.pow10Tab) :
  Calls Tryz.prog 136 #[x.v] w fun e w' => e = .returned (.tuple #[.string ⟨(if netF x = 0 then textN x else []).toArray⟩, errV (netF x)]) ∧ Below w.heap.size w w' := by
 have HCK : Hid (∀ w, Calls Tryz.prog 171 #[x.v] w fun e' w' => e' = .returned (errV (netF x)) ∧ Below w.heap.size w w') := fun w => netCheck_any x w hok; have HTB := Lib.hid (tab_below htab); clear htab
 by_cases hf : netF x = 0
 ·obtain ⟨q1, q2, q3, q4, q5, _⟩ := netF_zero hf; obtain ⟨⟨i0, i1⟩, _⟩ := hok; obtain ⟨ip, b, lo, hi⟩ := x; simp only at i0 i1 q1 q2 q3 q4 q5; obtain ⟨ip, rfl⟩ : ∃ p : Nat, ip = p := ⟨ip.toNat, by omega⟩
  obtain ⟨b, rfl⟩ : ∃ p : Nat, b = p := ⟨b.toNat, by omega⟩
  obtain ⟨lo, rfl⟩ : ∃ p : Nat, lo = p := ⟨lo.toNat, by omega⟩
  obtain ⟨hi, rfl⟩ : ∃ p : Nat, hi = p := ⟨hi.toNat, by omega⟩
  have HT : Hid (textN ⟨ip, b, lo, hi⟩ = preN [ip / 16777216, ip / 65536 % 256, ip / 256 % 256, ip % 256] ++ (47 :: Lib.decDigits b) ++ (58 :: Lib.decDigits lo) ++ (45 :: Lib.decDigits hi)) := by
   show _ = _; rw [preN_four]; simp [textN, partsN, joinT, sepsN]
  have HC4 := Lib.hid (box_cells w (.int .u32 (ip : Int)) (.int .i64 (b : Int)) (.int .i64 (lo : Int)) (.int .i64 (hi : Int)) 45); have HAB := Lib.hid (box_below w (.cells #[.int .u32 (ip : Int), .int .i64 (b : Int), .int .i64 (lo : Int), .int .i64 (hi : Int)] 45)); rw [if_pos hf]; rw [hf] at HCK ⊢; unfold NetD.v at HCK ⊢
  have HCK2 : Hid (∀ w, Calls Tryz.prog 171 #[.agg #[.int .u32 (ip : Int), .int .i64 (b : Int), .int .i64 (lo : Int), .int .i64 (hi : Int)]] w fun e' w' => e' = .returned .nilIface ∧ Below w.heap.size w w') := HCK.out; clear HCK hf; go_enter Tryz.func136, Tryz.ntmps136
  go_upto_region 4 with (go_at_call 171; refine cargs (by simp [Act.eval]) ((HCK2.out _).mono ?_); rintro e w1 ⟨rfl, hb1⟩; have HB1 := Lib.hid hb1; clear hb1)
  have HI0 : Hid (TxtAt w1 (w1.alloc (.cells #[.pointer none, .slice none 0 0] 175)) []) := ⟨(Below.refl _ _).alloc (Nat.le_refl _) _, builderF_new _ _ _⟩
  go_wp2_with fail; generalize w1.alloc (.cells #[.pointer none, .slice none 0 0] 175) = W0 at *
  go_loopw [6] (fun iv wr => ∃ k : Nat, k ≤ 4 ∧ iv = .int .i64 (24 - 8 * (k : Int)) ∧ Hid (TxtAt w1 wr (preN ([ip / 16777216, ip / 65536 % 256, ip / 256 % 256, ip % 256].take k) ++ (if 0 < k ∧ k < 4 then [46] else [])))) (fun iv _ => (intOf iv + 8).toNat)
  case atStart => exact ⟨0, by omega, rfl, HI0⟩
  case round =>
   obtain ⟨k, hk, rfl, HB⟩ := hrel; have HWR : Hid (Below w.heap.size w wr) := HAB.out _ (HB1.out.trans (HB.out.bel.mono HB1.out.size))
   have HBX : Hid (Below (w.alloc (.cells #[.int .u32 (ip : Int), .int .i64 (b : Int), .int .i64 (lo : Int), .int .i64 (hi : Int)] 45)).heap.size (w.alloc (.cells #[.int .u32 (ip : Int), .int .i64 (b : Int), .int .i64 (lo : Int), .int .i64 (hi : Int)] 45)) wr) := HB1.out.trans (HB.out.bel.mono HB1.out.size); obtain ⟨c0, c1, c2, c3⟩ := HC4.out wr HBX.out
   by_cases h4 : k < 4
   ·have hk4 : k = 0 ∨ k = 1 ∨ k = 2 ∨ k = 3 := by omega
    clear hk h4; rcases hk4 with rfl | rfl | rfl | rfl
    ·have hA : bits .and .u32 ((ip : Int) / 16777216) 255 = ((ip / 16777216 : Nat) : Int) := by
      have h := and255_u32 (ip / 16777216) (by omega); rw [Nat.mod_eq_of_lt (by omega)] at h; exact h
     have hsn := preN_snoc ([ip / 16777216, ip / 65536 % 256, ip / 256 % 256, ip % 256].take 0) (ip / 16777216); have hln := preN_len ([ip / 16777216, ip / 65536 % 256, ip / 256 % 256, ip % 256].take 0) (fun x hx => by simp at hx; try omega); have hAl := nDigits_le5 (u := ip / 16777216) (by omega); rw [← Lib.decDigits_length] at hAl
     have HPS : Hid (preN ([ip / 16777216, ip / 65536 % 256, ip / 256 % 256, ip % 256].take 1) = preN ([ip / 16777216, ip / 65536 % 256, ip / 256 % 256, ip % 256].take 0 ++ [ip / 16777216])) := rfl
     have HIT : Hid (∀ W, Below w.heap.size w W → Calls Tryz.prog 120 #[.int .i64 ((ip / 16777216 : Nat) : Int)] W fun e w' => e = .returned (.string ⟨(Lib.decDigits (ip / 16777216)).toArray⟩) ∧ Below W.heap.size W w') := fun W hb => Tryz.itoa_any _ (by omega) W (HTB.out W hb); rw [if_pos (show preN ([ip / 16777216, ip / 65536 % 256, ip / 256 % 256, ip % 256].take 0) = [] from rfl)] at hsn
     have hpre : preN ([ip / 16777216, ip / 65536 % 256, ip / 256 % 256, ip % 256].take 0) ++ (if 0 < 0 ∧ 0 < 4 then [46] else []) = [] := rfl; rw [hpre] at HB
     have HPS2 : Hid (preN ([ip / 16777216, ip / 65536 % 256, ip / 256 % 256, ip % 256].take 1) ++ (if 0 < 1 ∧ 1 < 4 then [46] else []) = [] ++ Lib.decDigits (ip / 16777216) ++ [46]) := by
      show _ = _; rw [HPS.out.trans hsn]; rfl
     generalize Lib.decDigits (ip / 16777216) = D at *
     simp only [List.length_take, List.length_cons, List.length_nil] at hln
     have hLl : Hid (([] : List UInt8).length ≤ 100) := by
      show _ ≤ _; simp
     have HDl := Lib.hid hAl; clear hsn HPS hln hAl hpre; have hwA : wrap64 (((ip / 16777216 : Nat) : Int)) = ((ip / 16777216 : Nat) : Int) := IntWalk.wrap64_in _ (by omega); generalize (ip / 16777216 : Nat) = A at *
     have HWS : Hid (∀ W, TxtAt w1 W [] → Calls Tryz.prog 80 #[.pointer (some ⟨w1.heap.size, 0, none⟩), .string ⟨D.toArray⟩] W fun e w' => (∃ n, e = .returned (.tuple #[.int .i64 n, .nilIface])) ∧ TxtAt w1 w' ([] ++ D)) := fun W h => (Tryz.ws_k w1.heap.size w1.heap.size (Lib.byteCells []) ⟨D.toArray⟩ W h.blt (by rw [Lib.byteCells_length, bsz]; have := hLl.out; have := HDl.out; omega) h.bel.size).mono fun e w' ⟨h1, h2, h3, _⟩ => ⟨⟨_, h1⟩, h.bel.trans h3, .inr (by rw [Lib.byteCells_append]; exact h2)⟩
     have HWB : Hid (∀ W, TxtAt w1 W ([] ++ D) → Calls Tryz.prog 176 #[.pointer (some ⟨w1.heap.size, 0, none⟩), .int .u8 46] W fun e w' => e = .returned .nilIface ∧ TxtAt w1 w' ([] ++ D ++ [46])) := fun W h => (Tryz.wb_k w1.heap.size w1.heap.size (Lib.byteCells ([] ++ D)) 46 W h.blt (by rw [Lib.byteCells_length, List.length_append]; have := hLl.out; have := HDl.out; omega) h.bel.size).mono fun e w' ⟨h1, h2, h3, _⟩ => ⟨h1, h.bel.trans h3, .inr (by rw [Lib.byteCells_append]; exact h2)⟩
     go_wp2_with (first
      | (go_at_call 120; refine cargs (by simp [Act.eval, hA, hwA]) ((HIT.out _ HWR.out).mono ?_); rintro e w2 ⟨rfl, hb2⟩; have HB2 : Hid (TxtAt w1 w2 []) := ⟨HB.out.bel.trans (hb2.mono HB.out.bel.size), builderF_below HB.out.blt hb2⟩)
      | (go_at_call 80; refine cargs (by simp [Act.eval]) ((HWS.out _ HB2.out).mono ?_); rintro e w3 ⟨⟨n3, rfl⟩, hb3⟩; have HB3 := Lib.hid hb3; clear hb3)
      | (go_at_call 176; refine cargs (by simp [Act.eval]) ((HWB.out _ HB3.out).mono ?_); rintro e w4 ⟨rfl, hb4⟩; have HB4 := Lib.hid hb4; clear hb4))
     go_roundw
     case rel => exact ⟨1, by omega, rfl, by rw [HPS2.out]; exact HB4⟩
     case measure => simp [intOf]
    ·have hA : bits .and .u32 ((ip : Int) / 65536) 255 = ((ip / 65536 % 256 : Nat) : Int) := and255_u32 (ip / 65536) (by omega); have hsn := preN_snoc ([ip / 16777216, ip / 65536 % 256, ip / 256 % 256, ip % 256].take 1) (ip / 65536 % 256); have hln := preN_len ([ip / 16777216, ip / 65536 % 256, ip / 256 % 256, ip % 256].take 1) (fun x hx => by simp at hx; try omega)
     have hAl := nDigits_le5 (u := ip / 65536 % 256) (by omega); rw [← Lib.decDigits_length] at hAl; have HPS : Hid (preN ([ip / 16777216, ip / 65536 % 256, ip / 256 % 256, ip % 256].take 2) = preN ([ip / 16777216, ip / 65536 % 256, ip / 256 % 256, ip % 256].take 1 ++ [ip / 65536 % 256])) := rfl
     have HIT : Hid (∀ W, Below w.heap.size w W → Calls Tryz.prog 120 #[.int .i64 ((ip / 65536 % 256 : Nat) : Int)] W fun e w' => e = .returned (.string ⟨(Lib.decDigits (ip / 65536 % 256)).toArray⟩) ∧ Below W.heap.size W w') := fun W hb => Tryz.itoa_any _ (by omega) W (HTB.out W hb)
     have hne : preN ([ip / 16777216, ip / 65536 % 256, ip / 256 % 256, ip % 256].take 1) ≠ [] := preN_ne ([ip / 16777216, ip / 65536 % 256, ip / 256 % 256, ip % 256].take 0) _; rw [if_neg hne] at hsn
     have hpre : preN ([ip / 16777216, ip / 65536 % 256, ip / 256 % 256, ip % 256].take 1) ++ (if 0 < 1 ∧ 1 < 4 then [46] else []) = preN ([ip / 16777216, ip / 65536 % 256, ip / 256 % 256, ip % 256].take 1) ++ [46] := rfl; rw [hpre] at HB
     have HPS2 : Hid (preN ([ip / 16777216, ip / 65536 % 256, ip / 256 % 256, ip % 256].take 2) ++ (if 0 < 2 ∧ 2 < 4 then [46] else []) = preN ([ip / 16777216, ip / 65536 % 256, ip / 256 % 256, ip % 256].take 1) ++ [46] ++ Lib.decDigits (ip / 65536 % 256) ++ [46]) := by
      show _ = _; rw [HPS.out.trans hsn]; rfl
     generalize Lib.decDigits (ip / 65536 % 256) = D at *
     obtain ⟨L, HLdef⟩ : ∃ L, Hid (L = preN ([ip / 16777216, ip / 65536 % 256, ip / 256 % 256, ip % 256].take 1) ++ [46]) := ⟨preN ([ip / 16777216, ip / 65536 % 256, ip / 256 % 256, ip % 256].take 1) ++ [46], rfl⟩
     rw [← HLdef.out] at HB HPS2; simp only [List.length_take, List.length_cons, List.length_nil] at hln
     have hLl : Hid ((L : List UInt8).length ≤ 100) := by
      show _ ≤ _; rw [HLdef.out, List.length_append]; simp only [List.length_cons, List.length_nil]; omega
     have HDl := Lib.hid hAl; clear hsn HPS hln hAl hne hpre; have hwA : wrap64 (((ip / 65536 % 256 : Nat) : Int)) = ((ip / 65536 % 256 : Nat) : Int) := IntWalk.wrap64_in _ (by omega); generalize (ip / 65536 % 256 : Nat) = A at *
     have HWS : Hid (∀ W, TxtAt w1 W L → Calls Tryz.prog 80 #[.pointer (some ⟨w1.heap.size, 0, none⟩), .string ⟨D.toArray⟩] W fun e w' => (∃ n, e = .returned (.tuple #[.int .i64 n, .nilIface])) ∧ TxtAt w1 w' (L ++ D)) := fun W h => (Tryz.ws_k w1.heap.size w1.heap.size (Lib.byteCells L) ⟨D.toArray⟩ W h.blt (by rw [Lib.byteCells_length, bsz]; have := hLl.out; have := HDl.out; omega) h.bel.size).mono fun e w' ⟨h1, h2, h3, _⟩ => ⟨⟨_, h1⟩, h.bel.trans h3, .inr (by rw [Lib.byteCells_append]; exact h2)⟩
     have HWB : Hid (∀ W, TxtAt w1 W (L ++ D) → Calls Tryz.prog 176 #[.pointer (some ⟨w1.heap.size, 0, none⟩), .int .u8 46] W fun e w' => e = .returned .nilIface ∧ TxtAt w1 w' (L ++ D ++ [46])) := fun W h => (Tryz.wb_k w1.heap.size w1.heap.size (Lib.byteCells (L ++ D)) 46 W h.blt (by rw [Lib.byteCells_length, List.length_append]; have := hLl.out; have := HDl.out; omega) h.bel.size).mono fun e w' ⟨h1, h2, h3, _⟩ => ⟨h1, h.bel.trans h3, .inr (by rw [Lib.byteCells_append]; exact h2)⟩
     go_wp2_with (first
      | (go_at_call 120; refine cargs (by simp [Act.eval, hA, hwA]) ((HIT.out _ HWR.out).mono ?_); rintro e w2 ⟨rfl, hb2⟩; have HB2 : Hid (TxtAt w1 w2 L) := ⟨HB.out.bel.trans (hb2.mono HB.out.bel.size), builderF_below HB.out.blt hb2⟩)
      | (go_at_call 80; refine cargs (by simp [Act.eval]) ((HWS.out _ HB2.out).mono ?_); rintro e w3 ⟨⟨n3, rfl⟩, hb3⟩; have HB3 := Lib.hid hb3; clear hb3)
      | (go_at_call 176; refine cargs (by simp [Act.eval]) ((HWB.out _ HB3.out).mono ?_); rintro e w4 ⟨rfl, hb4⟩; have HB4 := Lib.hid hb4; clear hb4))
     go_roundw
     case rel => exact ⟨2, by omega, rfl, by rw [HPS2.out]; exact HB4⟩
     case measure => simp [intOf]
    ·have hA : bits .and .u32 ((ip : Int) / 256) 255 = ((ip / 256 % 256 : Nat) : Int) := and255_u32 (ip / 256) (by omega); have hsn := preN_snoc ([ip / 16777216, ip / 65536 % 256, ip / 256 % 256, ip % 256].take 2) (ip / 256 % 256); have hln := preN_len ([ip / 16777216, ip / 65536 % 256, ip / 256 % 256, ip % 256].take 2) (fun x hx => by simp at hx; try omega)
     have hAl := nDigits_le5 (u := ip / 256 % 256) (by omega); rw [← Lib.decDigits_length] at hAl; have HPS : Hid (preN ([ip / 16777216, ip / 65536 % 256, ip / 256 % 256, ip % 256].take 3) = preN ([ip / 16777216, ip / 65536 % 256, ip / 256 % 256, ip % 256].take 2 ++ [ip / 256 % 256])) := rfl
     have HIT : Hid (∀ W, Below w.heap.size w W → Calls Tryz.prog 120 #[.int .i64 ((ip / 256 % 256 : Nat) : Int)] W fun e w' => e = .returned (.string ⟨(Lib.decDigits (ip / 256 % 256)).toArray⟩) ∧ Below W.heap.size W w') := fun W hb => Tryz.itoa_any _ (by omega) W (HTB.out W hb)
     have hne : preN ([ip / 16777216, ip / 65536 % 256, ip / 256 % 256, ip % 256].take 2) ≠ [] := preN_ne ([ip / 16777216, ip / 65536 % 256, ip / 256 % 256, ip % 256].take 1) _; rw [if_neg hne] at hsn
     have hpre : preN ([ip / 16777216, ip / 65536 % 256, ip / 256 % 256, ip % 256].take 2) ++ (if 0 < 2 ∧ 2 < 4 then [46] else []) = preN ([ip / 16777216, ip / 65536 % 256, ip / 256 % 256, ip % 256].take 2) ++ [46] := rfl; rw [hpre] at HB
     have HPS2 : Hid (preN ([ip / 16777216, ip / 65536 % 256, ip / 256 % 256, ip % 256].take 3) ++ (if 0 < 3 ∧ 3 < 4 then [46] else []) = preN ([ip / 16777216, ip / 65536 % 256, ip / 256 % 256, ip % 256].take 2) ++ [46] ++ Lib.decDigits (ip / 256 % 256) ++ [46]) := by
      show _ = _; rw [HPS.out.trans hsn]; rfl
     generalize Lib.decDigits (ip / 256 % 256) = D at *
     obtain ⟨L, HLdef⟩ : ∃ L, Hid (L = preN ([ip / 16777216, ip / 65536 % 256, ip / 256 % 256, ip % 256].take 2) ++ [46]) := ⟨preN ([ip / 16777216, ip / 65536 % 256, ip / 256 % 256, ip % 256].take 2) ++ [46], rfl⟩
     rw [← HLdef.out] at HB HPS2; simp only [List.length_take, List.length_cons, List.length_nil] at hln
     have hLl : Hid ((L : List UInt8).length ≤ 100) := by
      show _ ≤ _; rw [HLdef.out, List.length_append]; simp only [List.length_cons, List.length_nil]; omega
     have HDl := Lib.hid hAl; clear hsn HPS hln hAl hne hpre; have hwA : wrap64 (((ip / 256 % 256 : Nat) : Int)) = ((ip / 256 % 256 : Nat) : Int) := IntWalk.wrap64_in _ (by omega); generalize (ip / 256 % 256 : Nat) = A at *
     have HWS : Hid (∀ W, TxtAt w1 W L → Calls Tryz.prog 80 #[.pointer (some ⟨w1.heap.size, 0, none⟩), .string ⟨D.toArray⟩] W fun e w' => (∃ n, e = .returned (.tuple #[.int .i64 n, .nilIface])) ∧ TxtAt w1 w' (L ++ D)) := fun W h => (Tryz.ws_k w1.heap.size w1.heap.size (Lib.byteCells L) ⟨D.toArray⟩ W h.blt (by rw [Lib.byteCells_length, bsz]; have := hLl.out; have := HDl.out; omega) h.bel.size).mono fun e w' ⟨h1, h2, h3, _⟩ => ⟨⟨_, h1⟩, h.bel.trans h3, .inr (by rw [Lib.byteCells_append]; exact h2)⟩
     have HWB : Hid (∀ W, TxtAt w1 W (L ++ D) → Calls Tryz.prog 176 #[.pointer (some ⟨w1.heap.size, 0, none⟩), .int .u8 46] W fun e w' => e = .returned .nilIface ∧ TxtAt w1 w' (L ++ D ++ [46])) := fun W h => (Tryz.wb_k w1.heap.size w1.heap.size (Lib.byteCells (L ++ D)) 46 W h.blt (by rw [Lib.byteCells_length, List.length_append]; have := hLl.out; have := HDl.out; omega) h.bel.size).mono fun e w' ⟨h1, h2, h3, _⟩ => ⟨h1, h.bel.trans h3, .inr (by rw [Lib.byteCells_append]; exact h2)⟩
     go_wp2_with (first
      | (go_at_call 120; refine cargs (by simp [Act.eval, hA, hwA]) ((HIT.out _ HWR.out).mono ?_); rintro e w2 ⟨rfl, hb2⟩; have HB2 : Hid (TxtAt w1 w2 L) := ⟨HB.out.bel.trans (hb2.mono HB.out.bel.size), builderF_below HB.out.blt hb2⟩)
      | (go_at_call 80; refine cargs (by simp [Act.eval]) ((HWS.out _ HB2.out).mono ?_); rintro e w3 ⟨⟨n3, rfl⟩, hb3⟩; have HB3 := Lib.hid hb3; clear hb3)
      | (go_at_call 176; refine cargs (by simp [Act.eval]) ((HWB.out _ HB3.out).mono ?_); rintro e w4 ⟨rfl, hb4⟩; have HB4 := Lib.hid hb4; clear hb4))
     go_roundw
     case rel => exact ⟨3, by omega, rfl, by rw [HPS2.out]; exact HB4⟩
     case measure => simp [intOf]
    ·have hA : bits .and .u32 ((ip : Int)) 255 = ((ip % 256 : Nat) : Int) := and255_u32 (ip) (by omega); have hsn := preN_snoc ([ip / 16777216, ip / 65536 % 256, ip / 256 % 256, ip % 256].take 3) (ip % 256); have hln := preN_len ([ip / 16777216, ip / 65536 % 256, ip / 256 % 256, ip % 256].take 3) (fun x hx => by simp at hx; try omega); have hAl := nDigits_le5 (u := ip % 256) (by omega)
     rw [← Lib.decDigits_length] at hAl; have HPS : Hid (preN ([ip / 16777216, ip / 65536 % 256, ip / 256 % 256, ip % 256].take 4) = preN ([ip / 16777216, ip / 65536 % 256, ip / 256 % 256, ip % 256].take 3 ++ [ip % 256])) := rfl
     have HIT : Hid (∀ W, Below w.heap.size w W → Calls Tryz.prog 120 #[.int .i64 ((ip % 256 : Nat) : Int)] W fun e w' => e = .returned (.string ⟨(Lib.decDigits (ip % 256)).toArray⟩) ∧ Below W.heap.size W w') := fun W hb => Tryz.itoa_any _ (by omega) W (HTB.out W hb)
     have hne : preN ([ip / 16777216, ip / 65536 % 256, ip / 256 % 256, ip % 256].take 3) ≠ [] := preN_ne ([ip / 16777216, ip / 65536 % 256, ip / 256 % 256, ip % 256].take 2) _; rw [if_neg hne] at hsn
     have hpre : preN ([ip / 16777216, ip / 65536 % 256, ip / 256 % 256, ip % 256].take 3) ++ (if 0 < 3 ∧ 3 < 4 then [46] else []) = preN ([ip / 16777216, ip / 65536 % 256, ip / 256 % 256, ip % 256].take 3) ++ [46] := rfl; rw [hpre] at HB
     have HPS2 : Hid (preN ([ip / 16777216, ip / 65536 % 256, ip / 256 % 256, ip % 256].take 4) ++ (if 0 < 4 ∧ 4 < 4 then [46] else []) = preN ([ip / 16777216, ip / 65536 % 256, ip / 256 % 256, ip % 256].take 3) ++ [46] ++ Lib.decDigits (ip % 256)) := by
      show _ = _; rw [HPS.out.trans hsn]; simp
     generalize Lib.decDigits (ip % 256) = D at *
     obtain ⟨L, HLdef⟩ : ∃ L, Hid (L = preN ([ip / 16777216, ip / 65536 % 256, ip / 256 % 256, ip % 256].take 3) ++ [46]) := ⟨preN ([ip / 16777216, ip / 65536 % 256, ip / 256 % 256, ip % 256].take 3) ++ [46], rfl⟩
     rw [← HLdef.out] at HB HPS2; simp only [List.length_take, List.length_cons, List.length_nil] at hln
     have hLl : Hid ((L : List UInt8).length ≤ 100) := by
      show _ ≤ _; rw [HLdef.out, List.length_append]; simp only [List.length_cons, List.length_nil]; omega
     have HDl := Lib.hid hAl; clear hsn HPS hln hAl hne hpre; have hwA : wrap64 (((ip % 256 : Nat) : Int)) = ((ip % 256 : Nat) : Int) := IntWalk.wrap64_in _ (by omega); generalize (ip % 256 : Nat) = A at *
     have HWS : Hid (∀ W, TxtAt w1 W L → Calls Tryz.prog 80 #[.pointer (some ⟨w1.heap.size, 0, none⟩), .string ⟨D.toArray⟩] W fun e w' => (∃ n, e = .returned (.tuple #[.int .i64 n, .nilIface])) ∧ TxtAt w1 w' (L ++ D)) := fun W h => (Tryz.ws_k w1.heap.size w1.heap.size (Lib.byteCells L) ⟨D.toArray⟩ W h.blt (by rw [Lib.byteCells_length, bsz]; have := hLl.out; have := HDl.out; omega) h.bel.size).mono fun e w' ⟨h1, h2, h3, _⟩ => ⟨⟨_, h1⟩, h.bel.trans h3, .inr (by rw [Lib.byteCells_append]; exact h2)⟩
     go_wp2_with (first
      | (go_at_call 120; refine cargs (by simp [Act.eval, hA, hwA]) ((HIT.out _ HWR.out).mono ?_); rintro e w2 ⟨rfl, hb2⟩; have HB2 : Hid (TxtAt w1 w2 L) := ⟨HB.out.bel.trans (hb2.mono HB.out.bel.size), builderF_below HB.out.blt hb2⟩)
      | (go_at_call 80; refine cargs (by simp [Act.eval]) ((HWS.out _ HB2.out).mono ?_); rintro e w3 ⟨⟨n3, rfl⟩, hb3⟩; have HB3 := Lib.hid hb3; clear hb3))
     go_roundw
     case rel => exact ⟨4, by omega, rfl, by rw [HPS2.out]; exact HB3⟩
     case measure => simp [intOf]
   ·obtain rfl : k = 4 := by omega
    have HALL : Hid (∀ W, Below (w.alloc (.cells #[.int .u32 (ip : Int), .int .i64 (b : Int), .int .i64 (lo : Int), .int .i64 (hi : Int)] 45)).heap.size (w.alloc (.cells #[.int .u32 (ip : Int), .int .i64 (b : Int), .int .i64 (lo : Int), .int .i64 (hi : Int)] 45)) W → W.cell? ⟨w.heap.size, 1, none⟩ = some (.int .i64 (b : Int)) ∧ W.cell? ⟨w.heap.size, 2, none⟩ = some (.int .i64 (lo : Int)) ∧ W.cell? ⟨w.heap.size, 3, none⟩ = some (.int .i64 (hi : Int))) := fun W hb => (HC4.out W hb).2
    have HDb : Hid (∀ W, Below (w.alloc (.cells #[.int .u32 (ip : Int), .int .i64 (b : Int), .int .i64 (lo : Int), .int .i64 (hi : Int)] 45)).heap.size (w.alloc (.cells #[.int .u32 (ip : Int), .int .i64 (b : Int), .int .i64 (lo : Int), .int .i64 (hi : Int)] 45)) W → Calls Tryz.prog 120 #[.int .i64 (b : Int)] W fun e w' => e = .returned (.string ⟨(Lib.decDigits b).toArray⟩) ∧ Below W.heap.size W w') := fun W hb => Tryz.itoa_any _ (by omega) W (HTB.out W (HAB.out W hb))
    have HDl : Hid (∀ W, Below (w.alloc (.cells #[.int .u32 (ip : Int), .int .i64 (b : Int), .int .i64 (lo : Int), .int .i64 (hi : Int)] 45)).heap.size (w.alloc (.cells #[.int .u32 (ip : Int), .int .i64 (b : Int), .int .i64 (lo : Int), .int .i64 (hi : Int)] 45)) W → Calls Tryz.prog 120 #[.int .i64 (lo : Int)] W fun e w' => e = .returned (.string ⟨(Lib.decDigits lo).toArray⟩) ∧ Below W.heap.size W w') := fun W hb => Tryz.itoa_any _ (by omega) W (HTB.out W (HAB.out W hb))
    have HDh : Hid (∀ W, Below (w.alloc (.cells #[.int .u32 (ip : Int), .int .i64 (b : Int), .int .i64 (lo : Int), .int .i64 (hi : Int)] 45)).heap.size (w.alloc (.cells #[.int .u32 (ip : Int), .int .i64 (b : Int), .int .i64 (lo : Int), .int .i64 (hi : Int)] 45)) W → Calls Tryz.prog 120 #[.int .i64 (hi : Int)] W fun e w' => e = .returned (.string ⟨(Lib.decDigits hi).toArray⟩) ∧ Below W.heap.size W w') := fun W hb => Tryz.itoa_any _ (by omega) W (HTB.out W (HAB.out W hb))
    have hln := preN_len ([ip / 16777216, ip / 65536 % 256, ip / 256 % 256, ip % 256].take 4) (fun x hx => by simp at hx; omega); have l1 := nDigits_le5 (u := b) (by omega); have l2 := nDigits_le5 (u := lo) (by omega); have l3 := nDigits_le5 (u := hi) (by omega); rw [← Lib.decDigits_length] at l1 l2 l3
    have HTT : Hid (textN ⟨ip, b, lo, hi⟩ = preN ([ip / 16777216, ip / 65536 % 256, ip / 256 % 256, ip % 256].take 4) ++ (47 :: Lib.decDigits b) ++ (58 :: Lib.decDigits lo) ++ (45 :: Lib.decDigits hi)) := HT.out
    rw [show preN ([ip / 16777216, ip / 65536 % 256, ip / 256 % 256, ip % 256].take 4) ++ (if 0 < 4 ∧ 4 < 4 then [46] else []) = preN ([ip / 16777216, ip / 65536 % 256, ip / 256 % 256, ip % 256].take 4) from by simp] at HB; generalize Lib.decDigits b = D1 at *
    generalize Lib.decDigits lo = D2 at *
    generalize Lib.decDigits hi = D3 at *
    generalize preN ([ip / 16777216, ip / 65536 % 256, ip / 256 % 256, ip % 256].take 4) = L at *
    simp only [List.length_take, List.length_cons, List.length_nil] at hln; have g1 : ¬ 9223372036854775807 < L.length + 1 := by omega
    have g2 : ¬ 9223372036854775807 < L.length + 1 + D1.length := by omega
    have g3 : ¬ 9223372036854775807 < L.length + 1 + D1.length + 1 := by omega
    have g4 : ¬ 9223372036854775807 < L.length + 1 + D1.length + 1 + D2.length := by omega
    have g5 : ¬ 9223372036854775807 < L.length + 1 + D1.length + 1 + D2.length + 1 := by omega
    have g6 : ¬ 9223372036854775807 < L.length + 1 + D1.length + 1 + D2.length + 1 + D3.length := by omega
    have HST : Hid (∀ W, TxtAt w1 W L → Calls Tryz.prog 84 #[.pointer (some ⟨w1.heap.size, 0, none⟩)] W fun e w' => e = .returned (.string ⟨L.toArray⟩) ∧ Below w1.heap.size w1 w') := fun W h => (Tryz.str_k w1.heap.size w1.heap.size L W h.blt h.bel.size).mono fun e w' ⟨h1, _, h3, _⟩ => ⟨h1, h.bel.trans h3⟩
    have HBD : Hid (TxtAt w1 wr.drew L) := ⟨HB.out.bel.drew, HB.out.blt⟩
    clear hln l1 l2 l3 c0 c1 c2 c3
    go_wp2_with fail
    go_region_held3 (fun w' : World => w'.cell? ⟨w.heap.size, 1, none⟩ = some (.int .i64 (b : Int)) ∧ w'.cell? ⟨w.heap.size, 2, none⟩ = some (.int .i64 (lo : Int)) ∧ w'.cell? ⟨w.heap.size, 3, none⟩ = some (.int .i64 (hi : Int))) (first | exact HALL.out _ HE5.out | exact HALL.out _ HE4.out | exact HALL.out _ HE3.out | exact HALL.out _ HE2.out | exact HALL.out _ HBX.out | exact HALL.out _ HBX.out.drew) (first
     | (go_at_call 84; refine cargs (by first | (simp [Act.eval]; done) | fail) ((HST.out _ HBD.out).mono ?_); rintro e w2 ⟨rfl, hb2⟩; have HE2 : Hid (Below (w.alloc (.cells #[.int .u32 (ip : Int), .int .i64 (b : Int), .int .i64 (lo : Int), .int .i64 (hi : Int)] 45)).heap.size (w.alloc (.cells #[.int .u32 (ip : Int), .int .i64 (b : Int), .int .i64 (lo : Int), .int .i64 (hi : Int)] 45)) w2) := HB1.out.trans (hb2.mono HB1.out.size); clear hb2)
     | (go_at_call 120; refine cargs (by first | (simp [Act.eval]; done) | fail) ((HDb.out _ HE2.out).mono ?_); rintro e w3 ⟨rfl, hb3⟩; have HE3 : Hid (Below (w.alloc (.cells #[.int .u32 (ip : Int), .int .i64 (b : Int), .int .i64 (lo : Int), .int .i64 (hi : Int)] 45)).heap.size (w.alloc (.cells #[.int .u32 (ip : Int), .int .i64 (b : Int), .int .i64 (lo : Int), .int .i64 (hi : Int)] 45)) w3) := HE2.out.trans (hb3.mono HE2.out.size); clear hb3)
     | (go_at_call 120; refine cargs (by first | (simp [Act.eval]; done) | fail) ((HDl.out _ HE3.out).mono ?_); rintro e w4 ⟨rfl, hb4⟩; have HE4 : Hid (Below (w.alloc (.cells #[.int .u32 (ip : Int), .int .i64 (b : Int), .int .i64 (lo : Int), .int .i64 (hi : Int)] 45)).heap.size (w.alloc (.cells #[.int .u32 (ip : Int), .int .i64 (b : Int), .int .i64 (lo : Int), .int .i64 (hi : Int)] 45)) w4) := HE3.out.trans (hb4.mono HE3.out.size); clear hb4)
     | (go_at_call 120; refine cargs (by first | (simp [Act.eval]; done) | fail) ((HDh.out _ HE4.out).mono ?_); rintro e w5 ⟨rfl, hb5⟩; have HE5 : Hid (Below (w.alloc (.cells #[.int .u32 (ip : Int), .int .i64 (b : Int), .int .i64 (lo : Int), .int .i64 (hi : Int)] 45)).heap.size (w.alloc (.cells #[.int .u32 (ip : Int), .int .i64 (b : Int), .int .i64 (lo : Int), .int .i64 (hi : Int)] 45)) w5) := HE4.out.trans (hb5.mono HE4.out.size); clear hb5))
    go_wp2_with fail
    go_returns
    refine ⟨?_, HAB.out _ HE5.out⟩; rw [HTT.out]; refine congrArg Ending.returned ?_; refine congrArg (fun v => Value.tuple #[v, .nilIface]) ?_; show Value.string _ = _; simp only [bstr_app]; simp
 ·rw [if_neg hf, errV_pos hf]; rw [errV_pos hf] at HCK; generalize netF x = nf at *
  obtain ⟨ip, b, lo, hi⟩ := x; have HAB := Lib.hid (box_below w (.cells #[.int .u32 ip, .int .i64 b, .int .i64 lo, .int .i64 hi] 45)); unfold NetD.v at HCK ⊢; simp only at HCK ⊢; have HCK2 : Hid (∀ w, Calls Tryz.prog 171 #[.agg #[.int .u32 ip, .int .i64 b, .int .i64 lo, .int .i64 hi]] w fun e' w' => e' = .returned (.iface 105 (.int .i64 nf)) ∧ Below w.heap.size w w') := HCK.out; clear HCK hf hok
  go_enter Tryz.func136, Tryz.ntmps136
  go_wp2_with (go_at_call 171; refine cargs (by simp [Act.eval]) ((HCK2.out _).mono ?_); rintro e w1 ⟨rfl, hb1⟩; have HB1 := Lib.hid hb1; clear hb1)
  go_returns
  exact ⟨rfl, HAB.out _ HB1.out⟩
end Go.Proofs.YtmgngapkgcofnabGreatDoor
