/- The maker of a program: cond: the walk. Printed by gencompcond.py. -/
import Derived.Test.YtmgngapkgcofnabGreatDoorP16
import Derived.Deep.RegionHeld3
import Derived.Test.YtmgngapkgcofnabGreatDoorP17
import Derived.Test.YtmgngapkgcofnabGreatDoorP18
namespace Go.Proofs.YtmgngapkgcofnabGreatDoor
open Go.RowKit Go.PlainAid
def ldI (a h : Nat) : Ins := Ins.mk 1 0 0 ((8 + 8 * a + 4 * h : Nat) : Int)
def jmpI : Ins := Ins.mk 3 0 0 0
def condL (op : Int) (a v m : Nat) : List Ins :=
 if op = 1 then [ldI a 1, Ins.mk 4 1 0 (v / 4294967296 : Nat), jmpI, ldI a 0, Ins.mk 4 1 0 (v % 4294967296 : Nat), jmpI]
 else if op = 2 then [ldI a 1, Ins.mk 4 0 3 (v / 4294967296 : Nat), ldI a 0, Ins.mk 4 0 1 (v % 4294967296 : Nat), jmpI]
 else if op = 5 ∨ op = 6 then [ldI a 1, Ins.mk 5 5 0 (v / 4294967296 : Nat), Ins.mk 4 1 0 (v / 4294967296 : Nat), jmpI, ldI a 0, Ins.mk (if op = 5 then 5 else 6) 1 0 (v % 4294967296 : Nat), jmpI]
 else if op = 3 ∨ op = 4 then [ldI a 1, Ins.mk 5 1 0 (v / 4294967296 : Nat), Ins.mk 4 1 4 (v / 4294967296 : Nat), jmpI, ldI a 0, Ins.mk (if op = 3 then 6 else 5) 0 1 (v % 4294967296 : Nat), jmpI]
 else if op = 7 then [ldI a 1, Ins.mk 2 0 0 (m / 4294967296 : Nat), Ins.mk 4 1 0 (v / 4294967296 : Nat), jmpI, ldI a 0, Ins.mk 2 0 0 (m % 4294967296 : Nat), Ins.mk 4 1 0 (v % 4294967296 : Nat), jmpI]
 else [ldI a 1]
def condO (op : Int) : List Nat := if op = 1 then [2, 5] else if op = 2 then [4] else if op = 5 ∨ op = 6 then [3, 6] else if op = 3 ∨ op = 4 then [3, 6] else if op = 7 then [3, 7] else []
structure XAt (W0 w' : World) (m : Nat) (l : List Ins) (o : List Int) : Prop where
 mak : MakerAt w' m l o
 bel : Bel m W0 w'
theorem XAt.alloc {W0 w' : World} {m : Nat} {l : List Ins} {o : List Int} (h : XAt W0 w' m l o) (ob : Obj) : XAt W0 (w'.alloc ob) m l o :=
 ⟨h.mak.via ((Below.refl _ _).alloc (Nat.le_refl _) ob) (Nat.le_refl _), h.bel.trans (Bel.of_below ((Below.refl _ _).alloc (Nat.le_refl _) ob) (Nat.le_of_lt h.mak.lt))⟩
theorem XAt.low {W0 w' W : World} {m : Nat} {l : List Ins} {o : List Int} (h : XAt W0 w' m l o) (hb : Below w'.heap.size w' W) : XAt W0 W m l o :=
 ⟨h.mak.via hb (Nat.le_refl _), h.bel.trans (Bel.of_below hb (Nat.le_of_lt h.mak.lt))⟩
set_option linter.unusedSimpArgs false in
set_option maxRecDepth 100000 in
set_option maxHeartbeats 4000000 in
theorem mkCond_any (m : Nat) (l : List Ins) (opn : List Int) (a : Nat) (op : Int) (v mm : Nat) (glob : ByteArray) (ip bits lo hi : Int) (w : World) (h : MakerAt w m l opn) (hl : l.length ≤ 90000) (ho : opn.length ≤ 90000) (ha : a < 4) (hv : v < 18446744073709551616) (hm : mm < 18446744073709551616) (hop : 1 ≤ op ∧ op ≤ 7) :
  Calls Tryz.prog 78 #[.pointer (some ⟨m, 0, none⟩), .agg #[.int .i64 (a : Int), .int .i64 op, .int .u64 (v : Int), .int .u64 (mm : Int), .string glob, .int .u32 ip, .int .i64 bits, .int .i64 lo, .int .i64 hi]] w fun e w' => e = .returned (.tuple #[]) ∧ MakerAt w' m (l ++ condL op a v mm) (opn ++ (condO op).map fun i => ((l.length + i : Nat) : Int)) ∧ Bel m w w' := by
 have hms := h.lt
 have HX0 : Hid (XAt (w.alloc (.cells #[.int .i64 (a : Int), .int .i64 op, .int .u64 (v : Int), .int .u64 (mm : Int), .string glob, .int .u32 ip, .int .i64 bits, .int .i64 lo, .int .i64 hi] 47)) (w.alloc (.cells #[.int .i64 (a : Int), .int .i64 op, .int .u64 (v : Int), .int .u64 (mm : Int), .string glob, .int .u32 ip, .int .i64 bits, .int .i64 lo, .int .i64 hi] 47)).drew m l opn) := by
  have h1 : Below w.heap.size w (w.alloc (.cells #[.int .i64 (a : Int), .int .i64 op, .int .u64 (v : Int), .int .u64 (mm : Int), .string glob, .int .u32 ip, .int .i64 bits, .int .i64 lo, .int .i64 hi] 47)).drew := ((Below.refl _ _).alloc (Nat.le_refl _) _).trans ⟨rfl, rfl, rfl, Nat.le_refl _, fun _ _ => rfl⟩
  exact ⟨h.via h1 (Nat.le_refl _), ⟨⟨rfl, rfl, rfl, Nat.le_refl _, fun _ _ => rfl⟩, fun _ _ _ _ h _ _ _ => h⟩⟩
 have HB0 : Hid (Bel m w (w.alloc (.cells #[.int .i64 (a : Int), .int .i64 op, .int .u64 (v : Int), .int .u64 (mm : Int), .string glob, .int .u32 ip, .int .i64 bits, .int .i64 lo, .int .i64 hi] 47))) := Bel.of_below ((Below.refl _ _).alloc (Nat.le_refl _) _) (Nat.le_of_lt hms)
 have HCELL : Hid (∀ W' l' o', XAt (w.alloc (.cells #[.int .i64 (a : Int), .int .i64 op, .int .u64 (v : Int), .int .u64 (mm : Int), .string glob, .int .u32 ip, .int .i64 bits, .int .i64 lo, .int .i64 hi] 47)) W' m l' o' → W'.cell? ⟨w.heap.size, 0, none⟩ = some (.int .i64 (a : Int)) ∧ W'.cell? ⟨w.heap.size, 1, none⟩ = some (.int .i64 op) ∧ W'.cell? ⟨w.heap.size, 2, none⟩ = some (.int .u64 (v : Int)) ∧ W'.cell? ⟨w.heap.size, 3, none⟩ = some (.int .u64 (mm : Int)) ∧ W'.cell? ⟨w.heap.size, 4, none⟩ = some (.string glob) ∧ W'.cell? ⟨w.heap.size, 5, none⟩ = some (.int .u32 ip) ∧ W'.cell? ⟨w.heap.size, 6, none⟩ = some (.int .i64 bits) ∧ W'.cell? ⟨w.heap.size, 7, none⟩ = some (.int .i64 lo) ∧ W'.cell? ⟨w.heap.size, 8, none⟩ = some (.int .i64 hi)) := fun W' l' o' hx => by
  have hb := hx.bel.kept w.heap.size _ _ _ (heap_alloc_new w (.cells #[.int .i64 (a : Int), .int .i64 op, .int .u64 (v : Int), .int .u64 (mm : Int), .string glob, .int .u32 ip, .int .i64 bits, .int .i64 lo, .int .i64 hi] 47)) (by decide) (by decide) (by decide); refine ⟨?_, ?_, ?_, ?_, ?_, ?_, ?_, ?_, ?_⟩ <;> (rw [cell_of_row W' _ _ _ _ _ hb]; rfl)
 have HADD : Hid (∀ W' l' o' (o jt jf k : Int), XAt (w.alloc (.cells #[.int .i64 (a : Int), .int .i64 op, .int .u64 (v : Int), .int .u64 (mm : Int), .string glob, .int .u32 ip, .int .i64 bits, .int .i64 lo, .int .i64 hi] 47)) W' m l' o' → l'.length ≤ 99990 → Calls Tryz.prog 75 #[.pointer (some ⟨m, 0, none⟩), .int .i64 o, .int .i64 jt, .int .i64 jf, .int .u32 k] W' fun e w' => e = .returned (.tuple #[]) ∧ XAt (w.alloc (.cells #[.int .i64 (a : Int), .int .i64 op, .int .u64 (v : Int), .int .u64 (mm : Int), .string glob, .int .u32 ip, .int .i64 bits, .int .i64 lo, .int .i64 hi] 47)) w' m (l' ++ [Ins.mk o jt jf k]) o') := fun W' l' o' o jt jf k hx hl' =>
  (add_any m l' o' o jt jf k W' hx.mak (by omega)).mono fun e w' ⟨h1, h2, h3⟩ => ⟨h1, h2, hx.bel.trans h3⟩
 have HHALF : Hid (∀ W' l' o' (h : Nat), XAt (w.alloc (.cells #[.int .i64 (a : Int), .int .i64 op, .int .u64 (v : Int), .int .u64 (mm : Int), .string glob, .int .u32 ip, .int .i64 bits, .int .i64 lo, .int .i64 hi] 47)) W' m l' o' → l'.length ≤ 99990 → h < 2 → Calls Tryz.prog 133 #[.pointer (some ⟨m, 0, none⟩), .int .i64 (a : Int), .int .i64 (h : Int)] W' fun e w' => e = .returned (.tuple #[]) ∧ XAt (w.alloc (.cells #[.int .i64 (a : Int), .int .i64 op, .int .u64 (v : Int), .int .u64 (mm : Int), .string glob, .int .u32 ip, .int .i64 bits, .int .i64 lo, .int .i64 hi] 47)) w' m (l' ++ [ldI a h]) o') := fun W' l' o' h hx hl' hh =>
  (half_any m l' o' a h W' hx.mak (by omega) ha hh).mono fun e w' ⟨h1, h2, h3⟩ => ⟨h1, h2, hx.bel.trans h3⟩
 have HNEED : Hid (∀ W' l' o' (o k : Int), XAt (w.alloc (.cells #[.int .i64 (a : Int), .int .i64 op, .int .u64 (v : Int), .int .u64 (mm : Int), .string glob, .int .u32 ip, .int .i64 bits, .int .i64 lo, .int .i64 hi] 47)) W' m l' o' → l'.length ≤ 99990 → o'.length ≤ 99990 → Calls Tryz.prog 77 #[.pointer (some ⟨m, 0, none⟩), .int .i64 o, .int .u32 k] W' fun e w' => e = .returned (.tuple #[]) ∧ XAt (w.alloc (.cells #[.int .i64 (a : Int), .int .i64 op, .int .u64 (v : Int), .int .u64 (mm : Int), .string glob, .int .u32 ip, .int .i64 bits, .int .i64 lo, .int .i64 hi] 47)) w' m (l' ++ [Ins.mk o 1 0 k, jmpI]) (o' ++ [((l'.length + 1 : Nat) : Int)])) := fun W' l' o' o k hx hl' ho' =>
  (need_any m l' o' o k W' hx.mak (by omega) (by omega)).mono fun e w' ⟨h1, h2, h3⟩ => ⟨h1, h2, hx.bel.trans h3⟩
 have HAWAY : Hid (∀ W' l' o', XAt (w.alloc (.cells #[.int .i64 (a : Int), .int .i64 op, .int .u64 (v : Int), .int .u64 (mm : Int), .string glob, .int .u32 ip, .int .i64 bits, .int .i64 lo, .int .i64 hi] 47)) W' m l' o' → l'.length ≤ 99990 → o'.length ≤ 99990 → Calls Tryz.prog 132 #[.pointer (some ⟨m, 0, none⟩)] W' fun e w' => e = .returned (.tuple #[]) ∧ XAt (w.alloc (.cells #[.int .i64 (a : Int), .int .i64 op, .int .u64 (v : Int), .int .u64 (mm : Int), .string glob, .int .u32 ip, .int .i64 bits, .int .i64 lo, .int .i64 hi] 47)) w' m (l' ++ [jmpI]) (o' ++ [(l'.length : Int)])) := fun W' l' o' hx hl' ho' =>
  (away_any m l' o' W' hx.mak (by omega) (by omega)).mono fun e w' ⟨h1, h2, h3⟩ => ⟨h1, h2, hx.bel.trans h3⟩
 have HFIN : Hid (∀ W' l' o', XAt (w.alloc (.cells #[.int .i64 (a : Int), .int .i64 op, .int .u64 (v : Int), .int .u64 (mm : Int), .string glob, .int .u32 ip, .int .i64 bits, .int .i64 lo, .int .i64 hi] 47)) W' m l' o' → l' = l ++ condL op a v mm → o' = opn ++ ((condO op).map fun i => ((l.length + i : Nat) : Int)) → MakerAt W' m (l ++ condL op a v mm) (opn ++ (condO op).map fun i => ((l.length + i : Nat) : Int)) ∧ Bel m w W') := fun W' l' o' hx e1 e2 => by subst e1 e2; exact ⟨hx.mak, HB0.out.trans hx.bel⟩
 obtain ⟨vh, hvh⟩ : ∃ vh, vh = v / 4294967296 := ⟨_, rfl⟩
 obtain ⟨vl, hvl⟩ : ∃ vl, vl = v % 4294967296 := ⟨_, rfl⟩
 obtain ⟨mh, hmh⟩ : ∃ mh, mh = mm / 4294967296 := ⟨_, rfl⟩
 obtain ⟨ml, hml⟩ : ∃ ml, ml = mm % 4294967296 := ⟨_, rfl⟩
 have z1 : (v : Int) / 4294967296 = (vh : Int) := by omega
 have z2 : (v : Int) % 4294967296 = (vl : Int) := by omega
 have z3 : (mm : Int) / 4294967296 = (mh : Int) := by omega
 have z4 : (mm : Int) % 4294967296 = (ml : Int) := by omega
 have z5 : vh < 4294967296 := by omega
 have z6 : mh < 4294967296 := by omega
 have HVH := Lib.hid hvh; have HVL := Lib.hid hvl; have HMH := Lib.hid hmh; have HML := Lib.hid hml; have HL := Lib.hid hl; have HO := Lib.hid ho; clear h hvh hvl hmh hml ha hl ho; have hops : op = 1 ∨ op = 2 ∨ op = 3 ∨ op = 4 ∨ op = 5 ∨ op = 6 ∨ op = 7 := by omega
 clear hop; rcases hops with rfl | rfl | rfl | rfl | rfl | rfl | rfl
 ·go_enter Tryz.func78, Tryz.ntmps78
  go_wp2_with fail
  go_region
  have hx0 := HX0.out; obtain ⟨q0, q1, q2, q3, q4, q5, q6, q7, q8⟩ := HCELL.out _ _ _ hx0
  go_wp2_with (first
   | (go_at_call 133; refine cargs (by first | (simp [Act.eval]; done) | fail) ((HHALF.out _ _ _ 1 (by first | exact hx0 | exact hx0.alloc _) (by have := HL.out; have := HO.out; (try simp only [List.length_append, List.length_cons, List.length_nil]); omega) (by omega)).mono ?_); rintro e w1 ⟨rfl, hx1⟩; obtain ⟨q0, q1, q2, q3, q4, q5, q6, q7, q8⟩ := HCELL.out _ _ _ hx1)
   | (go_at_call 77; refine cargs (by first | (simp [Act.eval]; done) | fail) ((HNEED.out _ _ _ 4 (vh : Int) (by first | exact hx1 | exact hx1.alloc _) (by have := HL.out; have := HO.out; (try simp only [List.length_append, List.length_cons, List.length_nil]); omega) (by have := HL.out; have := HO.out; (try simp only [List.length_append, List.length_cons, List.length_nil]); omega)).mono ?_); rintro e w2 ⟨rfl, hx2⟩; obtain ⟨q0, q1, q2, q3, q4, q5, q6, q7, q8⟩ := HCELL.out _ _ _ hx2)
   | (go_at_call 133; refine cargs (by first | (simp [Act.eval]; done) | fail) ((HHALF.out _ _ _ 0 (by first | exact hx2 | exact hx2.alloc _) (by have := HL.out; have := HO.out; (try simp only [List.length_append, List.length_cons, List.length_nil]); omega) (by omega)).mono ?_); rintro e w3 ⟨rfl, hx3⟩; obtain ⟨q0, q1, q2, q3, q4, q5, q6, q7, q8⟩ := HCELL.out _ _ _ hx3)
   | (go_at_call 77; refine cargs (by first | (simp [Act.eval]; done) | fail) ((HNEED.out _ _ _ 4 (vl : Int) (by first | exact hx3 | exact hx3.alloc _) (by have := HL.out; have := HO.out; (try simp only [List.length_append, List.length_cons, List.length_nil]); omega) (by have := HL.out; have := HO.out; (try simp only [List.length_append, List.length_cons, List.length_nil]); omega)).mono ?_); rintro e w4 ⟨rfl, hx4⟩; obtain ⟨q0, q1, q2, q3, q4, q5, q6, q7, q8⟩ := HCELL.out _ _ _ hx4))
  go_returns
  refine ⟨rfl, HFIN.out _ _ _ hx4 ?_ ?_⟩
  ·simp [condL, ← HVH.out, ← HVL.out, ← HMH.out, ← HML.out]
  ·simp [condO]; try omega
 ·go_enter Tryz.func78, Tryz.ntmps78
  go_wp2_with fail
  go_region
  have hx0 := HX0.out; obtain ⟨q0, q1, q2, q3, q4, q5, q6, q7, q8⟩ := HCELL.out _ _ _ hx0
  go_wp2_with (first
   | (go_at_call 133; refine cargs (by first | (simp [Act.eval]; done) | fail) ((HHALF.out _ _ _ 1 (by first | exact hx0 | exact hx0.alloc _) (by have := HL.out; have := HO.out; (try simp only [List.length_append, List.length_cons, List.length_nil]); omega) (by omega)).mono ?_); rintro e w1 ⟨rfl, hx1⟩; obtain ⟨q0, q1, q2, q3, q4, q5, q6, q7, q8⟩ := HCELL.out _ _ _ hx1)
   | (go_at_call 75; refine cargs (by first | (simp [Act.eval]; done) | fail) ((HADD.out _ _ _ 4 0 3 (vh : Int) (by first | exact hx1 | exact hx1.alloc _) (by have := HL.out; have := HO.out; (try simp only [List.length_append, List.length_cons, List.length_nil]); omega)).mono ?_); rintro e w2 ⟨rfl, hx2⟩; obtain ⟨q0, q1, q2, q3, q4, q5, q6, q7, q8⟩ := HCELL.out _ _ _ hx2)
   | (go_at_call 133; refine cargs (by first | (simp [Act.eval]; done) | fail) ((HHALF.out _ _ _ 0 (by first | exact hx2 | exact hx2.alloc _) (by have := HL.out; have := HO.out; (try simp only [List.length_append, List.length_cons, List.length_nil]); omega) (by omega)).mono ?_); rintro e w3 ⟨rfl, hx3⟩; obtain ⟨q0, q1, q2, q3, q4, q5, q6, q7, q8⟩ := HCELL.out _ _ _ hx3)
   | (go_at_call 75; refine cargs (by first | (simp [Act.eval]; done) | fail) ((HADD.out _ _ _ 4 0 1 (vl : Int) (by first | exact hx3 | exact hx3.alloc _) (by have := HL.out; have := HO.out; (try simp only [List.length_append, List.length_cons, List.length_nil]); omega)).mono ?_); rintro e w4 ⟨rfl, hx4⟩; obtain ⟨q0, q1, q2, q3, q4, q5, q6, q7, q8⟩ := HCELL.out _ _ _ hx4)
   | (go_at_call 132; refine cargs (by first | (simp [Act.eval]; done) | fail) ((HAWAY.out _ _ _ (by first | exact hx4 | exact hx4.alloc _) (by have := HL.out; have := HO.out; (try simp only [List.length_append, List.length_cons, List.length_nil]); omega) (by have := HL.out; have := HO.out; (try simp only [List.length_append, List.length_cons, List.length_nil]); omega)).mono ?_); rintro e w5 ⟨rfl, hx5⟩; obtain ⟨q0, q1, q2, q3, q4, q5, q6, q7, q8⟩ := HCELL.out _ _ _ hx5))
  go_returns
  refine ⟨rfl, HFIN.out _ _ _ hx5 ?_ ?_⟩
  ·simp [condL, ← HVH.out, ← HVL.out, ← HMH.out, ← HML.out]
  ·simp [condO]; try omega
 ·go_enter Tryz.func78, Tryz.ntmps78
  go_wp2_with fail
  go_region
  have hx0 := HX0.out; obtain ⟨q0, q1, q2, q3, q4, q5, q6, q7, q8⟩ := HCELL.out _ _ _ hx0
  go_upto_region 25 with (first
   | (go_at_call 133; refine cargs (by first | (simp [Act.eval]; done) | fail) ((HHALF.out _ _ _ 1 (by first | exact hx0 | exact hx0.alloc _) (by have := HL.out; have := HO.out; (try simp only [List.length_append, List.length_cons, List.length_nil]); omega) (by omega)).mono ?_); rintro e w1 ⟨rfl, hx1⟩; obtain ⟨q0, q1, q2, q3, q4, q5, q6, q7, q8⟩ := HCELL.out _ _ _ hx1)
   | (go_at_call 75; refine cargs (by first | (simp [Act.eval]; done) | fail) ((HADD.out _ _ _ 5 1 0 (vh : Int) (by first | exact hx1 | exact hx1.alloc _) (by have := HL.out; have := HO.out; (try simp only [List.length_append, List.length_cons, List.length_nil]); omega)).mono ?_); rintro e w2 ⟨rfl, hx2⟩; obtain ⟨q0, q1, q2, q3, q4, q5, q6, q7, q8⟩ := HCELL.out _ _ _ hx2)
   | (go_at_call 75; refine cargs (by first | (simp [Act.eval]; done) | fail) ((HADD.out _ _ _ 4 1 4 (vh : Int) (by first | exact hx2 | exact hx2.alloc _) (by have := HL.out; have := HO.out; (try simp only [List.length_append, List.length_cons, List.length_nil]); omega)).mono ?_); rintro e w3 ⟨rfl, hx3⟩; obtain ⟨q0, q1, q2, q3, q4, q5, q6, q7, q8⟩ := HCELL.out _ _ _ hx3)
   | (go_at_call 132; refine cargs (by first | (simp [Act.eval]; done) | fail) ((HAWAY.out _ _ _ (by first | exact hx3 | exact hx3.alloc _) (by have := HL.out; have := HO.out; (try simp only [List.length_append, List.length_cons, List.length_nil]); omega) (by have := HL.out; have := HO.out; (try simp only [List.length_append, List.length_cons, List.length_nil]); omega)).mono ?_); rintro e w4 ⟨rfl, hx4⟩; obtain ⟨q0, q1, q2, q3, q4, q5, q6, q7, q8⟩ := HCELL.out _ _ _ hx4)
   | (go_at_call 133; refine cargs (by first | (simp [Act.eval]; done) | fail) ((HHALF.out _ _ _ 0 (by first | exact hx4 | exact hx4.alloc _) (by have := HL.out; have := HO.out; (try simp only [List.length_append, List.length_cons, List.length_nil]); omega) (by omega)).mono ?_); rintro e w5 ⟨rfl, hx5⟩; obtain ⟨q0, q1, q2, q3, q4, q5, q6, q7, q8⟩ := HCELL.out _ _ _ hx5))
  go_wp2_with (first
   | (refine wpList_mapLit rfl rfl rfl Tryz.underlying233 Tryz.underlying3 82 3 6 4 5 rfl rfl rfl rfl rfl rfl (by simp [Act.eval, Act.put]) rfl ?_; have hxm := hx5.low (mapW_below w5 3 6 4 5); have hlk := run_look (P := Tryz.prog) Tryz.underlying233 Tryz.underlying3 w5.heap.size (es2 3 6 4 5) 2 3 _ _ _ (mapW_at w5 3 6 4 5) rfl; generalize mapW w5 3 6 4 5 = wm at *; obtain ⟨q0, q1, q2, q3, q4, q5, q6, q7, q8⟩ := HCELL.out _ _ _ hxm)
   | (go_at_call 75; refine cargs (by first | (simp [Act.eval]; done) | fail) ((HADD.out _ _ _ 6 0 1 (vl : Int) (by first | exact hxm | exact hxm.alloc _) (by have := HL.out; have := HO.out; (try simp only [List.length_append, List.length_cons, List.length_nil]); omega)).mono ?_); rintro e w6 ⟨rfl, hx6⟩; obtain ⟨q0, q1, q2, q3, q4, q5, q6, q7, q8⟩ := HCELL.out _ _ _ hx6)
   | (go_at_call 132; refine cargs (by first | (simp [Act.eval]; done) | fail) ((HAWAY.out _ _ _ (by first | exact hx6 | exact hx6.alloc _) (by have := HL.out; have := HO.out; (try simp only [List.length_append, List.length_cons, List.length_nil]); omega) (by have := HL.out; have := HO.out; (try simp only [List.length_append, List.length_cons, List.length_nil]); omega)).mono ?_); rintro e w7 ⟨rfl, hx7⟩; obtain ⟨q0, q1, q2, q3, q4, q5, q6, q7, q8⟩ := HCELL.out _ _ _ hx7))
  go_returns
  refine ⟨rfl, HFIN.out _ _ _ hx7 ?_ ?_⟩
  ·simp [condL, ← HVH.out, ← HVL.out, ← HMH.out, ← HML.out]
  ·simp [condO]; try omega
 ·go_enter Tryz.func78, Tryz.ntmps78
  go_wp2_with fail
  go_region
  have hx0 := HX0.out; obtain ⟨q0, q1, q2, q3, q4, q5, q6, q7, q8⟩ := HCELL.out _ _ _ hx0
  go_upto_region 25 with (first
   | (go_at_call 133; refine cargs (by first | (simp [Act.eval]; done) | fail) ((HHALF.out _ _ _ 1 (by first | exact hx0 | exact hx0.alloc _) (by have := HL.out; have := HO.out; (try simp only [List.length_append, List.length_cons, List.length_nil]); omega) (by omega)).mono ?_); rintro e w1 ⟨rfl, hx1⟩; obtain ⟨q0, q1, q2, q3, q4, q5, q6, q7, q8⟩ := HCELL.out _ _ _ hx1)
   | (go_at_call 75; refine cargs (by first | (simp [Act.eval]; done) | fail) ((HADD.out _ _ _ 5 1 0 (vh : Int) (by first | exact hx1 | exact hx1.alloc _) (by have := HL.out; have := HO.out; (try simp only [List.length_append, List.length_cons, List.length_nil]); omega)).mono ?_); rintro e w2 ⟨rfl, hx2⟩; obtain ⟨q0, q1, q2, q3, q4, q5, q6, q7, q8⟩ := HCELL.out _ _ _ hx2)
   | (go_at_call 75; refine cargs (by first | (simp [Act.eval]; done) | fail) ((HADD.out _ _ _ 4 1 4 (vh : Int) (by first | exact hx2 | exact hx2.alloc _) (by have := HL.out; have := HO.out; (try simp only [List.length_append, List.length_cons, List.length_nil]); omega)).mono ?_); rintro e w3 ⟨rfl, hx3⟩; obtain ⟨q0, q1, q2, q3, q4, q5, q6, q7, q8⟩ := HCELL.out _ _ _ hx3)
   | (go_at_call 132; refine cargs (by first | (simp [Act.eval]; done) | fail) ((HAWAY.out _ _ _ (by first | exact hx3 | exact hx3.alloc _) (by have := HL.out; have := HO.out; (try simp only [List.length_append, List.length_cons, List.length_nil]); omega) (by have := HL.out; have := HO.out; (try simp only [List.length_append, List.length_cons, List.length_nil]); omega)).mono ?_); rintro e w4 ⟨rfl, hx4⟩; obtain ⟨q0, q1, q2, q3, q4, q5, q6, q7, q8⟩ := HCELL.out _ _ _ hx4)
   | (go_at_call 133; refine cargs (by first | (simp [Act.eval]; done) | fail) ((HHALF.out _ _ _ 0 (by first | exact hx4 | exact hx4.alloc _) (by have := HL.out; have := HO.out; (try simp only [List.length_append, List.length_cons, List.length_nil]); omega) (by omega)).mono ?_); rintro e w5 ⟨rfl, hx5⟩; obtain ⟨q0, q1, q2, q3, q4, q5, q6, q7, q8⟩ := HCELL.out _ _ _ hx5))
  go_wp2_with (first
   | (refine wpList_mapLit rfl rfl rfl Tryz.underlying233 Tryz.underlying3 82 3 6 4 5 rfl rfl rfl rfl rfl rfl (by simp [Act.eval, Act.put]) rfl ?_; have hxm := hx5.low (mapW_below w5 3 6 4 5); have hlk := run_look (P := Tryz.prog) Tryz.underlying233 Tryz.underlying3 w5.heap.size (es2 3 6 4 5) 2 4 _ _ _ (mapW_at w5 3 6 4 5) rfl; generalize mapW w5 3 6 4 5 = wm at *; obtain ⟨q0, q1, q2, q3, q4, q5, q6, q7, q8⟩ := HCELL.out _ _ _ hxm)
   | (go_at_call 75; refine cargs (by first | (simp [Act.eval]; done) | fail) ((HADD.out _ _ _ 5 0 1 (vl : Int) (by first | exact hxm | exact hxm.alloc _) (by have := HL.out; have := HO.out; (try simp only [List.length_append, List.length_cons, List.length_nil]); omega)).mono ?_); rintro e w6 ⟨rfl, hx6⟩; obtain ⟨q0, q1, q2, q3, q4, q5, q6, q7, q8⟩ := HCELL.out _ _ _ hx6)
   | (go_at_call 132; refine cargs (by first | (simp [Act.eval]; done) | fail) ((HAWAY.out _ _ _ (by first | exact hx6 | exact hx6.alloc _) (by have := HL.out; have := HO.out; (try simp only [List.length_append, List.length_cons, List.length_nil]); omega) (by have := HL.out; have := HO.out; (try simp only [List.length_append, List.length_cons, List.length_nil]); omega)).mono ?_); rintro e w7 ⟨rfl, hx7⟩; obtain ⟨q0, q1, q2, q3, q4, q5, q6, q7, q8⟩ := HCELL.out _ _ _ hx7))
  go_returns
  refine ⟨rfl, HFIN.out _ _ _ hx7 ?_ ?_⟩
  ·simp [condL, ← HVH.out, ← HVL.out, ← HMH.out, ← HML.out]
  ·simp [condO]; try omega
 ·go_enter Tryz.func78, Tryz.ntmps78
  go_wp2_with fail
  go_region
  have hx0 := HX0.out; obtain ⟨q0, q1, q2, q3, q4, q5, q6, q7, q8⟩ := HCELL.out _ _ _ hx0
  go_upto_region 18 with (first
   | (go_at_call 133; refine cargs (by first | (simp [Act.eval]; done) | fail) ((HHALF.out _ _ _ 1 (by first | exact hx0 | exact hx0.alloc _) (by have := HL.out; have := HO.out; (try simp only [List.length_append, List.length_cons, List.length_nil]); omega) (by omega)).mono ?_); rintro e w1 ⟨rfl, hx1⟩; obtain ⟨q0, q1, q2, q3, q4, q5, q6, q7, q8⟩ := HCELL.out _ _ _ hx1)
   | (go_at_call 75; refine cargs (by first | (simp [Act.eval]; done) | fail) ((HADD.out _ _ _ 5 5 0 (vh : Int) (by first | exact hx1 | exact hx1.alloc _) (by have := HL.out; have := HO.out; (try simp only [List.length_append, List.length_cons, List.length_nil]); omega)).mono ?_); rintro e w2 ⟨rfl, hx2⟩; obtain ⟨q0, q1, q2, q3, q4, q5, q6, q7, q8⟩ := HCELL.out _ _ _ hx2)
   | (go_at_call 77; refine cargs (by first | (simp [Act.eval]; done) | fail) ((HNEED.out _ _ _ 4 (vh : Int) (by first | exact hx2 | exact hx2.alloc _) (by have := HL.out; have := HO.out; (try simp only [List.length_append, List.length_cons, List.length_nil]); omega) (by have := HL.out; have := HO.out; (try simp only [List.length_append, List.length_cons, List.length_nil]); omega)).mono ?_); rintro e w3 ⟨rfl, hx3⟩; obtain ⟨q0, q1, q2, q3, q4, q5, q6, q7, q8⟩ := HCELL.out _ _ _ hx3)
   | (go_at_call 133; refine cargs (by first | (simp [Act.eval]; done) | fail) ((HHALF.out _ _ _ 0 (by first | exact hx3 | exact hx3.alloc _) (by have := HL.out; have := HO.out; (try simp only [List.length_append, List.length_cons, List.length_nil]); omega) (by omega)).mono ?_); rintro e w4 ⟨rfl, hx4⟩; obtain ⟨q0, q1, q2, q3, q4, q5, q6, q7, q8⟩ := HCELL.out _ _ _ hx4))
  go_wp2_with (first
   | (refine wpList_mapLit rfl rfl rfl Tryz.underlying233 Tryz.underlying3 59 5 5 6 6 rfl rfl rfl rfl rfl rfl (by simp [Act.eval, Act.put]) rfl ?_; have hxm := hx4.low (mapW_below w4 5 5 6 6); have hlk := run_look (P := Tryz.prog) Tryz.underlying233 Tryz.underlying3 w4.heap.size (es2 5 5 6 6) 2 5 _ _ _ (mapW_at w4 5 5 6 6) rfl; generalize mapW w4 5 5 6 6 = wm at *; obtain ⟨q0, q1, q2, q3, q4, q5, q6, q7, q8⟩ := HCELL.out _ _ _ hxm)
   | (go_at_call 77; refine cargs (by first | (simp [Act.eval]; done) | fail) ((HNEED.out _ _ _ 5 (vl : Int) (by first | exact hxm | exact hxm.alloc _) (by have := HL.out; have := HO.out; (try simp only [List.length_append, List.length_cons, List.length_nil]); omega) (by have := HL.out; have := HO.out; (try simp only [List.length_append, List.length_cons, List.length_nil]); omega)).mono ?_); rintro e w5 ⟨rfl, hx5⟩; obtain ⟨q0, q1, q2, q3, q4, q5, q6, q7, q8⟩ := HCELL.out _ _ _ hx5))
  go_returns
  refine ⟨rfl, HFIN.out _ _ _ hx5 ?_ ?_⟩
  ·simp [condL, ← HVH.out, ← HVL.out, ← HMH.out, ← HML.out]
  ·simp [condO]; try omega
 ·go_enter Tryz.func78, Tryz.ntmps78
  go_wp2_with fail
  go_region
  have hx0 := HX0.out; obtain ⟨q0, q1, q2, q3, q4, q5, q6, q7, q8⟩ := HCELL.out _ _ _ hx0
  go_upto_region 18 with (first
   | (go_at_call 133; refine cargs (by first | (simp [Act.eval]; done) | fail) ((HHALF.out _ _ _ 1 (by first | exact hx0 | exact hx0.alloc _) (by have := HL.out; have := HO.out; (try simp only [List.length_append, List.length_cons, List.length_nil]); omega) (by omega)).mono ?_); rintro e w1 ⟨rfl, hx1⟩; obtain ⟨q0, q1, q2, q3, q4, q5, q6, q7, q8⟩ := HCELL.out _ _ _ hx1)
   | (go_at_call 75; refine cargs (by first | (simp [Act.eval]; done) | fail) ((HADD.out _ _ _ 5 5 0 (vh : Int) (by first | exact hx1 | exact hx1.alloc _) (by have := HL.out; have := HO.out; (try simp only [List.length_append, List.length_cons, List.length_nil]); omega)).mono ?_); rintro e w2 ⟨rfl, hx2⟩; obtain ⟨q0, q1, q2, q3, q4, q5, q6, q7, q8⟩ := HCELL.out _ _ _ hx2)
   | (go_at_call 77; refine cargs (by first | (simp [Act.eval]; done) | fail) ((HNEED.out _ _ _ 4 (vh : Int) (by first | exact hx2 | exact hx2.alloc _) (by have := HL.out; have := HO.out; (try simp only [List.length_append, List.length_cons, List.length_nil]); omega) (by have := HL.out; have := HO.out; (try simp only [List.length_append, List.length_cons, List.length_nil]); omega)).mono ?_); rintro e w3 ⟨rfl, hx3⟩; obtain ⟨q0, q1, q2, q3, q4, q5, q6, q7, q8⟩ := HCELL.out _ _ _ hx3)
   | (go_at_call 133; refine cargs (by first | (simp [Act.eval]; done) | fail) ((HHALF.out _ _ _ 0 (by first | exact hx3 | exact hx3.alloc _) (by have := HL.out; have := HO.out; (try simp only [List.length_append, List.length_cons, List.length_nil]); omega) (by omega)).mono ?_); rintro e w4 ⟨rfl, hx4⟩; obtain ⟨q0, q1, q2, q3, q4, q5, q6, q7, q8⟩ := HCELL.out _ _ _ hx4))
  go_wp2_with (first
   | (refine wpList_mapLit rfl rfl rfl Tryz.underlying233 Tryz.underlying3 59 5 5 6 6 rfl rfl rfl rfl rfl rfl (by simp [Act.eval, Act.put]) rfl ?_; have hxm := hx4.low (mapW_below w4 5 5 6 6); have hlk := run_look (P := Tryz.prog) Tryz.underlying233 Tryz.underlying3 w4.heap.size (es2 5 5 6 6) 2 6 _ _ _ (mapW_at w4 5 5 6 6) rfl; generalize mapW w4 5 5 6 6 = wm at *; obtain ⟨q0, q1, q2, q3, q4, q5, q6, q7, q8⟩ := HCELL.out _ _ _ hxm)
   | (go_at_call 77; refine cargs (by first | (simp [Act.eval]; done) | fail) ((HNEED.out _ _ _ 6 (vl : Int) (by first | exact hxm | exact hxm.alloc _) (by have := HL.out; have := HO.out; (try simp only [List.length_append, List.length_cons, List.length_nil]); omega) (by have := HL.out; have := HO.out; (try simp only [List.length_append, List.length_cons, List.length_nil]); omega)).mono ?_); rintro e w5 ⟨rfl, hx5⟩; obtain ⟨q0, q1, q2, q3, q4, q5, q6, q7, q8⟩ := HCELL.out _ _ _ hx5))
  go_returns
  refine ⟨rfl, HFIN.out _ _ _ hx5 ?_ ?_⟩
  ·simp [condL, ← HVH.out, ← HVL.out, ← HMH.out, ← HML.out]
  ·simp [condO]; try omega
 ·go_enter Tryz.func78, Tryz.ntmps78
  go_wp2_with fail
  go_region
  have hx0 := HX0.out; obtain ⟨q0, q1, q2, q3, q4, q5, q6, q7, q8⟩ := HCELL.out _ _ _ hx0
  go_wp2_with (first
   | (go_at_call 133; refine cargs (by first | (simp [Act.eval]; done) | fail) ((HHALF.out _ _ _ 1 (by first | exact hx0 | exact hx0.alloc _) (by have := HL.out; have := HO.out; (try simp only [List.length_append, List.length_cons, List.length_nil]); omega) (by omega)).mono ?_); rintro e w1 ⟨rfl, hx1⟩; obtain ⟨q0, q1, q2, q3, q4, q5, q6, q7, q8⟩ := HCELL.out _ _ _ hx1)
   | (go_at_call 75; refine cargs (by first | (simp [Act.eval]; done) | fail) ((HADD.out _ _ _ 2 0 0 (mh : Int) (by first | exact hx1 | exact hx1.alloc _) (by have := HL.out; have := HO.out; (try simp only [List.length_append, List.length_cons, List.length_nil]); omega)).mono ?_); rintro e w2 ⟨rfl, hx2⟩; obtain ⟨q0, q1, q2, q3, q4, q5, q6, q7, q8⟩ := HCELL.out _ _ _ hx2)
   | (go_at_call 77; refine cargs (by first | (simp [Act.eval]; done) | fail) ((HNEED.out _ _ _ 4 (vh : Int) (by first | exact hx2 | exact hx2.alloc _) (by have := HL.out; have := HO.out; (try simp only [List.length_append, List.length_cons, List.length_nil]); omega) (by have := HL.out; have := HO.out; (try simp only [List.length_append, List.length_cons, List.length_nil]); omega)).mono ?_); rintro e w3 ⟨rfl, hx3⟩; obtain ⟨q0, q1, q2, q3, q4, q5, q6, q7, q8⟩ := HCELL.out _ _ _ hx3)
   | (go_at_call 133; refine cargs (by first | (simp [Act.eval]; done) | fail) ((HHALF.out _ _ _ 0 (by first | exact hx3 | exact hx3.alloc _) (by have := HL.out; have := HO.out; (try simp only [List.length_append, List.length_cons, List.length_nil]); omega) (by omega)).mono ?_); rintro e w4 ⟨rfl, hx4⟩; obtain ⟨q0, q1, q2, q3, q4, q5, q6, q7, q8⟩ := HCELL.out _ _ _ hx4)
   | (go_at_call 75; refine cargs (by first | (simp [Act.eval]; done) | fail) ((HADD.out _ _ _ 2 0 0 (ml : Int) (by first | exact hx4 | exact hx4.alloc _) (by have := HL.out; have := HO.out; (try simp only [List.length_append, List.length_cons, List.length_nil]); omega)).mono ?_); rintro e w5 ⟨rfl, hx5⟩; obtain ⟨q0, q1, q2, q3, q4, q5, q6, q7, q8⟩ := HCELL.out _ _ _ hx5)
   | (go_at_call 77; refine cargs (by first | (simp [Act.eval]; done) | fail) ((HNEED.out _ _ _ 4 (vl : Int) (by first | exact hx5 | exact hx5.alloc _) (by have := HL.out; have := HO.out; (try simp only [List.length_append, List.length_cons, List.length_nil]); omega) (by have := HL.out; have := HO.out; (try simp only [List.length_append, List.length_cons, List.length_nil]); omega)).mono ?_); rintro e w6 ⟨rfl, hx6⟩; obtain ⟨q0, q1, q2, q3, q4, q5, q6, q7, q8⟩ := HCELL.out _ _ _ hx6))
  go_returns
  refine ⟨rfl, HFIN.out _ _ _ hx6 ?_ ?_⟩
  ·simp [condL, ← HVH.out, ← HVL.out, ← HMH.out, ← HML.out]
  ·simp [condO]; try omega
end Go.Proofs.YtmgngapkgcofnabGreatDoor
namespace Go.Proofs.YtmgngapkgcofnabGreatDoor
open Go.RowKit
def condsL (s : List Ins × List Int) (cs : List CondD) : Nat → List Ins × List Int
 | 0 => s
 | k + 1 => match cs[k]? with
  | some c => if 7 < c.op then condsL s cs k else ((condsL s cs k).1 ++ condL c.op c.arg.toNat c.v.toNat c.m.toNat, (condsL s cs k).2 ++ (condO c.op).map fun i => (((condsL s cs k).1.length + i : Nat) : Int))
  | none => condsL s cs k
def deepN (cs : List CondD) : Nat → Bool
 | 0 => false
 | k + 1 => deepN cs k || match cs[k]? with
  | some c => decide (7 < c.op)
  | none => false
def ruleS (l : List Ins) (r : RuleD) : List Ins × List Int := condsL (l ++ [Ins.mk 1 0 0 0, Ins.mk 4 1 0 r.nr, jmpI], [((l.length + 2 : Nat) : Int)]) r.conds r.conds.length
def ruleK (i : Nat) (r : RuleD) : Int := if deepN r.conds r.conds.length then ((2146435072 + i : Nat) : Int) else retK r.kind r.errno
def ruleL (l : List Ins) (i : Nat) (r : RuleD) : List Ins := hereN ((ruleS l r).1 ++ [Ins.mk 8 0 0 (ruleK i r)]) (ruleS l r).2 (ruleS l r).2.length
def rulesL (rs : List RuleD) : Nat → List Ins
 | 0 => [Ins.mk 1 0 0 4, Ins.mk 4 1 0 3221225534, Ins.mk 8 0 0 0]
 | k + 1 => match rs[k]? with
  | some r => ruleL (rulesL rs k) k r
  | none => rulesL rs k
def progL (p : PolD) : List Ins := rulesL p.rules p.rules.length ++ [Ins.mk 8 0 0 (retK p.kind p.errno)]
theorem condL_len (op : Int) (a v m : Nat) : (condL op a v m).length ≤ 8 := by
 unfold condL; split
 ·simp
 ·split
  ·simp
  ·split
   ·simp
   ·split
    ·simp
    ·split <;> simp
theorem condO_len (op : Int) : (condO op).length ≤ 2 := by
 unfold condO; split
 ·simp
 ·split
  ·simp
  ·split
   ·simp
   ·split
    ·simp
    ·split <;> simp
theorem condO_lt (op : Int) (a v m : Nat) : ∀ i ∈ condO op, i < (condL op a v m).length := by
 intro i; unfold condO condL; split
 ·simp; omega
 ·split
  ·simp; omega
  ·split
   ·simp; omega
   ·split
    ·simp; omega
    ·split
     ·simp; omega
     ·simp
theorem condsL_ok (s : List Ins × List Int) (cs : List CondD) (hs : ∀ a ∈ s.2, 0 ≤ a ∧ a < s.1.length) : ∀ k, (condsL s cs k).1.length ≤ s.1.length + 8 * k ∧ (condsL s cs k).2.length ≤ s.2.length + 2 * k ∧ s.1.length ≤ (condsL s cs k).1.length ∧ ∀ a ∈ (condsL s cs k).2, 0 ≤ a ∧ a < (condsL s cs k).1.length := by
 intro k
 induction k with
 | zero => exact ⟨by simp [condsL], by simp [condsL], by simp [condsL], hs⟩
 | succ k ih =>
  obtain ⟨h1, h2, h3, h4⟩ := ih; rw [condsL]; split
  ·rename_i c _; split
   ·exact ⟨by omega, by omega, h3, h4⟩
   ·have hl := condL_len c.op c.arg.toNat c.v.toNat c.m.toNat; have ho := condO_len c.op; refine ⟨by simp; omega, by simp; omega, by simp; omega, fun a ha => ?_⟩; simp only [List.mem_append, List.mem_map] at ha; rcases ha with ha | ⟨i, hi, rfl⟩
    ·have := h4 a ha; simp; omega
    ·have := condO_lt c.op c.arg.toNat c.v.toNat c.m.toNat i hi; simp; omega
  ·exact ⟨by omega, by omega, h3, h4⟩
theorem ruleS_ok (l : List Ins) (r : RuleD) : (ruleS l r).1.length ≤ l.length + 3 + 8 * r.conds.length ∧ (ruleS l r).2.length ≤ 1 + 2 * r.conds.length ∧ ∀ a ∈ (ruleS l r).2, 0 ≤ a ∧ a < (ruleS l r).1.length := by
 have := condsL_ok (l ++ [Ins.mk 1 0 0 0, Ins.mk 4 1 0 r.nr, jmpI], [((l.length + 2 : Nat) : Int)]) r.conds (by intro a ha; simp at ha; subst ha; simp; omega) r.conds.length; simp only [List.length_append, List.length_cons, List.length_nil] at this; obtain ⟨t1, t2, _, t4⟩ := this; unfold ruleS; exact ⟨by omega, by omega, t4⟩
theorem ruleL_len (l : List Ins) (i : Nat) (r : RuleD) : (ruleL l i r).length = (ruleS l r).1.length + 1 := by
 unfold ruleL; rw [hereN_length]; simp
theorem condF_zero {nr : Nat} {c : CondD} (h : condF nr c = 0) : 0 ≤ c.arg ∧ c.arg ≤ 3 ∧ 1 ≤ c.op ∧ c.op ≤ 9 := by
 unfold condF at h; split at h
 ·omega
 ·rename_i hb; simp only [not_or] at hb; omega
theorem firstNZ_zero {α : Type} {f : α → Int} : ∀ {l : List α}, firstNZ f l = 0 → ∀ x ∈ l, f x = 0
 | [], _, x, hx => by simp at hx
 | y :: r, h, x, hx => by
  rw [firstNZ] at h; split at h
  ·rename_i hy; exact absurd h hy
  ·rename_i hy; have hy0 : f y = 0 := by simpa using hy
   rcases List.mem_cons.1 hx with rfl | hx
   ·exact hy0
   ·exact firstNZ_zero h x hx
theorem actF_zero {k e : Int} (h : actF k e = 0) : k = 2 → 0 ≤ e ∧ e < 65536 := by
 intro hk; subst hk; unfold actF at h; rw [if_neg (by omega), if_pos rfl] at h; split at h <;> omega
theorem ruleF_zero {r : RuleD} (h : ruleF r = 0) : 0 ≤ r.nr ∧ r.nr ≤ 8 ∧ r.conds.length ≤ 4 ∧ (∀ c ∈ r.conds, 0 ≤ c.arg ∧ c.arg ≤ 3 ∧ 1 ≤ c.op ∧ c.op ≤ 9) ∧ actF r.kind r.errno = 0 := by
 unfold ruleF at h; split at h
 ·omega
 ·rename_i h1; split at h
  ·omega
  ·rename_i h2; split at h
   ·rename_i h3; exact absurd h h3
   ·rename_i h3; have h3' : firstNZ (condF r.nr.toNat) r.conds = 0 := by simpa using h3
    exact ⟨by omega, by omega, by omega, fun c hc => condF_zero (firstNZ_zero h3' c hc), h⟩
theorem polF_zero {p : PolD} (h : polF p = 0) : p.rules.length ≤ 12 ∧ actF p.kind p.errno = 0 ∧ ∀ r ∈ p.rules, ruleF r = 0 := by
 unfold polF at h; split at h
 ·omega
 ·split at h
  ·rename_i h2; exact absurd h h2
  ·rename_i h1 h2; exact ⟨by omega, by simpa using h2, firstNZ_zero h⟩
theorem rulesL_len (rs : List RuleD) (h : ∀ r ∈ rs, r.conds.length ≤ 4) : ∀ k, (rulesL rs k).length ≤ 3 + 40 * k := by
 intro k
 induction k with
 | zero => simp [rulesL]
 | succ k ih =>
  rw [rulesL]; split
  ·rename_i r hr; have h1 := (ruleS_ok (rulesL rs k) r).1; have h2 := h r (List.mem_of_getElem? hr); rw [ruleL_len]; omega
  ·omega
theorem progL_pos (p : PolD) : 0 < (progL p).length := by unfold progL; simp
end Go.Proofs.YtmgngapkgcofnabGreatDoor
namespace Go.Proofs.YtmgngapkgcofnabGreatDoor
open Go.RowKit
def Ends (L : List Ins) (c : CallD) (p : Nat) (a r : Int) : Prop := ∀ (n : Nat) (st : Int), L.length - p ≤ n → p < L.length ∧ (runF L c n p a st).1 = r
section
variable {L : List Ins} {c : CallD} {p : Nat} {a r : Int} {x : Ins}
theorem at_lt (h : L[p]? = some x) : p < L.length ∧ ∀ (hp : p < L.length), L[p] = x := by
 obtain ⟨h1, h2⟩ := List.getElem?_eq_some_iff.1 h; exact ⟨h1, fun _ => h2⟩
theorem ends_ret (h : L[p]? = some x) (ho : x.op = 8) : Ends L c p a x.k := fun n st hn => by
 obtain ⟨h1, h2⟩ := at_lt h; refine ⟨h1, ?_⟩; obtain ⟨n, rfl⟩ : ∃ m, n = m + 1 := ⟨n - 1, by omega⟩
 rw [runF_8 h1 (by rw [h2]; exact ho), h2]
theorem ends_ld (h : L[p]? = some x) (ho : x.op = 1) (k : Ends L c (p + 1) (c.word x.k) r) : Ends L c p a r := fun n st hn => by
 obtain ⟨h1, h2⟩ := at_lt h; refine ⟨h1, ?_⟩; obtain ⟨n, rfl⟩ : ∃ m, n = m + 1 := ⟨n - 1, by omega⟩
 rw [runF_1 h1 (by rw [h2]; exact ho), h2]; exact (k n (st + 1) (by omega)).2
theorem ends_and (h : L[p]? = some x) (ho : x.op = 2) (k : Ends L c (p + 1) (bits .and .u32 a x.k) r) : Ends L c p a r := fun n st hn => by
 obtain ⟨h1, h2⟩ := at_lt h; refine ⟨h1, ?_⟩; obtain ⟨n, rfl⟩ : ∃ m, n = m + 1 := ⟨n - 1, by omega⟩
 rw [runF_2 h1 (by rw [h2]; exact ho), h2]; exact (k n (st + 1) (by omega)).2
theorem ends_jmp (h : L[p]? = some x) (ho : x.op = 3) (k : Ends L c (p + 1 + x.k.toNat) a r) : Ends L c p a r := fun n st hn => by
 obtain ⟨h1, h2⟩ := at_lt h; refine ⟨h1, ?_⟩; obtain ⟨n, rfl⟩ : ∃ m, n = m + 1 := ⟨n - 1, by omega⟩
 rw [runF_3 h1 (by rw [h2]; exact ho), h2]; exact (k n (st + 1) (by omega)).2
theorem ends_br (h : L[p]? = some x) (ho : 4 ≤ x.op ∧ x.op ≤ 7) (k : Ends L c (if holdsF x.op a x.k then p + 1 + x.jt.toNat else p + 1 + x.jf.toNat) a r) : Ends L c p a r := fun n st hn => by
 obtain ⟨h1, h2⟩ := at_lt h; refine ⟨h1, ?_⟩; obtain ⟨n, rfl⟩ : ∃ m, n = m + 1 := ⟨n - 1, by omega⟩
 rw [runF_b h1 (by rw [h2]; exact ho), h2]
 by_cases hb : holdsF x.op a x.k = true
 ·rw [if_pos hb] at k ⊢; exact (k n (st + 1) (by omega)).2
 ·rw [if_neg hb] at k ⊢; exact (k n (st + 1) (by omega)).2
end
def CodeAt (L : List Ins) (t q : Nat) (blk : List Ins) : Prop := ∀ i x, blk[i]? = some x → ∃ y, L[q + i]? = some y ∧ (if x.op = 3 then y.op = 3 ∧ y.jt = x.jt ∧ y.jf = x.jf ∧ 0 ≤ y.k ∧ q + i + 1 + y.k.toNat = t else y = x)
section
variable {L : List Ins} {c : CallD} {t q : Nat} {blk : List Ins} {a r : Int} {x : Ins}
theorem CodeAt.same (h : CodeAt L t q blk) (i : Nat) (x : Ins) (hx : blk[i]? = some x) (h3 : x.op ≠ 3) : L[q + i]? = some x := by
 obtain ⟨y, h1, h2⟩ := h i x hx; rw [if_neg h3] at h2; rw [h1, h2]
theorem CodeAt.away (h : CodeAt L t q blk) (i : Nat) (x : Ins) (hx : blk[i]? = some x) (h3 : x.op = 3) (k : Ends L c t a r) : Ends L c (q + i) a r := by
 obtain ⟨y, h1, h2⟩ := h i x hx; rw [if_pos h3] at h2; exact ends_jmp h1 h2.1 (by rw [h2.2.2.2.2]; exact k)
theorem CodeAt.left {b1 b2 : List Ins} (h : CodeAt L t q (b1 ++ b2)) : CodeAt L t q b1 := fun i x hx => h i x (by
 obtain ⟨h1, h2⟩ := List.getElem?_eq_some_iff.1 hx; rw [List.getElem?_append_left h1]; exact hx)
theorem CodeAt.right {b1 b2 : List Ins} (h : CodeAt L t q (b1 ++ b2)) : CodeAt L t (q + b1.length) b2 := fun i x hx => by
 have := h (b1.length + i) x (by rw [List.getElem?_append_right (by omega)]; simpa using hx); rw [show q + b1.length + i = q + (b1.length + i) by omega]; exact this
theorem c_ld (h : CodeAt L t q blk) (i : Nat) {v : Int} (hx : blk[i]? = some x) (ho : x.op = 1) (hw : c.word x.k = v) (k : Ends L c (q + i + 1) v r) : Ends L c (q + i) a r :=
 ends_ld (h.same i x hx (by omega)) ho (by rw [hw]; exact k)
theorem c_and (h : CodeAt L t q blk) (i : Nat) {v : Int} (hx : blk[i]? = some x) (ho : x.op = 2) (hw : bits .and .u32 a x.k = v) (k : Ends L c (q + i + 1) v r) : Ends L c (q + i) a r :=
 ends_and (h.same i x hx (by omega)) ho (by rw [hw]; exact k)
theorem holds_eq (a k : Int) : holdsF 4 a k = decide (a = k) := by
 unfold holdsF; rw [if_pos rfl]; by_cases h : a = k <;> simp [h]
theorem holds_gt (a k : Int) : holdsF 5 a k = decide (k < a) := rfl
theorem holds_ge (a k : Int) : holdsF 6 a k = decide (k ≤ a) := rfl
theorem c_eq (h : CodeAt L t q blk) (i : Nat) {jt jf v : Int} (hx : blk[i]? = some (Ins.mk 4 jt jf v)) (k1 : a = v → Ends L c (q + i + 1 + jt.toNat) a r) (k2 : a ≠ v → Ends L c (q + i + 1 + jf.toNat) a r) : Ends L c (q + i) a r := by
 refine ends_br (h.same i _ hx (by show (4 : Int) ≠ 3; decide)) (by show (4 : Int) ≤ 4 ∧ (4 : Int) ≤ 7; decide) ?_; rw [holds_eq]
 by_cases e : a = v
 ·rw [if_pos (by simpa using e)]; exact k1 e
 ·rw [if_neg (by simpa using e)]; exact k2 e
theorem c_gt (h : CodeAt L t q blk) (i : Nat) {jt jf v : Int} (hx : blk[i]? = some (Ins.mk 5 jt jf v)) (k1 : v < a → Ends L c (q + i + 1 + jt.toNat) a r) (k2 : ¬ v < a → Ends L c (q + i + 1 + jf.toNat) a r) : Ends L c (q + i) a r := by
 refine ends_br (h.same i _ hx (by show (5 : Int) ≠ 3; decide)) (by show (4 : Int) ≤ 5 ∧ (5 : Int) ≤ 7; decide) ?_; rw [holds_gt]
 by_cases e : v < a
 ·rw [if_pos (by simpa using e)]; exact k1 e
 ·rw [if_neg (by simpa using e)]; exact k2 e
theorem c_ge (h : CodeAt L t q blk) (i : Nat) {jt jf v : Int} (hx : blk[i]? = some (Ins.mk 6 jt jf v)) (k1 : v ≤ a → Ends L c (q + i + 1 + jt.toNat) a r) (k2 : ¬ v ≤ a → Ends L c (q + i + 1 + jf.toNat) a r) : Ends L c (q + i) a r := by
 refine ends_br (h.same i _ hx (by show (6 : Int) ≠ 3; decide)) (by show (4 : Int) ≤ 6 ∧ (6 : Int) ≤ 7; decide) ?_; rw [holds_ge]
 by_cases e : v ≤ a
 ·rw [if_pos (by simpa using e)]; exact k1 e
 ·rw [if_neg (by simpa using e)]; exact k2 e
end
def argN (c : CallD) (i : Nat) : Int := if i = 0 then c.a0 else if i = 1 then c.a1 else if i = 2 then c.a2 else c.a3
theorem argN_ok {c : CallD} (hc : c.ok) (i : Nat) : 0 ≤ argN c i ∧ argN c i ≤ 18446744073709551615 := by
 obtain ⟨_, _, h0, h1, h2, h3⟩ := hc; unfold argN; split
 ·exact h0
 ·split
  ·exact h1
  ·split
   ·exact h2
   ·exact h3
theorem word_hi (c : CallD) (i : Nat) (h : i < 4) : c.word ((8 + 8 * i + 4 * 1 : Nat) : Int) = argN c i / 4294967296 := by
 have : i = 0 ∨ i = 1 ∨ i = 2 ∨ i = 3 := by omega
 rcases this with rfl | rfl | rfl | rfl <;> rfl
theorem word_lo (c : CallD) (i : Nat) (h : i < 4) : c.word ((8 + 8 * i + 4 * 0 : Nat) : Int) = argN c i % 4294967296 := by
 have : i = 0 ∨ i = 1 ∨ i = 2 ∨ i = 3 := by omega
 rcases this with rfl | rfl | rfl | rfl <;> rfl
def numB (op : Int) (v m A : Int) : Bool :=
 if op = 1 then decide (A = v) else if op = 2 then decide (A ≠ v) else if op = 3 then decide (A < v) else if op = 4 then decide (A ≤ v) else if op = 5 then decide (v < A) else if op = 6 then decide (v ≤ A) else decide (bits .and .u64 A m = v)
theorem and_halves (A m v : Nat) :
  (A &&& m = v) ↔ ((A / 4294967296) &&& (m / 4294967296) = v / 4294967296 ∧ (A % 4294967296) &&& (m % 4294967296) = v % 4294967296) := by
 have key : ∀ k : Nat, (A &&& m) / 2 ^ k = (A / 2 ^ k) &&& (m / 2 ^ k) := fun k => by
  apply Nat.eq_of_testBit_eq; intro i; simp [Nat.testBit_div_two_pow]
 have h1 : (A &&& m) / 4294967296 = (A / 4294967296) &&& (m / 4294967296) := key 32
 have h2 : (A &&& m) % 4294967296 = (A % 4294967296) &&& (m % 4294967296) := by
  rw [show (4294967296 : Nat) = 2 ^ 32 from rfl, Nat.and_mod_two_pow]
 constructor
 ·intro h; subst h; exact ⟨h1.symm, h2.symm⟩
 ·rintro ⟨h3, h4⟩; rw [← h1] at h3; rw [← h2] at h4; omega
section
variable {L : List Ins} {c : CallD} {t q : Nat} {a r : Int}
theorem cond_sim (op : Int) (i v m : Nat) (hc : c.ok) (hi : i < 4) (hm : m < 18446744073709551616) (hop : 1 ≤ op ∧ op ≤ 7)
  (h : CodeAt L t q (condL op i v m))
  (hy : numB op v m (argN c i) = true → ∀ a', Ends L c (q + (condL op i v m).length) a' r) (hn : numB op v m (argN c i) = false → ∀ a', Ends L c t a' r) : Ends L c q a r := by
 obtain ⟨A, hA⟩ : ∃ A : Nat, argN c i = A := ⟨(argN c i).toNat, by have := argN_ok hc i; omega⟩
 have hAb : A < 18446744073709551616 := by have := argN_ok hc i; omega
 have whi := word_hi c i hi; have wlo := word_lo c i hi; rw [hA] at hy hn whi wlo; have w1 : c.word (ldI i 1).k = ((A / 4294967296 : Nat) : Int) := by rw [show (ldI i 1).k = ((8 + 8 * i + 4 * 1 : Nat) : Int) from rfl, whi]; omega
 have w0 : c.word (ldI i 0).k = ((A % 4294967296 : Nat) : Int) := by rw [show (ldI i 0).k = ((8 + 8 * i + 4 * 0 : Nat) : Int) from rfl, wlo]; omega
 have h7 : op = 1 ∨ op = 2 ∨ op = 3 ∨ op = 4 ∨ op = 5 ∨ op = 6 ∨ op = 7 := by omega
 rcases h7 with rfl | rfl | rfl | rfl | rfl | rfl | rfl
 ·have hy : A = v → ∀ a', Ends L c (q + 6) a' r := fun e => hy (by show decide ((A : Int) = v) = true; simp; omega); have hn : A ≠ v → ∀ a', Ends L c t a' r := fun e => hn (by show decide ((A : Int) = v) = false; simp; omega); have h : CodeAt L t q [ldI i 1, Ins.mk 4 1 0 (v / 4294967296 : Nat), jmpI, ldI i 0, Ins.mk 4 1 0 (v % 4294967296 : Nat), jmpI] := h
  exact c_ld h 0 rfl rfl w1 (c_eq h 1 rfl (fun e1 => c_ld h 3 rfl rfl w0 (c_eq h 4 rfl (fun e0 => hy (by omega) _) (fun e0 => h.away 5 _ rfl rfl (hn (by omega) _)))) (fun e1 => h.away 2 _ rfl rfl (hn (by omega) _)))
 ·have hy : A ≠ v → ∀ a', Ends L c (q + 5) a' r := fun e => hy (by show decide ((A : Int) ≠ v) = true; simp; omega); have hn : A = v → ∀ a', Ends L c t a' r := fun e => hn (by show decide ((A : Int) ≠ v) = false; simp; omega); have h : CodeAt L t q [ldI i 1, Ins.mk 4 0 3 (v / 4294967296 : Nat), ldI i 0, Ins.mk 4 0 1 (v % 4294967296 : Nat), jmpI] := h
  exact c_ld h 0 rfl rfl w1 (c_eq h 1 rfl (fun e1 => c_ld h 2 rfl rfl w0 (c_eq h 3 rfl (fun e0 => h.away 4 _ rfl rfl (hn (by omega) _)) (fun e0 => hy (by omega) _))) (fun e1 => hy (by omega) _))
 ·have hy : A < v → ∀ a', Ends L c (q + 7) a' r := fun e => hy (by show decide ((A : Int) < v) = true; simp; omega); have hn : ¬ A < v → ∀ a', Ends L c t a' r := fun e => hn (by show decide ((A : Int) < v) = false; simp; omega); have h : CodeAt L t q [ldI i 1, Ins.mk 5 1 0 (v / 4294967296 : Nat), Ins.mk 4 1 4 (v / 4294967296 : Nat), jmpI, ldI i 0, Ins.mk 6 0 1 (v % 4294967296 : Nat), jmpI] := h
  exact c_ld h 0 rfl rfl w1 (c_gt h 1 rfl (fun e1 => h.away 3 _ rfl rfl (hn (by omega) _)) (fun e1 => c_eq h 2 rfl (fun e2 => c_ld h 4 rfl rfl w0 (c_ge h 5 rfl (fun e0 => h.away 6 _ rfl rfl (hn (by omega) _)) (fun e0 => hy (by omega) _))) (fun e2 => hy (by omega) _)))
 ·have hy : A ≤ v → ∀ a', Ends L c (q + 7) a' r := fun e => hy (by show decide ((A : Int) ≤ v) = true; simp; omega); have hn : ¬ A ≤ v → ∀ a', Ends L c t a' r := fun e => hn (by show decide ((A : Int) ≤ v) = false; simp; omega); have h : CodeAt L t q [ldI i 1, Ins.mk 5 1 0 (v / 4294967296 : Nat), Ins.mk 4 1 4 (v / 4294967296 : Nat), jmpI, ldI i 0, Ins.mk 5 0 1 (v % 4294967296 : Nat), jmpI] := h
  exact c_ld h 0 rfl rfl w1 (c_gt h 1 rfl (fun e1 => h.away 3 _ rfl rfl (hn (by omega) _)) (fun e1 => c_eq h 2 rfl (fun e2 => c_ld h 4 rfl rfl w0 (c_gt h 5 rfl (fun e0 => h.away 6 _ rfl rfl (hn (by omega) _)) (fun e0 => hy (by omega) _))) (fun e2 => hy (by omega) _)))
 ·have hy : v < A → ∀ a', Ends L c (q + 7) a' r := fun e => hy (by show decide ((v : Int) < A) = true; simp; omega); have hn : ¬ v < A → ∀ a', Ends L c t a' r := fun e => hn (by show decide ((v : Int) < A) = false; simp; omega); have h : CodeAt L t q [ldI i 1, Ins.mk 5 5 0 (v / 4294967296 : Nat), Ins.mk 4 1 0 (v / 4294967296 : Nat), jmpI, ldI i 0, Ins.mk 5 1 0 (v % 4294967296 : Nat), jmpI] := h
  exact c_ld h 0 rfl rfl w1 (c_gt h 1 rfl (fun e1 => hy (by omega) _) (fun e1 => c_eq h 2 rfl (fun e2 => c_ld h 4 rfl rfl w0 (c_gt h 5 rfl (fun e0 => hy (by omega) _) (fun e0 => h.away 6 _ rfl rfl (hn (by omega) _)))) (fun e2 => h.away 3 _ rfl rfl (hn (by omega) _))))
 ·have hy : v ≤ A → ∀ a', Ends L c (q + 7) a' r := fun e => hy (by show decide ((v : Int) ≤ A) = true; simp; omega); have hn : ¬ v ≤ A → ∀ a', Ends L c t a' r := fun e => hn (by show decide ((v : Int) ≤ A) = false; simp; omega); have h : CodeAt L t q [ldI i 1, Ins.mk 5 5 0 (v / 4294967296 : Nat), Ins.mk 4 1 0 (v / 4294967296 : Nat), jmpI, ldI i 0, Ins.mk 6 1 0 (v % 4294967296 : Nat), jmpI] := h
  exact c_ld h 0 rfl rfl w1 (c_gt h 1 rfl (fun e1 => hy (by omega) _) (fun e1 => c_eq h 2 rfl (fun e2 => c_ld h 4 rfl rfl w0 (c_ge h 5 rfl (fun e0 => hy (by omega) _) (fun e0 => h.away 6 _ rfl rfl (hn (by omega) _)))) (fun e2 => h.away 3 _ rfl rfl (hn (by omega) _))))
 ·have ha := u64_and_nat A m hAb hm; have hk := and_halves A m v; have b1 := u32_and_nat (A / 4294967296) (m / 4294967296) (by omega) (by omega); have b0 := u32_and_nat (A % 4294967296) (m % 4294967296) (by omega) (by omega); have hy : A &&& m = v → ∀ a', Ends L c (q + 8) a' r := fun e => hy (by show decide (bits .and .u64 (A : Int) m = v) = true; rw [ha]; simp; omega)
  have hn : ¬ A &&& m = v → ∀ a', Ends L c t a' r := fun e => hn (by show decide (bits .and .u64 (A : Int) m = v) = false; rw [ha]; simp; omega); have h : CodeAt L t q [ldI i 1, Ins.mk 2 0 0 (m / 4294967296 : Nat), Ins.mk 4 1 0 (v / 4294967296 : Nat), jmpI, ldI i 0, Ins.mk 2 0 0 (m % 4294967296 : Nat), Ins.mk 4 1 0 (v % 4294967296 : Nat), jmpI] := h
  exact c_ld h 0 rfl rfl w1 (c_and h 1 rfl rfl b1 (c_eq h 2 rfl (fun e1 => c_ld h 4 rfl rfl w0 (c_and h 5 rfl rfl b0 (c_eq h 6 rfl (fun e0 => hy (hk.2 ⟨by omega, by omega⟩) _) (fun e0 => h.away 7 _ rfl rfl (hn (fun e => by have := hk.1 e; omega) _))))) (fun e1 => h.away 3 _ rfl rfl (hn (fun e => by have := hk.1 e; omega) _))))
end
end Go.Proofs.YtmgngapkgcofnabGreatDoor
namespace Go.Proofs.YtmgngapkgcofnabGreatDoor
open Go.RowKit
theorem modify_get {α : Type} (f : α → α) (l : List α) (a j : Nat) : (l.modify a f)[j]? = if a = j then (l[j]?).map f else l[j]? := by
 rw [List.getElem?_modify]; split
 ·rfl
 ·simp
def setK (k : Int) (x : Ins) : Ins := ⟨x.op, x.jt, x.jf, k⟩
theorem hereN_get (l : List Ins) (o : List Int) (j : Nat) : ∀ n, n ≤ o.length → (∀ a ∈ o, 0 ≤ a) →
  (((j : Int) ∈ o.take n) → (hereN l o n)[j]? = (l[j]?).map (setK ((l.length : Int) - j - 1))) ∧ ((j : Int) ∉ o.take n → (hereN l o n)[j]? = l[j]?) := by
 intro n
 induction n with
 | zero => intro _ _; exact ⟨fun h => absurd h (by simp), fun _ => rfl⟩
 | succ n ih =>
  intro hn h0; obtain ⟨i1, i2⟩ := ih (by omega) h0; have hlt : n < o.length := by omega
  have hg : o[n]? = some o[n] := List.getElem?_eq_getElem hlt; have hz := h0 o[n] (List.getElem_mem hlt); rw [List.take_add_one, hg, hereN, hg]; simp only [Option.toList_some, List.mem_append, List.mem_singleton]; rw [show setKL (hereN l o n) o[n].toNat (l.length - o[n] - 1) = (hereN l o n).modify o[n].toNat (setK (l.length - o[n] - 1)) from rfl, modify_get]; constructor
  ·intro h
   by_cases e : (j : Int) = o[n]
   ·rw [if_pos (by omega), ← e]
    by_cases m : (j : Int) ∈ o.take n
    ·rw [i1 m, Option.map_map]; rfl
    ·rw [i2 m]
   ·rw [if_neg (by omega)]; exact i1 (by rcases h with h | h; exact h; exact absurd h e)
  ·intro h; have h1 : (j : Int) ∉ o.take n := fun k => h (.inl k); have h2 : (j : Int) ≠ o[n] := fun k => h (.inr k); rw [if_neg (by omega)]; exact i2 h1
def Opened (b : Nat) (s : List Ins × List Int) : Prop := (∀ a ∈ s.2, (b : Int) ≤ a ∧ a < s.1.length) ∧ ∀ (j : Nat) x, b ≤ j → s.1[j]? = some x → ((j : Int) ∈ s.2 ↔ x.op = 3)
theorem condO_iff (op : Int) (a v m : Nat) (hop : 1 ≤ op ∧ op ≤ 7) (i : Nat) (x : Ins) (h : (condL op a v m)[i]? = some x) : i ∈ condO op ↔ x.op = 3 := by
 have h7 : op = 1 ∨ op = 2 ∨ op = 3 ∨ op = 4 ∨ op = 5 ∨ op = 6 ∨ op = 7 := by omega
 have hl := condL_len op a v m
 have hi : i < 8 := by
  obtain ⟨h1, _⟩ := List.getElem?_eq_some_iff.1 h; omega
 have i8 : i = 0 ∨ i = 1 ∨ i = 2 ∨ i = 3 ∨ i = 4 ∨ i = 5 ∨ i = 6 ∨ i = 7 := by omega
 rcases h7 with rfl | rfl | rfl | rfl | rfl | rfl | rfl <;> rcases i8 with rfl | rfl | rfl | rfl | rfl | rfl | rfl | rfl <;> simp [condL, condO, ldI, jmpI] at h ⊢ <;> (try subst h) <;> simp
theorem opened_add (b : Nat) (s : List Ins × List Int) (hs : Opened b s) (hb : b ≤ s.1.length) (op : Int) (a v m : Nat) (hop : 1 ≤ op ∧ op ≤ 7) :
  Opened b (s.1 ++ condL op a v m, s.2 ++ (condO op).map fun i => ((s.1.length + i : Nat) : Int)) := by
 obtain ⟨h1, h2⟩ := hs; refine ⟨fun x hx => ?_, fun j x hj hx => ?_⟩
 ·simp only [List.mem_append, List.mem_map] at hx; simp only [List.length_append]; rcases hx with hx | ⟨i, hi, rfl⟩
  ·have := h1 x hx; omega
  ·have := condO_lt op a v m i hi; omega
 ·simp only [List.mem_append, List.mem_map]; simp only at hx
  by_cases hl : j < s.1.length
  ·rw [List.getElem?_append_left hl] at hx; rw [← h2 j x hj hx]; constructor
   ·rintro (h | ⟨i, _, hi⟩)
    ·exact h
    ·exact absurd hi (by omega)
   ·exact .inl
  ·rw [List.getElem?_append_right (by omega)] at hx; rw [← condO_iff op a v m hop _ x hx]; constructor
   ·rintro (h | ⟨i, h, hi⟩)
    ·have := h1 _ h; omega
    ·rw [show j - s.1.length = i by omega]; exact h
   ·intro h; exact .inr ⟨_, h, by omega⟩
def condsB (cs : List CondD) : Nat → List Ins
 | 0 => []
 | k + 1 => match cs[k]? with
  | some c => if 7 < c.op then condsB cs k else condsB cs k ++ condL c.op c.arg.toNat c.v.toNat c.m.toNat
  | none => condsB cs k
theorem condsL_opened (b : Nat) (s : List Ins × List Int) (hs : Opened b s) (hb : b ≤ s.1.length) (cs : List CondD) (hc : ∀ c ∈ cs, 1 ≤ c.op) : ∀ k, Opened b (condsL s cs k) ∧ (condsL s cs k).1 = s.1 ++ condsB cs k := by
 intro k
 induction k with
 | zero => exact ⟨hs, by simp [condsL, condsB]⟩
 | succ k ih =>
  rw [condsL, condsB]
  cases hg : cs[k]? with
  | none => exact ih
  | some c =>
   have h1 := hc c (List.mem_of_getElem? hg); simp only; split
   ·exact ih
   ·refine ⟨opened_add b _ ih.1 (by rw [ih.2]; simp; omega) _ _ _ _ ⟨h1, by omega⟩, ?_⟩; rw [ih.2]; simp
def ruleB (r : RuleD) (i : Nat) : List Ins := [Ins.mk 1 0 0 0, Ins.mk 4 1 0 r.nr, jmpI] ++ condsB r.conds r.conds.length ++ [Ins.mk 8 0 0 (ruleK i r)]
theorem rule_code (l : List Ins) (i : Nat) (r : RuleD) (hc : ∀ c ∈ r.conds, 1 ≤ c.op) :
  (∀ j, j < l.length → (ruleL l i r)[j]? = l[j]?) ∧ CodeAt (ruleL l i r) (ruleL l i r).length l.length (ruleB r i) ∧ (ruleL l i r).length = l.length + (ruleB r i).length := by
 have hs : Opened l.length (l ++ [Ins.mk 1 0 0 0, Ins.mk 4 1 0 r.nr, jmpI], [((l.length + 2 : Nat) : Int)]) := by
  refine ⟨fun a ha => ?_, fun j x hj hx => ?_⟩
  ·simp at ha; subst ha; simp; omega
  ·simp only at hx; rw [List.getElem?_append_right hj] at hx; obtain ⟨d, rfl⟩ : ∃ d, j = l.length + d := ⟨j - l.length, by omega⟩
   rw [Nat.add_sub_cancel_left] at hx
   have hd : d < 3 := by
    obtain ⟨h1, _⟩ := List.getElem?_eq_some_iff.1 hx
    simpa using h1
   have : d = 0 ∨ d = 1 ∨ d = 2 := by omega
   rcases this with rfl | rfl | rfl <;> simp [jmpI] at hx <;> subst hx <;> simp <;> omega
 obtain ⟨ho, he⟩ := condsL_opened l.length _ hs (by simp) r.conds hc r.conds.length; have hS : condsL (l ++ [Ins.mk 1 0 0 0, Ins.mk 4 1 0 r.nr, jmpI], [((l.length + 2 : Nat) : Int)]) r.conds r.conds.length = ruleS l r := rfl; rw [hS] at ho he; simp only at he; have hL : (ruleS l r).1 ++ [Ins.mk 8 0 0 (ruleK i r)] = l ++ ruleB r i := by rw [he, ruleB]; simp
 have hlen : (ruleL l i r).length = l.length + (ruleB r i).length := by rw [ruleL, hereN_length, hL]; simp
 have hg := fun j => hereN_get (l ++ ruleB r i) (ruleS l r).2 j (ruleS l r).2.length (Nat.le_refl _) (fun a ha => by have := ho.1 a ha; omega); rw [List.take_length] at hg; have hR : ruleL l i r = hereN (l ++ ruleB r i) (ruleS l r).2 (ruleS l r).2.length := by rw [ruleL, hL]
 refine ⟨fun j hj => ?_, fun d x hx => ?_, hlen⟩
 ·rw [hR, (hg j).2 (fun k => by have := ho.1 _ k; omega), List.getElem?_append_left hj]
 ·have hx' : (l ++ ruleB r i)[l.length + d]? = some x := by rw [List.getElem?_append_right (by omega)]; simpa using hx
  have hiff : ((l.length + d : Nat) : Int) ∈ (ruleS l r).2 ↔ x.op = 3 := by
   by_cases hd : l.length + d < (ruleS l r).1.length
   ·refine ho.2 _ x (by omega) ?_; rw [← hL, List.getElem?_append_left hd] at hx'; exact hx'
   ·rw [← hL, List.getElem?_append_right (by omega)] at hx'; obtain ⟨h1, h2⟩ := List.getElem?_eq_some_iff.1 hx'; have : l.length + d - (ruleS l r).1.length = 0 := by simpa using h1
    simp only [this, List.getElem_cons_zero] at h2; subst h2; constructor
    ·intro h; have := ho.1 _ h; omega
    ·intro h; exact absurd h (by show (8 : Int) ≠ 3; decide)
  by_cases h3 : x.op = 3
  ·refine ⟨setK (((l ++ ruleB r i).length : Int) - (l.length + d : Nat) - 1) x, ?_, ?_⟩
   ·rw [hR, (hg _).1 (hiff.2 h3), hx']; rfl
   ·rw [if_pos h3]; obtain ⟨h1, _⟩ := List.getElem?_eq_some_iff.1 hx; refine ⟨h3, rfl, rfl, ?_, ?_⟩
    ·simp only [setK, List.length_append]; omega
    ·rw [hlen]; simp only [setK, List.length_append]; omega
  ·refine ⟨x, ?_, by rw [if_neg h3]⟩; rw [hR, (hg _).2 (fun k => h3 (hiff.1 k)), hx']
end Go.Proofs.YtmgngapkgcofnabGreatDoor
namespace Go.Proofs.YtmgngapkgcofnabGreatDoor
open Go.RowKit
def passC (c : CallD) (x : CondD) : Bool := decide (7 < x.op) || numB x.op x.v x.m (argN c x.arg.toNat)
def fitB (c : CallD) (r : RuleD) : Bool := decide (c.nr = r.nr) && r.conds.all (passC c)
def pickL (c : CallD) (els : Int) : Nat → List RuleD → Int
 | _, [] => els
 | i, r :: rs => if fitB c r then ruleK i r else pickL c els (i + 1) rs
def resF (p : PolD) (c : CallD) : Int := if c.arch = 3221225534 then pickL c (retK p.kind p.errno) 0 p.rules else 0
def goodC (x : CondD) : Prop := 0 ≤ x.arg ∧ x.arg ≤ 3 ∧ 1 ≤ x.op ∧ 0 ≤ x.v ∧ x.v < 18446744073709551616 ∧ 0 ≤ x.m ∧ x.m < 18446744073709551616
section
variable {L : List Ins} {c : CallD} {t q : Nat} {r : Int}
theorem conds_sim (hc : c.ok) (cs : List CondD) (hg : ∀ x ∈ cs, goodC x) (hn : cs.all (passC c) = false → ∀ a', Ends L c t a' r) : ∀ k, k ≤ cs.length → CodeAt L t q (condsB cs k) →
  ((cs.take k).all (passC c) = true → ∀ a', Ends L c (q + (condsB cs k).length) a' r) → ∀ a, Ends L c q a r := by
 intro k
 induction k with
 | zero => intro _ _ hy a; exact hy (by simp) a
 | succ k ih =>
  intro hk h hy a; have hlt : k < cs.length := by omega
  have hk1 : cs[k]? = some cs[k] := List.getElem?_eq_getElem hlt; have hmem : cs[k] ∈ cs := List.getElem_mem hlt
  have hsplit : (cs.take (k + 1)).all (passC c) = ((cs.take k).all (passC c) && passC c cs[k]) := by
   rw [List.take_add_one, hk1, List.all_append]; simp only [Option.toList_some, List.all_cons, List.all_nil, Bool.and_true]
  rw [condsB, hk1] at h hy; simp only at h hy; rw [hsplit] at hy
  by_cases h7 : 7 < cs[k].op
  ·rw [if_pos h7] at h hy; refine ih (by omega) h (fun ht a' => hy ?_ a') a; rw [ht]; simp [passC, h7]
  ·rw [if_neg h7] at h hy; refine ih (by omega) h.left (fun ht a' => ?_) a; obtain ⟨g1, g2, g3, g4, g5, g6, g7⟩ := hg _ hmem; have e1 : ((cs[k].v.toNat : Nat) : Int) = cs[k].v := by omega
   have e2 : ((cs[k].m.toNat : Nat) : Int) = cs[k].m := by omega
   refine cond_sim cs[k].op cs[k].arg.toNat cs[k].v.toNat cs[k].m.toNat hc (by omega) (by omega) ⟨g3, by omega⟩ h.right (fun hb => ?_) (fun hb => ?_)
   ·rw [e1, e2] at hb; rw [List.length_append, ← Nat.add_assoc] at hy; exact hy (by rw [ht]; simp [passC, hb])
   ·rw [e1, e2] at hb; refine hn ?_; rw [Bool.eq_false_iff]; intro hall; have := List.all_eq_true.1 hall _ hmem; rw [passC, hb] at this; simp [h7] at this
theorem rule_sim (hc : c.ok) (i : Nat) (u : RuleD) (hg : ∀ x ∈ u.conds, goodC x) (h : CodeAt L t q (ruleB u i)) (hy : fitB c u = true → r = ruleK i u) (hn : fitB c u = false → ∀ a', Ends L c t a' r) (a : Int) : Ends L c q a r := by
 have hb : CodeAt L t q ([Ins.mk 1 0 0 0, Ins.mk 4 1 0 u.nr, jmpI] ++ condsB u.conds u.conds.length ++ [Ins.mk 8 0 0 (ruleK i u)]) := h; refine c_ld hb.left.left 0 rfl rfl (v := c.nr) (by cases c; rfl) (c_eq hb.left.left 1 rfl (fun e => ?_) (fun e => hb.left.left.away 2 _ rfl rfl (hn (by simp [fitB, e]) _)))
 refine conds_sim (t := t) (q := q + 3) hc u.conds hg (fun hf => hn (by simp only [fitB, hf, Bool.and_false])) u.conds.length (Nat.le_refl _) hb.left.right (fun ht a' => ?_) _; rw [List.take_length] at ht; rw [hy (by simp [fitB, e, ht])]; have hr := hb.right; simp only [List.length_append, List.length_cons, List.length_nil] at hr; have := hr.same 0 _ rfl (by show (8 : Int) ≠ 3; decide)
 rw [show q + (0 + 1 + 1 + 1 + (condsB u.conds u.conds.length).length) + 0 = q + 3 + (condsB u.conds u.conds.length).length by omega] at this; exact ends_ret this rfl
end
theorem CodeAt.agree {L L' : List Ins} {t q : Nat} {blk : List Ins} (h : CodeAt L t q blk) (ha : ∀ j, j < L.length → L'[j]? = L[j]?) : CodeAt L' t q blk := fun i x hx => by
 obtain ⟨y, h1, h2⟩ := h i x hx; obtain ⟨h3, _⟩ := List.getElem?_eq_some_iff.1 h1; exact ⟨y, by rw [ha _ h3]; exact h1, h2⟩
theorem rules_step (rs : List RuleD) (hg : ∀ r ∈ rs, ∀ x ∈ r.conds, goodC x) (k : Nat) (u : RuleD) (hu : rs[k]? = some u) :
  (∀ j, j < (rulesL rs k).length → (rulesL rs (k + 1))[j]? = (rulesL rs k)[j]?) ∧ CodeAt (rulesL rs (k + 1)) (rulesL rs (k + 1)).length (rulesL rs k).length (ruleB u k) ∧ (rulesL rs (k + 1)).length = (rulesL rs k).length + (ruleB u k).length := by
 rw [rulesL, hu]; exact rule_code (rulesL rs k) k u (fun x hx => (hg u (List.mem_of_getElem? hu) x hx).2.2.1)
theorem rules_agree (rs : List RuleD) (hg : ∀ r ∈ rs, ∀ x ∈ r.conds, goodC x) (k : Nat) : ∀ d, k + d ≤ rs.length → (rulesL rs k).length ≤ (rulesL rs (k + d)).length ∧ ∀ j, j < (rulesL rs k).length → (rulesL rs (k + d))[j]? = (rulesL rs k)[j]? := by
 intro d
 induction d with
 | zero => intro _; exact ⟨Nat.le_refl _, fun _ _ => rfl⟩
 | succ d ih =>
  intro hd; obtain ⟨i1, i2⟩ := ih (by omega); obtain ⟨s1, _, s3⟩ := rules_step rs hg (k + d) _ (List.getElem?_eq_getElem (show k + d < rs.length by omega)); exact ⟨by rw [← Nat.add_assoc]; omega, fun j hj => by rw [← Nat.add_assoc, s1 j (by omega), i2 j hj]⟩
theorem progL_at (p : PolD) (hg : ∀ r ∈ p.rules, ∀ x ∈ r.conds, goodC x) (k : Nat) (hk : k ≤ p.rules.length) (j : Nat) (hj : j < (rulesL p.rules k).length) : (progL p)[j]? = (rulesL p.rules k)[j]? := by
 obtain ⟨d, hd⟩ : ∃ d, p.rules.length = k + d := ⟨p.rules.length - k, by omega⟩
 obtain ⟨h1, h2⟩ := rules_agree p.rules hg k d (by omega); unfold progL; rw [hd, List.getElem?_append_left (by omega), h2 j hj]
theorem prog_rest (p : PolD) (c : CallD) (hc : c.ok) (hg : ∀ r ∈ p.rules, ∀ x ∈ r.conds, goodC x) : ∀ d k, k + d = p.rules.length → ∀ a, Ends (progL p) c (rulesL p.rules k).length a (pickL c (retK p.kind p.errno) k (p.rules.drop k)) := by
 intro d
 induction d with
 | zero =>
  intro k hk a; rw [show k = p.rules.length by omega, List.drop_length]; refine ends_ret (x := Ins.mk 8 0 0 (retK p.kind p.errno)) ?_ rfl; unfold progL; rw [List.getElem?_append_right (Nat.le_refl _)]; simp
 | succ d ih =>
  intro k hk a; have hlt : k < p.rules.length := by omega
  have hu := List.getElem?_eq_getElem hlt; obtain ⟨_, s2, _⟩ := rules_step p.rules hg k _ hu; have s2 := s2.agree (progL_at p hg (k + 1) (by omega)); rw [List.drop_eq_getElem_cons hlt, pickL]; refine rule_sim hc k p.rules[k] (hg _ (List.getElem_mem hlt)) s2 (fun hf => by rw [if_pos hf]) (fun hf => ?_) a; rw [if_neg (by rw [hf]; decide)]; exact ih (k + 1) (by omega)
theorem prog_sim (p : PolD) (c : CallD) (hc : c.ok) (hg : ∀ r ∈ p.rules, ∀ x ∈ r.conds, goodC x) (a : Int) : Ends (progL p) c 0 a (resF p c) := by
 have h0 : CodeAt (progL p) 0 0 (rulesL p.rules 0) := fun i x hx => by
  obtain ⟨h1, h2⟩ := List.getElem?_eq_some_iff.1 hx; refine ⟨x, by rw [Nat.zero_add, progL_at p hg 0 (Nat.zero_le _) i h1, hx], ?_⟩; have hi : i < 3 := h1; have : i = 0 ∨ i = 1 ∨ i = 2 := by omega
  rw [if_neg]; rcases this with rfl | rfl | rfl <;> (rw [← h2]; first | (show (1 : Int) ≠ 3; decide) | (show (4 : Int) ≠ 3; decide) | (show (8 : Int) ≠ 3; decide))
 have h0 : CodeAt (progL p) 0 0 [Ins.mk 1 0 0 4, Ins.mk 4 1 0 3221225534, Ins.mk 8 0 0 0] := h0; refine c_ld (q := 0) h0 0 rfl rfl (v := c.arch) (by cases c; rfl) (c_eq h0 1 rfl (fun e => ?_) (fun e => ?_))
 ·rw [resF, if_pos e]; exact prog_rest p c hc hg p.rules.length 0 (by omega) _
 ·rw [resF, if_neg e]; exact ends_ret (h0.same 2 _ rfl (by show (8 : Int) ≠ 3; decide)) rfl
theorem prog_run (p : PolD) (c : CallD) (hc : c.ok) (hg : ∀ r ∈ p.rules, ∀ x ∈ r.conds, goodC x) : (runF (progL p) c (progL p).length 0 0 0).1 = resF p c :=
 (prog_sim p c hc hg 0 _ 0 (by omega)).2
end Go.Proofs.YtmgngapkgcofnabGreatDoor
namespace Go.Proofs.YtmgngapkgcofnabGreatDoor
open Go.RowKit
theorem run_law {l : List Ins} (c : CallD) (hok : ∀ x ∈ l, x.ok) (hsc : scanF l = 0) (hlast : (l[l.length - 1]?).map (·.op) = some 8) :
  ∀ (n p : Nat) (a st : Int), p < l.length → l.length - p ≤ n →
   st + 1 ≤ (runF l c n p a st).2 ∧ (runF l c n p a st).2 ≤ st + (l.length - p : Nat) ∧ ∃ x ∈ l, x.op = 8 ∧ x.k = (runF l c n p a st).1 := by
 intro n
 induction n with
 | zero => intro p a st hp hn; omega
 | succ n ih =>
  intro p a st hp hn; have hf := fine_at hok hsc p hp
  have hend : p + 1 = l.length → l[p].op = 8 := fun e => by
   rw [show l.length - 1 = p from by omega, List.getElem?_eq_getElem hp] at hlast
   simpa using hlast
  have hx : l[p] ∈ l := List.getElem_mem hp; obtain ⟨k0, k1⟩ := hok _ hx; obtain ⟨⟨o1, o2⟩, ⟨j1, j2⟩, ⟨j3, j4⟩, fw, fj, fb⟩ := hf
  by_cases c1 : l[p].op = 1
  ·rw [runF_1 hp c1]
   have hp2 : p + 1 < l.length := by
    rcases Nat.lt_or_ge (p + 1) l.length with h | h
    ·exact h
    ·have := hend (by omega); omega
   obtain ⟨h1, h2, h3⟩ := ih (p + 1) (c.word l[p].k) (st + 1) hp2 (by omega); exact ⟨by omega, by omega, h3⟩
  by_cases c2 : l[p].op = 2
  ·rw [runF_2 hp c2]
   have hp2 : p + 1 < l.length := by
    rcases Nat.lt_or_ge (p + 1) l.length with h | h
    ·exact h
    ·have := hend (by omega); omega
   obtain ⟨h1, h2, h3⟩ := ih (p + 1) (bits .and .u32 a l[p].k) (st + 1) hp2 (by omega); exact ⟨by omega, by omega, h3⟩
  by_cases c3 : l[p].op = 3
  ·rw [runF_3 hp c3]; have := fj c3; obtain ⟨h1, h2, h3⟩ := ih (p + 1 + l[p].k.toNat) a (st + 1) (by omega) (by omega); exact ⟨by omega, by omega, h3⟩
  by_cases c8 : l[p].op = 8
  ·rw [runF_8 hp c8]; exact ⟨by simp, by simp; omega, l[p], hx, c8, rfl⟩
  ·rw [runF_b hp (by omega)]; obtain ⟨y1, y2⟩ := fb (by omega) (by omega); split
   ·obtain ⟨h1, h2, h3⟩ := ih (p + 1 + l[p].jt.toNat) a (st + 1) (by omega) (by omega); exact ⟨by omega, by omega, h3⟩
   ·obtain ⟨h1, h2, h3⟩ := ih (p + 1 + l[p].jf.toNat) a (st + 1) (by omega) (by omega); exact ⟨by omega, by omega, h3⟩
def sI (x : Ins) (d : Int) : Prop := (0 ≤ x.k ∧ x.k < 4294967296) ∧ (((x.op = 1 ∧ x.k % 4 = 0 ∧ x.k < 40) ∨ x.op = 2 ∨ (x.op = 3 ∧ x.k ≤ d) ∨ x.op = 8) ∧ x.jt = 0 ∧ x.jf = 0 ∨ (4 ≤ x.op ∧ x.op ≤ 7) ∧ 0 ≤ x.jt ∧ x.jt ≤ 255 ∧ 0 ≤ x.jf ∧ x.jf ≤ 255 ∧ x.jt ≤ d ∧ x.jf ≤ d)
theorem sI.up {x : Ins} {d e : Int} (h : sI x d) (he : d ≤ e) : sI x e := by
 unfold sI at h ⊢; omega
theorem sI.one {x : Ins} {d b : Int} (h : sI x d) (hb : d < b) : oneF x.op x.jt x.jf x.k b = 0 := by
 unfold sI at h; unfold oneF; rw [if_neg (by omega), if_neg (by omega), if_neg (by omega), if_neg (by omega), if_neg (by omega)]
def sB (l : List Ins) : Prop := ∀ (i : Nat) x, l[i]? = some x → sI x ((l.length : Int) - i - 1)
theorem sB_nil : sB [] := fun i x h => by simp at h
theorem sB_cons {x : Ins} {l : List Ins} (h : sI x l.length) (hl : sB l) : sB (x :: l) := fun i y hy => by
 cases i with
 | zero =>
  obtain rfl : x = y := by simpa using hy
  exact h.up (by simp)
 | succ i => exact (hl i y (by simpa using hy)).up (by simp; omega)
theorem sB_append {a b : List Ins} (ha : sB a) (hb : sB b) : sB (a ++ b) := by
 induction a with
 | nil => exact hb
 | cons x a ih =>
  rw [List.cons_append]; refine sB_cons ((ha 0 x rfl).up (by simp; omega)) (ih fun i y hy => (ha (i + 1) y (by simpa using hy)).up (by simp; omega))
theorem condL_safe (op : Int) (i v m : Nat) (hi : i < 4) (hv : v < 18446744073709551616) (hm : m < 18446744073709551616) (hop : 1 ≤ op ∧ op ≤ 7) : sB (condL op i v m) := by
 have h7 : op = 1 ∨ op = 2 ∨ op = 3 ∨ op = 4 ∨ op = 5 ∨ op = 6 ∨ op = 7 := by omega
 rcases h7 with rfl | rfl | rfl | rfl | rfl | rfl | rfl
 ·change sB [ldI i 1, Ins.mk 4 1 0 (v / 4294967296 : Nat), jmpI, ldI i 0, Ins.mk 4 1 0 (v % 4294967296 : Nat), jmpI]
  repeat' (first | exact sB_nil | refine sB_cons ?_ ?_)
  all_goals (simp [sI, ldI, jmpI]; try omega)
 ·change sB [ldI i 1, Ins.mk 4 0 3 (v / 4294967296 : Nat), ldI i 0, Ins.mk 4 0 1 (v % 4294967296 : Nat), jmpI]
  repeat' (first | exact sB_nil | refine sB_cons ?_ ?_)
  all_goals (simp [sI, ldI, jmpI]; try omega)
 ·change sB [ldI i 1, Ins.mk 5 1 0 (v / 4294967296 : Nat), Ins.mk 4 1 4 (v / 4294967296 : Nat), jmpI, ldI i 0, Ins.mk 6 0 1 (v % 4294967296 : Nat), jmpI]
  repeat' (first | exact sB_nil | refine sB_cons ?_ ?_)
  all_goals (simp [sI, ldI, jmpI]; try omega)
 ·change sB [ldI i 1, Ins.mk 5 1 0 (v / 4294967296 : Nat), Ins.mk 4 1 4 (v / 4294967296 : Nat), jmpI, ldI i 0, Ins.mk 5 0 1 (v % 4294967296 : Nat), jmpI]
  repeat' (first | exact sB_nil | refine sB_cons ?_ ?_)
  all_goals (simp [sI, ldI, jmpI]; try omega)
 ·change sB [ldI i 1, Ins.mk 5 5 0 (v / 4294967296 : Nat), Ins.mk 4 1 0 (v / 4294967296 : Nat), jmpI, ldI i 0, Ins.mk 5 1 0 (v % 4294967296 : Nat), jmpI]
  repeat' (first | exact sB_nil | refine sB_cons ?_ ?_)
  all_goals (simp [sI, ldI, jmpI]; try omega)
 ·change sB [ldI i 1, Ins.mk 5 5 0 (v / 4294967296 : Nat), Ins.mk 4 1 0 (v / 4294967296 : Nat), jmpI, ldI i 0, Ins.mk 6 1 0 (v % 4294967296 : Nat), jmpI]
  repeat' (first | exact sB_nil | refine sB_cons ?_ ?_)
  all_goals (simp [sI, ldI, jmpI]; try omega)
 ·change sB [ldI i 1, Ins.mk 2 0 0 (m / 4294967296 : Nat), Ins.mk 4 1 0 (v / 4294967296 : Nat), jmpI, ldI i 0, Ins.mk 2 0 0 (m % 4294967296 : Nat), Ins.mk 4 1 0 (v % 4294967296 : Nat), jmpI]
  repeat' (first | exact sB_nil | refine sB_cons ?_ ?_)
  all_goals (simp [sI, ldI, jmpI]; try omega)
theorem condsB_safe (cs : List CondD) (hg : ∀ x ∈ cs, goodC x) : ∀ k, sB (condsB cs k) := by
 intro k
 induction k with
 | zero => exact sB_nil
 | succ k ih =>
  rw [condsB]
  cases hk : cs[k]? with
  | none => exact ih
  | some x =>
   obtain ⟨g1, g2, g3, g4, g5, g6, g7⟩ := hg x (List.mem_of_getElem? hk); simp only; split
   ·exact ih
   ·exact sB_append ih (condL_safe _ _ _ _ (by omega) (by omega) (by omega) ⟨g3, by omega⟩)
theorem actF_cases {k e : Int} (h : actF k e = 0) : k = 1 ∧ e = 0 ∨ k = 3 ∧ e = 0 ∨ k = 2 ∧ 1 ≤ e ∧ e ≤ 255 := by
 unfold actF at h; split at h
 ·split at h <;> omega
 ·split at h
  ·split at h <;> omega
  ·omega
theorem retK_range {k e : Int} (h : actF k e = 0) : 0 ≤ retK k e ∧ retK k e < 4294967296 := by
 rcases actF_cases h with ⟨rfl, rfl⟩ | ⟨rfl, rfl⟩ | ⟨rfl, h1, h2⟩
 ·decide
 ·decide
 ·show 0 ≤ 327680 + e ∧ 327680 + e < 4294967296; omega
structure RightP (p : PolD) : Prop where
 few : p.rules.length ≤ 12
 els : actF p.kind p.errno = 0
 rul : ∀ r ∈ p.rules, 0 ≤ r.nr ∧ r.nr ≤ 8 ∧ r.conds.length ≤ 4 ∧ actF r.kind r.errno = 0
 con : ∀ r ∈ p.rules, ∀ x ∈ r.conds, goodC x
theorem ruleK_range {r : RuleD} {i : Nat} (hi : i < 12) (h : actF r.kind r.errno = 0) : 0 ≤ ruleK i r ∧ ruleK i r < 4294967296 := by
 unfold ruleK; split
 ·omega
 ·exact retK_range h
theorem rules_safe {p : PolD} (hp : RightP p) : ∀ k, k ≤ p.rules.length → sB (rulesL p.rules k) := by
 intro k
 induction k with
 | zero =>
  intro _; change sB [Ins.mk 1 0 0 4, Ins.mk 4 1 0 3221225534, Ins.mk 8 0 0 0]
  repeat' (first | exact sB_nil | refine sB_cons ?_ ?_)
  all_goals simp [sI]
 | succ k ih =>
  intro hk; have hlt : k < p.rules.length := by omega
  have hu := List.getElem?_eq_getElem hlt; have hm : p.rules[k] ∈ p.rules := List.getElem_mem hlt; have hf := hp.few; obtain ⟨n1, n2, n3, n4⟩ := hp.rul _ hm; obtain ⟨s1, s2, s3⟩ := rules_step p.rules hp.con k _ hu; have hlen := rulesL_len p.rules (fun r hr => (hp.rul r hr).2.2.1) (k + 1)
  have hb : sB (ruleB p.rules[k] k) := by
   refine sB_append (sB_append ?_ (condsB_safe _ (hp.con _ hm) _)) ?_
   ·repeat' (first | exact sB_nil | refine sB_cons ?_ ?_)
    all_goals (simp [sI, jmpI]; try omega)
   ·have := ruleK_range (show k < 12 by omega) n4; refine sB_cons ⟨this, .inl ⟨.inr (.inr (.inr rfl)), rfl, rfl⟩⟩ sB_nil
  intro j y hy
  by_cases hj : j < (rulesL p.rules k).length
  ·rw [s1 j hj] at hy; exact (ih (by omega) j y hy).up (by omega)
  ·obtain ⟨d, rfl⟩ : ∃ d, j = (rulesL p.rules k).length + d := ⟨j - (rulesL p.rules k).length, by omega⟩
   obtain ⟨hj2, _⟩ := List.getElem?_eq_some_iff.1 hy; have hd : d < (ruleB p.rules[k] k).length := by omega
   obtain ⟨z, hz, hz2⟩ := s2 d _ (List.getElem?_eq_getElem hd); obtain rfl : z = y := by rw [hz] at hy; simpa using hy
   have hx := hb d _ (List.getElem?_eq_getElem hd); split at hz2
   ·rename_i h3; obtain ⟨z1, z2, z3, z4, z5⟩ := hz2; unfold sI at hx; unfold sI; omega
   ·subst hz2; exact hx.up (by omega)
theorem scanF_zero : ∀ (l : List Ins), (∀ (i : Nat) x, l[i]? = some x → oneF x.op x.jt x.jf x.k ((l.length : Int) - 1 - i) = 0) → scanF l = 0
 | [], _ => rfl
 | x :: r, h => by
  have h0 := h 0 x rfl; rw [show (((x :: r).length : Nat) : Int) - 1 - (0 : Nat) = (r.length : Nat) by simp] at h0; rw [scanF, if_pos h0]; refine scanF_zero r fun i y hy => ?_; have := h (i + 1) y (by simpa using hy); rw [show (((x :: r).length : Nat) : Int) - 1 - ((i + 1 : Nat) : Int) = (r.length : Int) - 1 - i by simp; omega] at this; exact this
theorem prog_right {p : PolD} (hp : RightP p) : (∀ x ∈ progL p, x.ok) ∧ checkF (progL p) = 0 ∧ (progL p).length ≤ 600 := by
 have hs := rules_safe hp _ (Nat.le_refl _); have hlen := rulesL_len p.rules (fun r hr => (hp.rul r hr).2.2.1) p.rules.length; have hf := hp.few; have hk := retK_range hp.els; have hL : (progL p).length = (rulesL p.rules p.rules.length).length + 1 := by unfold progL; simp
 refine ⟨fun x hx => ?_, ?_, by omega⟩
 ·unfold progL at hx; rcases List.mem_append.1 hx with hx | hx
  ·obtain ⟨i, hi⟩ := List.getElem?_of_mem hx; exact (hs i x hi).1
  ·obtain rfl : x = _ := by simpa using hx
   exact hk
 ·unfold checkF; rw [if_neg (by omega), if_neg, if_pos]
  ·rw [hL]; unfold progL; simp
  ·refine fun h => h (scanF_zero _ fun i x hx => ?_)
   by_cases hi : i < (rulesL p.rules p.rules.length).length
   ·have h2 : (rulesL p.rules p.rules.length)[i]? = some x := by
     unfold progL at hx; rw [List.getElem?_append_left hi] at hx; exact hx
    exact (hs i x h2).one (by omega)
   ·unfold progL at hx; rw [List.getElem?_append_right (by omega)] at hx; obtain ⟨h1, h2⟩ := List.getElem?_eq_some_iff.1 hx; have : i - (rulesL p.rules p.rules.length).length = 0 := by simpa using h1
    simp only [this, List.getElem_cons_zero] at h2; subst h2; simp [oneF]
def pickJ (c : CallD) (k e : Int) : Nat → List RuleD → Int × Int × Int
 | _, [] => (k, e, 0)
 | i, r :: rs => if fitB c r then (if deepN r.conds r.conds.length then (4, 0, (i : Int)) else (r.kind, r.errno, 0)) else pickJ c k e (i + 1) rs
def judgeF (p : PolD) (c : CallD) : Int × Int × Int := if c.arch = 3221225534 then pickJ c p.kind p.errno 0 p.rules else (3, 0, 0)
theorem verd_act {k e : Int} (h : actF k e = 0) : verdF (retK k e).toNat = some (k, e, 0) := by
 rcases actF_cases h with ⟨rfl, rfl⟩ | ⟨rfl, rfl⟩ | ⟨rfl, h1, h2⟩
 ·decide
 ·decide
 ·obtain ⟨n, rfl⟩ : ∃ n : Nat, e = n := ⟨e.toNat, by omega⟩
  have : (retK 2 (n : Int)).toNat = 327680 + n := by
   show ((327680 : Int) + n).toNat = _; omega
  rw [this]; unfold verdF; rw [if_neg (by omega), if_neg (by omega), if_pos (by omega), if_pos (by omega)]; simp only [Option.some.injEq, Prod.mk.injEq, and_true, true_and]; omega
theorem verd_deep {i : Nat} (h : i < 12) : verdF (((2146435072 + i : Nat) : Int)).toNat = some (4, 0, (i : Int)) := by
 rw [Int.toNat_natCast]; unfold verdF; rw [if_neg (by omega), if_neg (by omega), if_neg (by omega), if_pos (by omega), if_pos (by omega)]; simp only [Option.some.injEq, Prod.mk.injEq, true_and]; omega
theorem verd_pick (c : CallD) {k e : Int} (h : actF k e = 0) : ∀ (rs : List RuleD) (i : Nat), i + rs.length ≤ 12 → (∀ r ∈ rs, actF r.kind r.errno = 0) → verdF (pickL c (retK k e) i rs).toNat = some (pickJ c k e i rs) ∧ 0 ≤ pickL c (retK k e) i rs ∧ pickL c (retK k e) i rs < 4294967296
 | [], _, _, _ => ⟨verd_act h, retK_range h⟩
 | r :: rs, i, hi, hr => by
  simp only [List.length_cons] at hi; rw [pickL, pickJ]
  by_cases hf : fitB c r = true
  ·rw [if_pos hf, if_pos hf]; have h1 := hr r (by simp); refine ⟨?_, ruleK_range (by omega) h1⟩; unfold ruleK
   by_cases hd : deepN r.conds r.conds.length = true
   ·rw [if_pos hd, if_pos hd]; exact verd_deep (by omega)
   ·rw [if_neg hd, if_neg hd]; exact verd_act h1
  ·rw [if_neg hf, if_neg hf]; exact verd_pick c h rs (i + 1) (by omega) (fun x hx => hr x (by simp [hx]))
theorem verd_res {p : PolD} (c : CallD) (hp : RightP p) : verdF (resF p c).toNat = some (judgeF p c) ∧ 0 ≤ resF p c ∧ resF p c < 4294967296 := by
 unfold resF judgeF; split
 ·exact verd_pick c hp.els p.rules 0 (by have := hp.few; omega) (fun r hr => (hp.rul r hr).2.2.2)
 ·decide
end Go.Proofs.YtmgngapkgcofnabGreatDoor
namespace Go.Proofs.YtmgngapkgcofnabGreatDoor
open Go.RowKit
theorem beqD (a b : Int) : (a == b) = decide (a = b) := by by_cases h : a = b <;> simp [h]
theorem bneD (a b : Int) : (a != b) = decide (a ≠ b) := by by_cases h : a = b <;> simp [h]
set_option linter.unusedSimpArgs false in
set_option maxHeartbeats 2000000 in
theorem deep_any (c : CondD) (w : World) (hop : 1 ≤ c.op ∧ c.op ≤ 9) :
  Calls Tryz.prog 128 #[c.val] w fun e w' => e = .returned (.bool (decide (7 < c.op))) ∧ Below w.heap.size w w' := by
 obtain ⟨arg, op, v, m, glob, ⟨ip, bits, lo, hi⟩⟩ := c; simp only at hop; unfold CondD.val; simp only
 by_cases h8 : op = 8
 ·subst h8; clear hop; go_enter Tryz.func128, Tryz.ntmps128
  go_wp2_with fail; go_ret; exact ⟨rfl, by go_grown⟩
 by_cases h9 : op = 9
 ·subst h9; clear hop; go_enter Tryz.func128, Tryz.ntmps128
  go_wp2_with fail; go_ret; exact ⟨rfl, by go_grown⟩
 have HF : Hid (decide (7 < op) = false) := by show _ = _; simp; omega
 have e8 : (op == 8) = false := beq_eq_false_iff_ne.2 h8; have e9 : (op == 9) = false := beq_eq_false_iff_ne.2 h9; clear hop; go_enter Tryz.func128, Tryz.ntmps128
 go_wp2_with fail; go_ret; exact ⟨by rw [HF.out]; rfl, by go_grown⟩
set_option linter.unusedSimpArgs false in
set_option maxHeartbeats 4000000 in
theorem polNum_any (c : CondD) (A : Int) (w : World) (hop : 1 ≤ c.op ∧ c.op ≤ 7) :
  Calls Tryz.prog 129 #[c.val, .int .u64 A] w fun e w' => e = .returned (.bool (numB c.op c.v c.m A)) ∧ Below w.heap.size w w' := by
 obtain ⟨arg, op, v, m, glob, ⟨ip, bits, lo, hi⟩⟩ := c; simp only at hop; unfold CondD.val; simp only; have h7 : op = 1 ∨ op = 2 ∨ op = 3 ∨ op = 4 ∨ op = 5 ∨ op = 6 ∨ op = 7 := by omega
 rcases h7 with rfl | rfl | rfl | rfl | rfl | rfl | rfl
 all_goals
  clear hop; go_enter Tryz.func129, Tryz.ntmps129
  go_wp2_with fail; go_ret
 all_goals refine ⟨?_, by go_grown⟩
 ·exact congrArg (fun b => Ending.returned (.bool b)) (beqD A v)
 ·exact congrArg (fun b => Ending.returned (.bool b)) (bneD A v)
 ·rfl
 ·rfl
 ·rfl
 ·rfl
 ·exact congrArg (fun b => Ending.returned (.bool b)) (beqD _ v)
end Go.Proofs.YtmgngapkgcofnabGreatDoor
