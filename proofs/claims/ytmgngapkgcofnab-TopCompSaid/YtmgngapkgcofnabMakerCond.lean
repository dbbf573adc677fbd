/- The maker of a program: cond: the walk. Printed by gencompcond.py. -/
import Derived.Test.YtmgngapkgcofnabMapLit
import Derived.Deep.RegionHeld3
namespace Go.Proofs.Ytmgngapkgcofnab
open Go.RowKit Go.PlainAid

def ldI (a h : Nat) : Ins := Ins.mk 1 0 0 ((8 + 8 * a + 4 * h : Nat) : Int)
def jmpI : Ins := Ins.mk 3 0 0 0
/-- A condition of a number, as instructions; the places that are open. -/
def condL (op : Int) (a v m : Nat) : List Ins :=
  if op = 1 then [ldI a 1, Ins.mk 4 1 0 (v / 4294967296 : Nat), jmpI, ldI a 0, Ins.mk 4 1 0 (v % 4294967296 : Nat), jmpI]
  else if op = 2 then [ldI a 1, Ins.mk 4 0 3 (v / 4294967296 : Nat), ldI a 0, Ins.mk 4 0 1 (v % 4294967296 : Nat), jmpI]
  else if op = 5 ∨ op = 6 then [ldI a 1, Ins.mk 5 5 0 (v / 4294967296 : Nat), Ins.mk 4 1 0 (v / 4294967296 : Nat), jmpI, ldI a 0, Ins.mk (if op = 5 then 5 else 6) 1 0 (v % 4294967296 : Nat), jmpI]
  else if op = 3 ∨ op = 4 then [ldI a 1, Ins.mk 5 1 0 (v / 4294967296 : Nat), Ins.mk 4 1 4 (v / 4294967296 : Nat), jmpI, ldI a 0, Ins.mk (if op = 3 then 6 else 5) 0 1 (v % 4294967296 : Nat), jmpI]
  else if op = 7 then [ldI a 1, Ins.mk 2 0 0 (m / 4294967296 : Nat), Ins.mk 4 1 0 (v / 4294967296 : Nat), jmpI, ldI a 0, Ins.mk 2 0 0 (m % 4294967296 : Nat), Ins.mk 4 1 0 (v % 4294967296 : Nat), jmpI]
  else [ldI a 1]
def condO (op : Int) : List Nat := if op = 1 then [2, 5] else if op = 2 then [4] else if op = 5 ∨ op = 6 then [3, 6] else if op = 3 ∨ op = 4 then [3, 6] else if op = 7 then [3, 7] else []
structure XAt (W0 w' : World) (m : Nat) (l : List Ins) (o : List Int) : Prop where
  mak : MakerAt w' m l o
  bel : Bel m W0 w'
theorem XAt.alloc {W0 w' : World} {m : Nat} {l : List Ins} {o : List Int} (h : XAt W0 w' m l o) (ob : Obj) : XAt W0 (w'.alloc ob) m l o :=
  ⟨h.mak.via ((Below.refl _ _).alloc (Nat.le_refl _) ob) (Nat.le_refl _), h.bel.trans (Bel.of_below ((Below.refl _ _).alloc (Nat.le_refl _) ob) (Nat.le_of_lt h.mak.lt))⟩

theorem XAt.low {W0 w' W : World} {m : Nat} {l : List Ins} {o : List Int} (h : XAt W0 w' m l o) (hb : Below w'.heap.size w' W) : XAt W0 W m l o :=
  ⟨h.mak.via hb (Nat.le_refl _), h.bel.trans (Bel.of_below hb (Nat.le_of_lt h.mak.lt))⟩

set_option linter.unusedSimpArgs false in
set_option maxRecDepth 100000 in
set_option maxHeartbeats 4000000 in
theorem mkCond_any (m : Nat) (l : List Ins) (opn : List Int) (a : Nat) (op : Int) (v mm : Nat) (glob : ByteArray) (ip bits lo hi : Int) (w : World) (h : MakerAt w m l opn) (hl : l.length ≤ 90000) (ho : opn.length ≤ 90000) (ha : a < 4) (hv : v < 18446744073709551616) (hm : mm < 18446744073709551616) (hop : 1 ≤ op ∧ op ≤ 7) :
    Calls Try.prog 14 #[.pointer (some ⟨m, 0, none⟩), .agg #[.int .i64 (a : Int), .int .i64 op, .int .u64 (v : Int), .int .u64 (mm : Int), .string glob, .int .u32 ip, .int .i64 bits, .int .i64 lo, .int .i64 hi]] w fun e w' => e = .returned (.tuple #[]) ∧ MakerAt w' m (l ++ condL op a v mm) (opn ++ (condO op).map fun i => ((l.length + i : Nat) : Int)) ∧ Bel m w w' := by
  have hms := h.lt
  have HX0 : Hid (XAt (w.alloc (.cells #[.int .i64 (a : Int), .int .i64 op, .int .u64 (v : Int), .int .u64 (mm : Int), .string glob, .int .u32 ip, .int .i64 bits, .int .i64 lo, .int .i64 hi] 62)) (w.alloc (.cells #[.int .i64 (a : Int), .int .i64 op, .int .u64 (v : Int), .int .u64 (mm : Int), .string glob, .int .u32 ip, .int .i64 bits, .int .i64 lo, .int .i64 hi] 62)).drew m l opn) := by
    have h1 : Below w.heap.size w (w.alloc (.cells #[.int .i64 (a : Int), .int .i64 op, .int .u64 (v : Int), .int .u64 (mm : Int), .string glob, .int .u32 ip, .int .i64 bits, .int .i64 lo, .int .i64 hi] 62)).drew := ((Below.refl _ _).alloc (Nat.le_refl _) _).trans ⟨rfl, rfl, rfl, Nat.le_refl _, fun _ _ => rfl⟩
    exact ⟨h.via h1 (Nat.le_refl _), ⟨⟨rfl, rfl, rfl, Nat.le_refl _, fun _ _ => rfl⟩, fun _ _ _ _ h _ _ _ => h⟩⟩
  have HB0 : Hid (Bel m w (w.alloc (.cells #[.int .i64 (a : Int), .int .i64 op, .int .u64 (v : Int), .int .u64 (mm : Int), .string glob, .int .u32 ip, .int .i64 bits, .int .i64 lo, .int .i64 hi] 62))) := Bel.of_below ((Below.refl _ _).alloc (Nat.le_refl _) _) (Nat.le_of_lt hms)
  have HCELL : Hid (∀ W' l' o', XAt (w.alloc (.cells #[.int .i64 (a : Int), .int .i64 op, .int .u64 (v : Int), .int .u64 (mm : Int), .string glob, .int .u32 ip, .int .i64 bits, .int .i64 lo, .int .i64 hi] 62)) W' m l' o' → W'.cell? ⟨w.heap.size, 0, none⟩ = some (.int .i64 (a : Int)) ∧ W'.cell? ⟨w.heap.size, 1, none⟩ = some (.int .i64 op) ∧ W'.cell? ⟨w.heap.size, 2, none⟩ = some (.int .u64 (v : Int)) ∧ W'.cell? ⟨w.heap.size, 3, none⟩ = some (.int .u64 (mm : Int)) ∧ W'.cell? ⟨w.heap.size, 4, none⟩ = some (.string glob) ∧ W'.cell? ⟨w.heap.size, 5, none⟩ = some (.int .u32 ip) ∧ W'.cell? ⟨w.heap.size, 6, none⟩ = some (.int .i64 bits) ∧ W'.cell? ⟨w.heap.size, 7, none⟩ = some (.int .i64 lo) ∧ W'.cell? ⟨w.heap.size, 8, none⟩ = some (.int .i64 hi)) := fun W' l' o' hx => by
    have hb := hx.bel.kept w.heap.size _ _ _ (heap_alloc_new w (.cells #[.int .i64 (a : Int), .int .i64 op, .int .u64 (v : Int), .int .u64 (mm : Int), .string glob, .int .u32 ip, .int .i64 bits, .int .i64 lo, .int .i64 hi] 62)) (by decide) (by decide) (by decide)
    refine ⟨?_, ?_, ?_, ?_, ?_, ?_, ?_, ?_, ?_⟩ <;> (rw [cell_of_row W' _ _ _ _ _ hb]; rfl)
  have HADD : Hid (∀ W' l' o' (o jt jf k : Int), XAt (w.alloc (.cells #[.int .i64 (a : Int), .int .i64 op, .int .u64 (v : Int), .int .u64 (mm : Int), .string glob, .int .u32 ip, .int .i64 bits, .int .i64 lo, .int .i64 hi] 62)) W' m l' o' → l'.length ≤ 99990 → Calls Try.prog 11 #[.pointer (some ⟨m, 0, none⟩), .int .i64 o, .int .i64 jt, .int .i64 jf, .int .u32 k] W' fun e w' => e = .returned (.tuple #[]) ∧ XAt (w.alloc (.cells #[.int .i64 (a : Int), .int .i64 op, .int .u64 (v : Int), .int .u64 (mm : Int), .string glob, .int .u32 ip, .int .i64 bits, .int .i64 lo, .int .i64 hi] 62)) w' m (l' ++ [Ins.mk o jt jf k]) o') := fun W' l' o' o jt jf k hx hl' =>
    (add_any m l' o' o jt jf k W' hx.mak (by omega)).mono fun e w' ⟨h1, h2, h3⟩ => ⟨h1, h2, hx.bel.trans h3⟩
  have HHALF : Hid (∀ W' l' o' (h : Nat), XAt (w.alloc (.cells #[.int .i64 (a : Int), .int .i64 op, .int .u64 (v : Int), .int .u64 (mm : Int), .string glob, .int .u32 ip, .int .i64 bits, .int .i64 lo, .int .i64 hi] 62)) W' m l' o' → l'.length ≤ 99990 → h < 2 → Calls Try.prog 23 #[.pointer (some ⟨m, 0, none⟩), .int .i64 (a : Int), .int .i64 (h : Int)] W' fun e w' => e = .returned (.tuple #[]) ∧ XAt (w.alloc (.cells #[.int .i64 (a : Int), .int .i64 op, .int .u64 (v : Int), .int .u64 (mm : Int), .string glob, .int .u32 ip, .int .i64 bits, .int .i64 lo, .int .i64 hi] 62)) w' m (l' ++ [ldI a h]) o') := fun W' l' o' h hx hl' hh =>
    (half_any m l' o' a h W' hx.mak (by omega) ha hh).mono fun e w' ⟨h1, h2, h3⟩ => ⟨h1, h2, hx.bel.trans h3⟩
  have HNEED : Hid (∀ W' l' o' (o k : Int), XAt (w.alloc (.cells #[.int .i64 (a : Int), .int .i64 op, .int .u64 (v : Int), .int .u64 (mm : Int), .string glob, .int .u32 ip, .int .i64 bits, .int .i64 lo, .int .i64 hi] 62)) W' m l' o' → l'.length ≤ 99990 → o'.length ≤ 99990 → Calls Try.prog 13 #[.pointer (some ⟨m, 0, none⟩), .int .i64 o, .int .u32 k] W' fun e w' => e = .returned (.tuple #[]) ∧ XAt (w.alloc (.cells #[.int .i64 (a : Int), .int .i64 op, .int .u64 (v : Int), .int .u64 (mm : Int), .string glob, .int .u32 ip, .int .i64 bits, .int .i64 lo, .int .i64 hi] 62)) w' m (l' ++ [Ins.mk o 1 0 k, jmpI]) (o' ++ [((l'.length + 1 : Nat) : Int)])) := fun W' l' o' o k hx hl' ho' =>
    (need_any m l' o' o k W' hx.mak (by omega) (by omega)).mono fun e w' ⟨h1, h2, h3⟩ => ⟨h1, h2, hx.bel.trans h3⟩
  have HAWAY : Hid (∀ W' l' o', XAt (w.alloc (.cells #[.int .i64 (a : Int), .int .i64 op, .int .u64 (v : Int), .int .u64 (mm : Int), .string glob, .int .u32 ip, .int .i64 bits, .int .i64 lo, .int .i64 hi] 62)) W' m l' o' → l'.length ≤ 99990 → o'.length ≤ 99990 → Calls Try.prog 22 #[.pointer (some ⟨m, 0, none⟩)] W' fun e w' => e = .returned (.tuple #[]) ∧ XAt (w.alloc (.cells #[.int .i64 (a : Int), .int .i64 op, .int .u64 (v : Int), .int .u64 (mm : Int), .string glob, .int .u32 ip, .int .i64 bits, .int .i64 lo, .int .i64 hi] 62)) w' m (l' ++ [jmpI]) (o' ++ [(l'.length : Int)])) := fun W' l' o' hx hl' ho' =>
    (away_any m l' o' W' hx.mak (by omega) (by omega)).mono fun e w' ⟨h1, h2, h3⟩ => ⟨h1, h2, hx.bel.trans h3⟩
  have HFIN : Hid (∀ W' l' o', XAt (w.alloc (.cells #[.int .i64 (a : Int), .int .i64 op, .int .u64 (v : Int), .int .u64 (mm : Int), .string glob, .int .u32 ip, .int .i64 bits, .int .i64 lo, .int .i64 hi] 62)) W' m l' o' → l' = l ++ condL op a v mm → o' = opn ++ ((condO op).map fun i => ((l.length + i : Nat) : Int)) → MakerAt W' m (l ++ condL op a v mm) (opn ++ (condO op).map fun i => ((l.length + i : Nat) : Int)) ∧ Bel m w W') := fun W' l' o' hx e1 e2 => by subst e1 e2; exact ⟨hx.mak, HB0.out.trans hx.bel⟩
  obtain ⟨vh, hvh⟩ : ∃ vh, vh = v / 4294967296 := ⟨_, rfl⟩
  obtain ⟨vl, hvl⟩ : ∃ vl, vl = v % 4294967296 := ⟨_, rfl⟩
  obtain ⟨mh, hmh⟩ : ∃ mh, mh = mm / 4294967296 := ⟨_, rfl⟩
  obtain ⟨ml, hml⟩ : ∃ ml, ml = mm % 4294967296 := ⟨_, rfl⟩
  have z1 : (v : Int) / 4294967296 = (vh : Int) := by omega
  have z2 : (v : Int) % 4294967296 = (vl : Int) := by omega
  have z3 : (mm : Int) / 4294967296 = (mh : Int) := by omega
  have z4 : (mm : Int) % 4294967296 = (ml : Int) := by omega
  have z5 : vh < 4294967296 := by omega
  have z6 : mh < 4294967296 := by omega
  have HVH := Lib.hid hvh
  have HVL := Lib.hid hvl
  have HMH := Lib.hid hmh
  have HML := Lib.hid hml
  have HL := Lib.hid hl
  have HO := Lib.hid ho
  clear h hvh hvl hmh hml ha hl ho
  have hops : op = 1 ∨ op = 2 ∨ op = 3 ∨ op = 4 ∨ op = 5 ∨ op = 6 ∨ op = 7 := by omega
  clear hop
  rcases hops with rfl | rfl | rfl | rfl | rfl | rfl | rfl
  · go_enter Try.func14, Try.ntmps14
    go_wp2_with fail
    go_region
    have hx0 := HX0.out
    obtain ⟨q0, q1, q2, q3, q4, q5, q6, q7, q8⟩ := HCELL.out _ _ _ hx0
    go_wp2_with (first
      | (go_at_call 23; refine cargs (by first | (simp [Act.eval]; done) | fail) ((HHALF.out _ _ _ 1 (by first | exact hx0 | exact hx0.alloc _) (by have := HL.out; have := HO.out; (try simp only [List.length_append, List.length_cons, List.length_nil]); omega) (by omega)).mono ?_); rintro e w1 ⟨rfl, hx1⟩; obtain ⟨q0, q1, q2, q3, q4, q5, q6, q7, q8⟩ := HCELL.out _ _ _ hx1)
      | (go_at_call 13; refine cargs (by first | (simp [Act.eval]; done) | fail) ((HNEED.out _ _ _ 4 (vh : Int) (by first | exact hx1 | exact hx1.alloc _) (by have := HL.out; have := HO.out; (try simp only [List.length_append, List.length_cons, List.length_nil]); omega) (by have := HL.out; have := HO.out; (try simp only [List.length_append, List.length_cons, List.length_nil]); omega)).mono ?_); rintro e w2 ⟨rfl, hx2⟩; obtain ⟨q0, q1, q2, q3, q4, q5, q6, q7, q8⟩ := HCELL.out _ _ _ hx2)
      | (go_at_call 23; refine cargs (by first | (simp [Act.eval]; done) | fail) ((HHALF.out _ _ _ 0 (by first | exact hx2 | exact hx2.alloc _) (by have := HL.out; have := HO.out; (try simp only [List.length_append, List.length_cons, List.length_nil]); omega) (by omega)).mono ?_); rintro e w3 ⟨rfl, hx3⟩; obtain ⟨q0, q1, q2, q3, q4, q5, q6, q7, q8⟩ := HCELL.out _ _ _ hx3)
      | (go_at_call 13; refine cargs (by first | (simp [Act.eval]; done) | fail) ((HNEED.out _ _ _ 4 (vl : Int) (by first | exact hx3 | exact hx3.alloc _) (by have := HL.out; have := HO.out; (try simp only [List.length_append, List.length_cons, List.length_nil]); omega) (by have := HL.out; have := HO.out; (try simp only [List.length_append, List.length_cons, List.length_nil]); omega)).mono ?_); rintro e w4 ⟨rfl, hx4⟩; obtain ⟨q0, q1, q2, q3, q4, q5, q6, q7, q8⟩ := HCELL.out _ _ _ hx4))
    go_returns
    refine ⟨rfl, HFIN.out _ _ _ hx4 ?_ ?_⟩
    · simp [condL, ← HVH.out, ← HVL.out, ← HMH.out, ← HML.out]
    · simp [condO]; try omega
  · go_enter Try.func14, Try.ntmps14
    go_wp2_with fail
    go_region
    have hx0 := HX0.out
    obtain ⟨q0, q1, q2, q3, q4, q5, q6, q7, q8⟩ := HCELL.out _ _ _ hx0
    go_wp2_with (first
      | (go_at_call 23; refine cargs (by first | (simp [Act.eval]; done) | fail) ((HHALF.out _ _ _ 1 (by first | exact hx0 | exact hx0.alloc _) (by have := HL.out; have := HO.out; (try simp only [List.length_append, List.length_cons, List.length_nil]); omega) (by omega)).mono ?_); rintro e w1 ⟨rfl, hx1⟩; obtain ⟨q0, q1, q2, q3, q4, q5, q6, q7, q8⟩ := HCELL.out _ _ _ hx1)
      | (go_at_call 11; refine cargs (by first | (simp [Act.eval]; done) | fail) ((HADD.out _ _ _ 4 0 3 (vh : Int) (by first | exact hx1 | exact hx1.alloc _) (by have := HL.out; have := HO.out; (try simp only [List.length_append, List.length_cons, List.length_nil]); omega)).mono ?_); rintro e w2 ⟨rfl, hx2⟩; obtain ⟨q0, q1, q2, q3, q4, q5, q6, q7, q8⟩ := HCELL.out _ _ _ hx2)
      | (go_at_call 23; refine cargs (by first | (simp [Act.eval]; done) | fail) ((HHALF.out _ _ _ 0 (by first | exact hx2 | exact hx2.alloc _) (by have := HL.out; have := HO.out; (try simp only [List.length_append, List.length_cons, List.length_nil]); omega) (by omega)).mono ?_); rintro e w3 ⟨rfl, hx3⟩; obtain ⟨q0, q1, q2, q3, q4, q5, q6, q7, q8⟩ := HCELL.out _ _ _ hx3)
      | (go_at_call 11; refine cargs (by first | (simp [Act.eval]; done) | fail) ((HADD.out _ _ _ 4 0 1 (vl : Int) (by first | exact hx3 | exact hx3.alloc _) (by have := HL.out; have := HO.out; (try simp only [List.length_append, List.length_cons, List.length_nil]); omega)).mono ?_); rintro e w4 ⟨rfl, hx4⟩; obtain ⟨q0, q1, q2, q3, q4, q5, q6, q7, q8⟩ := HCELL.out _ _ _ hx4)
      | (go_at_call 22; refine cargs (by first | (simp [Act.eval]; done) | fail) ((HAWAY.out _ _ _ (by first | exact hx4 | exact hx4.alloc _) (by have := HL.out; have := HO.out; (try simp only [List.length_append, List.length_cons, List.length_nil]); omega) (by have := HL.out; have := HO.out; (try simp only [List.length_append, List.length_cons, List.length_nil]); omega)).mono ?_); rintro e w5 ⟨rfl, hx5⟩; obtain ⟨q0, q1, q2, q3, q4, q5, q6, q7, q8⟩ := HCELL.out _ _ _ hx5))
    go_returns
    refine ⟨rfl, HFIN.out _ _ _ hx5 ?_ ?_⟩
    · simp [condL, ← HVH.out, ← HVL.out, ← HMH.out, ← HML.out]
    · simp [condO]; try omega
  · go_enter Try.func14, Try.ntmps14
    go_wp2_with fail
    go_region
    have hx0 := HX0.out
    obtain ⟨q0, q1, q2, q3, q4, q5, q6, q7, q8⟩ := HCELL.out _ _ _ hx0
    go_upto_region 25 with (first
      | (go_at_call 23; refine cargs (by first | (simp [Act.eval]; done) | fail) ((HHALF.out _ _ _ 1 (by first | exact hx0 | exact hx0.alloc _) (by have := HL.out; have := HO.out; (try simp only [List.length_append, List.length_cons, List.length_nil]); omega) (by omega)).mono ?_); rintro e w1 ⟨rfl, hx1⟩; obtain ⟨q0, q1, q2, q3, q4, q5, q6, q7, q8⟩ := HCELL.out _ _ _ hx1)
      | (go_at_call 11; refine cargs (by first | (simp [Act.eval]; done) | fail) ((HADD.out _ _ _ 5 1 0 (vh : Int) (by first | exact hx1 | exact hx1.alloc _) (by have := HL.out; have := HO.out; (try simp only [List.length_append, List.length_cons, List.length_nil]); omega)).mono ?_); rintro e w2 ⟨rfl, hx2⟩; obtain ⟨q0, q1, q2, q3, q4, q5, q6, q7, q8⟩ := HCELL.out _ _ _ hx2)
      | (go_at_call 11; refine cargs (by first | (simp [Act.eval]; done) | fail) ((HADD.out _ _ _ 4 1 4 (vh : Int) (by first | exact hx2 | exact hx2.alloc _) (by have := HL.out; have := HO.out; (try simp only [List.length_append, List.length_cons, List.length_nil]); omega)).mono ?_); rintro e w3 ⟨rfl, hx3⟩; obtain ⟨q0, q1, q2, q3, q4, q5, q6, q7, q8⟩ := HCELL.out _ _ _ hx3)
      | (go_at_call 22; refine cargs (by first | (simp [Act.eval]; done) | fail) ((HAWAY.out _ _ _ (by first | exact hx3 | exact hx3.alloc _) (by have := HL.out; have := HO.out; (try simp only [List.length_append, List.length_cons, List.length_nil]); omega) (by have := HL.out; have := HO.out; (try simp only [List.length_append, List.length_cons, List.length_nil]); omega)).mono ?_); rintro e w4 ⟨rfl, hx4⟩; obtain ⟨q0, q1, q2, q3, q4, q5, q6, q7, q8⟩ := HCELL.out _ _ _ hx4)
      | (go_at_call 23; refine cargs (by first | (simp [Act.eval]; done) | fail) ((HHALF.out _ _ _ 0 (by first | exact hx4 | exact hx4.alloc _) (by have := HL.out; have := HO.out; (try simp only [List.length_append, List.length_cons, List.length_nil]); omega) (by omega)).mono ?_); rintro e w5 ⟨rfl, hx5⟩; obtain ⟨q0, q1, q2, q3, q4, q5, q6, q7, q8⟩ := HCELL.out _ _ _ hx5))
    go_wp2_with (first
      | (refine wpList_mapLit rfl rfl rfl Try.underlying77 Try.underlying3 82 3 6 4 5 rfl rfl rfl rfl rfl rfl (by simp [Act.eval, Act.put]) rfl ?_; have hxm := hx5.low (mapW_below w5 3 6 4 5); have hlk := run_look (P := Try.prog) Try.underlying77 Try.underlying3 w5.heap.size (es2 3 6 4 5) 2 3 _ _ _ (mapW_at w5 3 6 4 5) rfl; generalize mapW w5 3 6 4 5 = wm at *; obtain ⟨q0, q1, q2, q3, q4, q5, q6, q7, q8⟩ := HCELL.out _ _ _ hxm)
      | (go_at_call 11; refine cargs (by first | (simp [Act.eval]; done) | fail) ((HADD.out _ _ _ 6 0 1 (vl : Int) (by first | exact hxm | exact hxm.alloc _) (by have := HL.out; have := HO.out; (try simp only [List.length_append, List.length_cons, List.length_nil]); omega)).mono ?_); rintro e w6 ⟨rfl, hx6⟩; obtain ⟨q0, q1, q2, q3, q4, q5, q6, q7, q8⟩ := HCELL.out _ _ _ hx6)
      | (go_at_call 22; refine cargs (by first | (simp [Act.eval]; done) | fail) ((HAWAY.out _ _ _ (by first | exact hx6 | exact hx6.alloc _) (by have := HL.out; have := HO.out; (try simp only [List.length_append, List.length_cons, List.length_nil]); omega) (by have := HL.out; have := HO.out; (try simp only [List.length_append, List.length_cons, List.length_nil]); omega)).mono ?_); rintro e w7 ⟨rfl, hx7⟩; obtain ⟨q0, q1, q2, q3, q4, q5, q6, q7, q8⟩ := HCELL.out _ _ _ hx7))
    go_returns
    refine ⟨rfl, HFIN.out _ _ _ hx7 ?_ ?_⟩
    · simp [condL, ← HVH.out, ← HVL.out, ← HMH.out, ← HML.out]
    · simp [condO]; try omega
  · go_enter Try.func14, Try.ntmps14
    go_wp2_with fail
    go_region
    have hx0 := HX0.out
    obtain ⟨q0, q1, q2, q3, q4, q5, q6, q7, q8⟩ := HCELL.out _ _ _ hx0
    go_upto_region 25 with (first
      | (go_at_call 23; refine cargs (by first | (simp [Act.eval]; done) | fail) ((HHALF.out _ _ _ 1 (by first | exact hx0 | exact hx0.alloc _) (by have := HL.out; have := HO.out; (try simp only [List.length_append, List.length_cons, List.length_nil]); omega) (by omega)).mono ?_); rintro e w1 ⟨rfl, hx1⟩; obtain ⟨q0, q1, q2, q3, q4, q5, q6, q7, q8⟩ := HCELL.out _ _ _ hx1)
      | (go_at_call 11; refine cargs (by first | (simp [Act.eval]; done) | fail) ((HADD.out _ _ _ 5 1 0 (vh : Int) (by first | exact hx1 | exact hx1.alloc _) (by have := HL.out; have := HO.out; (try simp only [List.length_append, List.length_cons, List.length_nil]); omega)).mono ?_); rintro e w2 ⟨rfl, hx2⟩; obtain ⟨q0, q1, q2, q3, q4, q5, q6, q7, q8⟩ := HCELL.out _ _ _ hx2)
      | (go_at_call 11; refine cargs (by first | (simp [Act.eval]; done) | fail) ((HADD.out _ _ _ 4 1 4 (vh : Int) (by first | exact hx2 | exact hx2.alloc _) (by have := HL.out; have := HO.out; (try simp only [List.length_append, List.length_cons, List.length_nil]); omega)).mono ?_); rintro e w3 ⟨rfl, hx3⟩; obtain ⟨q0, q1, q2, q3, q4, q5, q6, q7, q8⟩ := HCELL.out _ _ _ hx3)
      | (go_at_call 22; refine cargs (by first | (simp [Act.eval]; done) | fail) ((HAWAY.out _ _ _ (by first | exact hx3 | exact hx3.alloc _) (by have := HL.out; have := HO.out; (try simp only [List.length_append, List.length_cons, List.length_nil]); omega) (by have := HL.out; have := HO.out; (try simp only [List.length_append, List.length_cons, List.length_nil]); omega)).mono ?_); rintro e w4 ⟨rfl, hx4⟩; obtain ⟨q0, q1, q2, q3, q4, q5, q6, q7, q8⟩ := HCELL.out _ _ _ hx4)
      | (go_at_call 23; refine cargs (by first | (simp [Act.eval]; done) | fail) ((HHALF.out _ _ _ 0 (by first | exact hx4 | exact hx4.alloc _) (by have := HL.out; have := HO.out; (try simp only [List.length_append, List.length_cons, List.length_nil]); omega) (by omega)).mono ?_); rintro e w5 ⟨rfl, hx5⟩; obtain ⟨q0, q1, q2, q3, q4, q5, q6, q7, q8⟩ := HCELL.out _ _ _ hx5))
    go_wp2_with (first
      | (refine wpList_mapLit rfl rfl rfl Try.underlying77 Try.underlying3 82 3 6 4 5 rfl rfl rfl rfl rfl rfl (by simp [Act.eval, Act.put]) rfl ?_; have hxm := hx5.low (mapW_below w5 3 6 4 5); have hlk := run_look (P := Try.prog) Try.underlying77 Try.underlying3 w5.heap.size (es2 3 6 4 5) 2 4 _ _ _ (mapW_at w5 3 6 4 5) rfl; generalize mapW w5 3 6 4 5 = wm at *; obtain ⟨q0, q1, q2, q3, q4, q5, q6, q7, q8⟩ := HCELL.out _ _ _ hxm)
      | (go_at_call 11; refine cargs (by first | (simp [Act.eval]; done) | fail) ((HADD.out _ _ _ 5 0 1 (vl : Int) (by first | exact hxm | exact hxm.alloc _) (by have := HL.out; have := HO.out; (try simp only [List.length_append, List.length_cons, List.length_nil]); omega)).mono ?_); rintro e w6 ⟨rfl, hx6⟩; obtain ⟨q0, q1, q2, q3, q4, q5, q6, q7, q8⟩ := HCELL.out _ _ _ hx6)
      | (go_at_call 22; refine cargs (by first | (simp [Act.eval]; done) | fail) ((HAWAY.out _ _ _ (by first | exact hx6 | exact hx6.alloc _) (by have := HL.out; have := HO.out; (try simp only [List.length_append, List.length_cons, List.length_nil]); omega) (by have := HL.out; have := HO.out; (try simp only [List.length_append, List.length_cons, List.length_nil]); omega)).mono ?_); rintro e w7 ⟨rfl, hx7⟩; obtain ⟨q0, q1, q2, q3, q4, q5, q6, q7, q8⟩ := HCELL.out _ _ _ hx7))
    go_returns
    refine ⟨rfl, HFIN.out _ _ _ hx7 ?_ ?_⟩
    · simp [condL, ← HVH.out, ← HVL.out, ← HMH.out, ← HML.out]
    · simp [condO]; try omega
  · go_enter Try.func14, Try.ntmps14
    go_wp2_with fail
    go_region
    have hx0 := HX0.out
    obtain ⟨q0, q1, q2, q3, q4, q5, q6, q7, q8⟩ := HCELL.out _ _ _ hx0
    go_upto_region 18 with (first
      | (go_at_call 23; refine cargs (by first | (simp [Act.eval]; done) | fail) ((HHALF.out _ _ _ 1 (by first | exact hx0 | exact hx0.alloc _) (by have := HL.out; have := HO.out; (try simp only [List.length_append, List.length_cons, List.length_nil]); omega) (by omega)).mono ?_); rintro e w1 ⟨rfl, hx1⟩; obtain ⟨q0, q1, q2, q3, q4, q5, q6, q7, q8⟩ := HCELL.out _ _ _ hx1)
      | (go_at_call 11; refine cargs (by first | (simp [Act.eval]; done) | fail) ((HADD.out _ _ _ 5 5 0 (vh : Int) (by first | exact hx1 | exact hx1.alloc _) (by have := HL.out; have := HO.out; (try simp only [List.length_append, List.length_cons, List.length_nil]); omega)).mono ?_); rintro e w2 ⟨rfl, hx2⟩; obtain ⟨q0, q1, q2, q3, q4, q5, q6, q7, q8⟩ := HCELL.out _ _ _ hx2)
      | (go_at_call 13; refine cargs (by first | (simp [Act.eval]; done) | fail) ((HNEED.out _ _ _ 4 (vh : Int) (by first | exact hx2 | exact hx2.alloc _) (by have := HL.out; have := HO.out; (try simp only [List.length_append, List.length_cons, List.length_nil]); omega) (by have := HL.out; have := HO.out; (try simp only [List.length_append, List.length_cons, List.length_nil]); omega)).mono ?_); rintro e w3 ⟨rfl, hx3⟩; obtain ⟨q0, q1, q2, q3, q4, q5, q6, q7, q8⟩ := HCELL.out _ _ _ hx3)
      | (go_at_call 23; refine cargs (by first | (simp [Act.eval]; done) | fail) ((HHALF.out _ _ _ 0 (by first | exact hx3 | exact hx3.alloc _) (by have := HL.out; have := HO.out; (try simp only [List.length_append, List.length_cons, List.length_nil]); omega) (by omega)).mono ?_); rintro e w4 ⟨rfl, hx4⟩; obtain ⟨q0, q1, q2, q3, q4, q5, q6, q7, q8⟩ := HCELL.out _ _ _ hx4))
    go_wp2_with (first
      | (refine wpList_mapLit rfl rfl rfl Try.underlying77 Try.underlying3 59 5 5 6 6 rfl rfl rfl rfl rfl rfl (by simp [Act.eval, Act.put]) rfl ?_; have hxm := hx4.low (mapW_below w4 5 5 6 6); have hlk := run_look (P := Try.prog) Try.underlying77 Try.underlying3 w4.heap.size (es2 5 5 6 6) 2 5 _ _ _ (mapW_at w4 5 5 6 6) rfl; generalize mapW w4 5 5 6 6 = wm at *; obtain ⟨q0, q1, q2, q3, q4, q5, q6, q7, q8⟩ := HCELL.out _ _ _ hxm)
      | (go_at_call 13; refine cargs (by first | (simp [Act.eval]; done) | fail) ((HNEED.out _ _ _ 5 (vl : Int) (by first | exact hxm | exact hxm.alloc _) (by have := HL.out; have := HO.out; (try simp only [List.length_append, List.length_cons, List.length_nil]); omega) (by have := HL.out; have := HO.out; (try simp only [List.length_append, List.length_cons, List.length_nil]); omega)).mono ?_); rintro e w5 ⟨rfl, hx5⟩; obtain ⟨q0, q1, q2, q3, q4, q5, q6, q7, q8⟩ := HCELL.out _ _ _ hx5))
    go_returns
    refine ⟨rfl, HFIN.out _ _ _ hx5 ?_ ?_⟩
    · simp [condL, ← HVH.out, ← HVL.out, ← HMH.out, ← HML.out]
    · simp [condO]; try omega
  · go_enter Try.func14, Try.ntmps14
    go_wp2_with fail
    go_region
    have hx0 := HX0.out
    obtain ⟨q0, q1, q2, q3, q4, q5, q6, q7, q8⟩ := HCELL.out _ _ _ hx0
    go_upto_region 18 with (first
      | (go_at_call 23; refine cargs (by first | (simp [Act.eval]; done) | fail) ((HHALF.out _ _ _ 1 (by first | exact hx0 | exact hx0.alloc _) (by have := HL.out; have := HO.out; (try simp only [List.length_append, List.length_cons, List.length_nil]); omega) (by omega)).mono ?_); rintro e w1 ⟨rfl, hx1⟩; obtain ⟨q0, q1, q2, q3, q4, q5, q6, q7, q8⟩ := HCELL.out _ _ _ hx1)
      | (go_at_call 11; refine cargs (by first | (simp [Act.eval]; done) | fail) ((HADD.out _ _ _ 5 5 0 (vh : Int) (by first | exact hx1 | exact hx1.alloc _) (by have := HL.out; have := HO.out; (try simp only [List.length_append, List.length_cons, List.length_nil]); omega)).mono ?_); rintro e w2 ⟨rfl, hx2⟩; obtain ⟨q0, q1, q2, q3, q4, q5, q6, q7, q8⟩ := HCELL.out _ _ _ hx2)
      | (go_at_call 13; refine cargs (by first | (simp [Act.eval]; done) | fail) ((HNEED.out _ _ _ 4 (vh : Int) (by first | exact hx2 | exact hx2.alloc _) (by have := HL.out; have := HO.out; (try simp only [List.length_append, List.length_cons, List.length_nil]); omega) (by have := HL.out; have := HO.out; (try simp only [List.length_append, List.length_cons, List.length_nil]); omega)).mono ?_); rintro e w3 ⟨rfl, hx3⟩; obtain ⟨q0, q1, q2, q3, q4, q5, q6, q7, q8⟩ := HCELL.out _ _ _ hx3)
      | (go_at_call 23; refine cargs (by first | (simp [Act.eval]; done) | fail) ((HHALF.out _ _ _ 0 (by first | exact hx3 | exact hx3.alloc _) (by have := HL.out; have := HO.out; (try simp only [List.length_append, List.length_cons, List.length_nil]); omega) (by omega)).mono ?_); rintro e w4 ⟨rfl, hx4⟩; obtain ⟨q0, q1, q2, q3, q4, q5, q6, q7, q8⟩ := HCELL.out _ _ _ hx4))
    go_wp2_with (first
      | (refine wpList_mapLit rfl rfl rfl Try.underlying77 Try.underlying3 59 5 5 6 6 rfl rfl rfl rfl rfl rfl (by simp [Act.eval, Act.put]) rfl ?_; have hxm := hx4.low (mapW_below w4 5 5 6 6); have hlk := run_look (P := Try.prog) Try.underlying77 Try.underlying3 w4.heap.size (es2 5 5 6 6) 2 6 _ _ _ (mapW_at w4 5 5 6 6) rfl; generalize mapW w4 5 5 6 6 = wm at *; obtain ⟨q0, q1, q2, q3, q4, q5, q6, q7, q8⟩ := HCELL.out _ _ _ hxm)
      | (go_at_call 13; refine cargs (by first | (simp [Act.eval]; done) | fail) ((HNEED.out _ _ _ 6 (vl : Int) (by first | exact hxm | exact hxm.alloc _) (by have := HL.out; have := HO.out; (try simp only [List.length_append, List.length_cons, List.length_nil]); omega) (by have := HL.out; have := HO.out; (try simp only [List.length_append, List.length_cons, List.length_nil]); omega)).mono ?_); rintro e w5 ⟨rfl, hx5⟩; obtain ⟨q0, q1, q2, q3, q4, q5, q6, q7, q8⟩ := HCELL.out _ _ _ hx5))
    go_returns
    refine ⟨rfl, HFIN.out _ _ _ hx5 ?_ ?_⟩
    · simp [condL, ← HVH.out, ← HVL.out, ← HMH.out, ← HML.out]
    · simp [condO]; try omega
  · go_enter Try.func14, Try.ntmps14
    go_wp2_with fail
    go_region
    have hx0 := HX0.out
    obtain ⟨q0, q1, q2, q3, q4, q5, q6, q7, q8⟩ := HCELL.out _ _ _ hx0
    go_wp2_with (first
      | (go_at_call 23; refine cargs (by first | (simp [Act.eval]; done) | fail) ((HHALF.out _ _ _ 1 (by first | exact hx0 | exact hx0.alloc _) (by have := HL.out; have := HO.out; (try simp only [List.length_append, List.length_cons, List.length_nil]); omega) (by omega)).mono ?_); rintro e w1 ⟨rfl, hx1⟩; obtain ⟨q0, q1, q2, q3, q4, q5, q6, q7, q8⟩ := HCELL.out _ _ _ hx1)
      | (go_at_call 11; refine cargs (by first | (simp [Act.eval]; done) | fail) ((HADD.out _ _ _ 2 0 0 (mh : Int) (by first | exact hx1 | exact hx1.alloc _) (by have := HL.out; have := HO.out; (try simp only [List.length_append, List.length_cons, List.length_nil]); omega)).mono ?_); rintro e w2 ⟨rfl, hx2⟩; obtain ⟨q0, q1, q2, q3, q4, q5, q6, q7, q8⟩ := HCELL.out _ _ _ hx2)
      | (go_at_call 13; refine cargs (by first | (simp [Act.eval]; done) | fail) ((HNEED.out _ _ _ 4 (vh : Int) (by first | exact hx2 | exact hx2.alloc _) (by have := HL.out; have := HO.out; (try simp only [List.length_append, List.length_cons, List.length_nil]); omega) (by have := HL.out; have := HO.out; (try simp only [List.length_append, List.length_cons, List.length_nil]); omega)).mono ?_); rintro e w3 ⟨rfl, hx3⟩; obtain ⟨q0, q1, q2, q3, q4, q5, q6, q7, q8⟩ := HCELL.out _ _ _ hx3)
      | (go_at_call 23; refine cargs (by first | (simp [Act.eval]; done) | fail) ((HHALF.out _ _ _ 0 (by first | exact hx3 | exact hx3.alloc _) (by have := HL.out; have := HO.out; (try simp only [List.length_append, List.length_cons, List.length_nil]); omega) (by omega)).mono ?_); rintro e w4 ⟨rfl, hx4⟩; obtain ⟨q0, q1, q2, q3, q4, q5, q6, q7, q8⟩ := HCELL.out _ _ _ hx4)
      | (go_at_call 11; refine cargs (by first | (simp [Act.eval]; done) | fail) ((HADD.out _ _ _ 2 0 0 (ml : Int) (by first | exact hx4 | exact hx4.alloc _) (by have := HL.out; have := HO.out; (try simp only [List.length_append, List.length_cons, List.length_nil]); omega)).mono ?_); rintro e w5 ⟨rfl, hx5⟩; obtain ⟨q0, q1, q2, q3, q4, q5, q6, q7, q8⟩ := HCELL.out _ _ _ hx5)
      | (go_at_call 13; refine cargs (by first | (simp [Act.eval]; done) | fail) ((HNEED.out _ _ _ 4 (vl : Int) (by first | exact hx5 | exact hx5.alloc _) (by have := HL.out; have := HO.out; (try simp only [List.length_append, List.length_cons, List.length_nil]); omega) (by have := HL.out; have := HO.out; (try simp only [List.length_append, List.length_cons, List.length_nil]); omega)).mono ?_); rintro e w6 ⟨rfl, hx6⟩; obtain ⟨q0, q1, q2, q3, q4, q5, q6, q7, q8⟩ := HCELL.out _ _ _ hx6))
    go_returns
    refine ⟨rfl, HFIN.out _ _ _ hx6 ?_ ?_⟩
    · simp [condL, ← HVH.out, ← HVL.out, ← HMH.out, ← HML.out]
    · simp [condO]; try omega

end Go.Proofs.Ytmgngapkgcofnab
