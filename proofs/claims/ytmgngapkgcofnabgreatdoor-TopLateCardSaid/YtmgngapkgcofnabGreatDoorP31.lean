/- A ward in plain words: its threads, its steps. -/
import Derived.Test.YtmgngapkgcofnabGreatDoorP30
import Derived.Test.YtmgngapkgcofnabGreatDoorP11
import Derived.Test.YtmgngapkgcofnabGreatDoorP26
import Derived.Test.YtmgngapkgcofnabGreatDoorP07
import Derived.Test.YtmgngapkgcofnabGreatDoorP29
import Derived.Test.YtmgngapkgcofnabGreatDoorP19
import Derived.LaidEql
import Derived.Stop.Asserts
import Derived.Lib.IfaceEq
namespace Go.Proofs.YtmgngapkgcofnabGreatDoor
open Go.RowKit
def zeroCall : CallD := ⟨0, 0, 0, 0, 0, 0⟩
def zeroVal : ValD := ⟨⟨#[]⟩, 0, 0⟩
def zeroVals : ValsD := ⟨zeroVal, zeroVal, zeroVal, zeroVal⟩
structure ThrS where
 phase : Int
 asked : CallD
 now : CallD
 arg : Nat
 buf : List Int
 vals : ValsD
 seals : List Nat
def ThrS.zero : ThrS := ⟨0, zeroCall, zeroCall, 0, [], zeroVals, []⟩
def ThrS.dead : ThrS := ⟨6, zeroCall, zeroCall, 0, [], zeroVals, []⟩
structure EntD where
 kind : Int
 thr : Nat
 call : CallD
 vals : ValsD
 errno : Int
structure WardS where
 t : Nat → ThrS
 m : MemS
 log : List EntD
def WardS.new : WardS := ⟨fun _ => ThrS.zero, MemS.new, []⟩
def WardS.setT (S : WardS) (n : Nat) (T : ThrS) : WardS := ⟨fun k => if k = n then T else S.t k, S.m, S.log⟩
def WardS.setM (S : WardS) (m : MemS) : WardS := ⟨S.t, m, S.log⟩
def WardS.put (S : WardS) (e : EntD) : WardS := ⟨S.t, S.m, S.log ++ [e]⟩
def kindN (nr : Int) (a : Nat) : Int := if 9 ≤ nr ∨ 4 ≤ a then 0 else kindF nr.toNat a
def ptrK (nr : Int) (a : Nat) : Nat → Nat
 | 0 => a
 | k + 1 => if kindN nr a ≠ 2 ∧ kindN nr a ≠ 3 then ptrK nr (a + 1) k else a
def ptrN (nr : Int) (a : Nat) : Nat := ptrK nr a (4 - a)
def CallD.arg (c : CallD) (i : Nat) : Int := if i = 0 then c.a0 else if i = 1 then c.a1 else if i = 2 then c.a2 else c.a3
def CallD.setArg (c : CallD) (i : Nat) (x : Int) : CallD :=
 if i = 0 then ⟨c.arch, c.nr, x, c.a1, c.a2, c.a3⟩ else if i = 1 then ⟨c.arch, c.nr, c.a0, x, c.a2, c.a3⟩ else if i = 2 then ⟨c.arch, c.nr, c.a0, c.a1, x, c.a3⟩ else ⟨c.arch, c.nr, c.a0, c.a1, c.a2, x⟩
def ValsD.set (v : ValsD) (i : Nat) (x : ValD) : ValsD :=
 if i = 0 then ⟨x, v.v1, v.v2, v.v3⟩ else if i = 1 then ⟨v.v0, x, v.v2, v.v3⟩ else if i = 2 then ⟨v.v0, v.v1, x, v.v3⟩ else ⟨v.v0, v.v1, v.v2, x⟩
def freesS (m : MemS) : List Nat → MemS
 | [] => m
 | a :: r => freesS (freeS m a) r
def endsS (S : WardS) (n : Nat) (kind errno : Int) (v : ValsD) : WardS :=
 ⟨fun k => if k = n then (if kind = 3 then ThrS.dead else ThrS.zero) else S.t k, freesS S.m (S.t n).seals, S.log ++ [⟨kind, n, (S.t n).asked, v, errno⟩]⟩
def doesS (S : WardS) (n : Nat) (a : Int × Int) : WardS := if a.1 = 1 then S else if a.1 = 2 then endsS S n 2 a.2 zeroVals else endsS S n 3 0 zeroVals
def setPh (S : WardS) (n : Nat) (ph : Int) : WardS := S.setT n { S.t n with phase := ph }
def filterS (p : PolD) (S : WardS) (n : Nat) : WardS :=
 if (judgeF p (S.t n).now).1 = 4 then S.setT n { S.t n with phase := 2, arg := ptrN (S.t n).now.nr 0 }
 else if (judgeF p (S.t n).now).1 = 1 then setPh S n 5 else doesS S n ((judgeF p (S.t n).now).1, (judgeF p (S.t n).now).2.1)
def errnoF (f : Int) : Int := if f = 5 then 14 else if f = 6 then 36 else 22
def furtherT (T : ThrS) : ThrS :=
 { T with buf := [], arg := ptrN T.now.nr (T.arg + 1), phase := if ptrN T.now.nr (T.arg + 1) = 4 then 3 else T.phase }
def bytesOfL (l : List UInt8) : ByteArray := ⟨l.toArray⟩
def snapA (T : ThrS) : Nat := ((T.now.arg T.arg).toNat + T.buf.length) % 18446744073709551616
def snapS (S : WardS) (n : Nat) : WardS :=
  match byteS S.m (snapA (S.t n)) with
  | none => endsS S n 2 14 zeroVals
  | some b =>
    if kindN (S.t n).now.nr (S.t n).arg = 2 then
      (if b = 0 then S.setT n (furtherT { S.t n with vals := (S.t n).vals.set (S.t n).arg ⟨strOfNums (S.t n).buf, ((S.t n).vals.at_ (S.t n).arg).ip, ((S.t n).vals.at_ (S.t n).arg).port⟩ })
       else if (S.t n).buf.length = 40 then endsS S n 2 36 zeroVals
       else S.setT n { S.t n with buf := (S.t n).buf ++ [b] })
    else if (S.t n).buf.length + 1 < 16 then S.setT n { S.t n with buf := (S.t n).buf ++ [b] }
    else match readA (strOfNums ((S.t n).buf ++ [b])) with
      | none => endsS (S.setT n { S.t n with buf := (S.t n).buf ++ [b] }) n 2 22 zeroVals
      | some (ip, port) => S.setT n (furtherT { S.t n with vals := (S.t n).vals.set (S.t n).arg ⟨((S.t n).vals.at_ (S.t n).arg).path, ip, port⟩ })
def sealText (kind : Int) (x : ValD) : ByteArray := if kind = 3 then (if 0 ≤ x.port ∧ x.port ≤ 65535 then bytesOfL (bytesA x.ip.toNat x.port.toNat) else ⟨#[]⟩) else x.path ++ ⟨#[0]⟩
def sealK (S : WardS) (n : Nat) (a : Nat) : Nat → WardS
 | 0 => setPh S n 5
 | k + 1 => if 4 ≤ a then setPh S n 5
  else match sealX S.m (sealText (kindN (S.t n).now.nr a) ((S.t n).vals.at_ a)) with
   | (x, f) => if f ≠ 0 then endsS (S.setM (sealS S.m (sealText (kindN (S.t n).now.nr a) ((S.t n).vals.at_ a)))) n 2 12 zeroVals
    else sealK ((S.setM (sealS S.m (sealText (kindN (S.t n).now.nr a) ((S.t n).vals.at_ a)))).setT n { S.t n with seals := (S.t n).seals ++ [x.toNat], now := (S.t n).now.setArg a x }) n (ptrN (S.t n).now.nr (a + 1)) k
def sealStep (S : WardS) (n : Nat) : WardS := sealK S n (ptrN (S.t n).now.nr 0) 5
def readT (f : Nat → Option Int) (a : Nat) : Nat → List Int → Int × ByteArray
 | 0, _ => (1, ⟨#[]⟩)
 | n + 1, l => match f ((a + l.length) % 18446744073709551616) with
  | none => (5, ⟨#[]⟩)
  | some v => if v = 0 then (0, strOfNums l) else if l.length = 40 then (6, ⟨#[]⟩) else readT f a n (l ++ [v])
def textF (m : MemS) (a : Nat) : Int × ByteArray := readT (byteS m) a 41 []
def getF (m : MemS) (a : Nat) : Int × ByteArray := match readL (byteS m) a 16 with
 | some l => (0, strOfNums l)
 | none => (5, ⟨#[]⟩)
def valueF (m : MemS) (kind : Int) (a : Nat) : Int × ValD :=
 if kind = 2 then ((textF m a).1, ⟨(textF m a).2, 0, 0⟩)
 else if (getF m a).1 ≠ 0 then ((getF m a).1, zeroVal)
 else match readA (getF m a).2 with
  | none => (3, zeroVal)
  | some (ip, port) => (0, ⟨⟨#[]⟩, ip, port⟩)
def leadsK (m : MemS) (c : CallD) (v : ValsD) (a : Nat) : Nat → Int × ValsD
 | 0 => (0, v)
 | k + 1 => if 4 ≤ a then (0, v)
  else match valueF m (kindN c.nr a) (c.arg a).toNat with
   | (f, x) => if f ≠ 0 then (f, v) else leadsK m c (v.set a x) (ptrN c.nr (a + 1)) k
def execS (S : WardS) (n : Nat) : WardS :=
 if 9 ≤ (S.t n).now.nr then endsS S n 2 38 zeroVals
 else match leadsK S.m (S.t n).now zeroVals (ptrN (S.t n).now.nr 0) 5 with
  | (f, v) => if f ≠ 0 then endsS S n 2 (errnoF f) zeroVals else endsS S n 1 0 v
def judgeS (p : PolD) (S : WardS) (n : Nat) : WardS :=
 if (decideF p (S.t n).asked (S.t n).vals).1 = 1 then setPh S n 4 else doesS S n (decideF p (S.t n).asked (S.t n).vals)
def stepT (p : PolD) (S : WardS) (n : Nat) : WardS :=
 if (S.t n).phase = 1 then filterS p S n else if (S.t n).phase = 2 then snapS S n else if (S.t n).phase = 3 then judgeS p S n
 else if (S.t n).phase = 4 then sealStep S n else if (S.t n).phase = 5 then execS S n else S
def stepS (p : PolD) (S : WardS) (n : Int) : WardS := if n < 0 ∨ 3 ≤ n then S else stepT p S n.toNat
def stepB (S : WardS) (n : Int) : Bool := decide (0 ≤ n ∧ n < 3) && decide ((S.t n.toNat).phase ≠ 0) && decide ((S.t n.toNat).phase ≠ 6)
def stepE (S : WardS) (n : Int) : Int := if n < 0 ∨ 3 ≤ n then 1 else if (S.t n.toNat).phase = 6 then 8 else 0
def enterE (S : WardS) (n : Int) : Int := if n < 0 ∨ 3 ≤ n then 1 else if (S.t n.toNat).phase = 0 then 0 else if (S.t n.toNat).phase = 6 then 8 else 7
def enterS (S : WardS) (n : Int) (c : CallD) : WardS := if enterE S n = 0 then S.setT n.toNat ⟨1, c, c, 0, [], zeroVals, []⟩ else S
def phaseF (S : WardS) (n : Int) : Int := if n < 0 ∨ 3 ≤ n then 6 else (S.t n.toNat).phase
end Go.Proofs.YtmgngapkgcofnabGreatDoor
namespace Go.Proofs.YtmgngapkgcofnabGreatDoor
open Go.RowKit
def callCells (c : CallD) : List Value := [.int .u32 c.arch, .int .u32 c.nr, .int .u64 c.a0, .int .u64 c.a1, .int .u64 c.a2, .int .u64 c.a3]
def valsCells (v : ValsD) : List Value := [.string v.v0.path, .int .u32 v.v0.ip, .int .i64 v.v0.port, .string v.v1.path, .int .u32 v.v1.ip, .int .i64 v.v1.port, .string v.v2.path, .int .u32 v.v2.ip, .int .i64 v.v2.port, .string v.v3.path, .int .u32 v.v3.ip, .int .i64 v.v3.port]
def thrCells (T : ThrS) (bv sv : Value) : List Value :=
 [.int .i64 T.phase, .int .u32 T.asked.arch, .int .u32 T.asked.nr, .int .u64 T.asked.a0, .int .u64 T.asked.a1, .int .u64 T.asked.a2, .int .u64 T.asked.a3,
  .int .u32 T.now.arch, .int .u32 T.now.nr, .int .u64 T.now.a0, .int .u64 T.now.a1, .int .u64 T.now.a2, .int .u64 T.now.a3, .int .i64 T.arg, bv,
  .string T.vals.v0.path, .int .u32 T.vals.v0.ip, .int .i64 T.vals.v0.port, .string T.vals.v1.path, .int .u32 T.vals.v1.ip, .int .i64 T.vals.v1.port, .string T.vals.v2.path, .int .u32 T.vals.v2.ip, .int .i64 T.vals.v2.port, .string T.vals.v3.path, .int .u32 T.vals.v3.ip, .int .i64 T.vals.v3.port, sv]
theorem thrCells_len (T : ThrS) (bv sv : Value) : (thrCells T bv sv).length = 28 := rfl
def entCells (e : EntD) : List Value := [.int .i64 e.kind, .int .i64 e.thr] ++ callCells e.call ++ valsCells e.vals ++ [.int .i64 e.errno]
theorem entCells_len (e : EntD) : (entCells e).length = 21 := rfl
def logCells (l : List EntD) : List Value := l.flatMap entCells
theorem logCells_append (a b : List EntD) : logCells (a ++ b) = logCells a ++ logCells b := by unfold logCells; rw [List.flatMap_append]
def u64s (l : List Nat) : List Value := l.map fun (k : Nat) => .int .u64 (k : Int)
def wardCell (hd : List Value) (lv : Value) (t : Nat → ThrS) (bv sv : Nat → Value) (i : Nat) : Value :=
 if i < 5 then hd.getD i undef else if i < 89 then (thrCells (t ((i - 5) / 28)) (bv ((i - 5) / 28)) (sv ((i - 5) / 28))).getD ((i - 5) % 28) undef else lv
def RowB (w : World) (B : Nat → Prop) (e : TypeId) (s : Nat) (v : Value) (n : Nat) (xs : List Value) : Prop := w.ownsRow 0 e s v n xs ∧ ∀ b, v.ownBlock = some b → B b
theorem RowB.nil (w : World) (B : Nat → Prop) (e : TypeId) (s : Nat) : RowB w B e s (.slice none 0 0) 0 [] := ⟨World.ownsRow_nil _ _ _ _, fun b h => by cases h⟩
theorem RowB.kept {w w' : World} {B : Nat → Prop} {e : TypeId} {s n : Nat} {v : Value} {xs : List Value} (h : RowB w B e s v n xs) (hk : ∀ g cur, w.heap[g]? = some (.cells cur e (0, 0)) → v.ownBlock = some g → w'.heap[g]? = some (.cells cur e (0, 0))) : RowB w' B e s v n xs := by
 refine ⟨⟨h.1.1, ?_⟩, h.2⟩; rcases h.1.2 with ⟨h1, h2⟩ | ⟨g, cap, cur, hv, hb, hg, h3⟩
 ·exact .inl ⟨h1, h2⟩
 ·exact .inr ⟨g, cap, cur, hv, hb, hk g cur hg (by rw [hv]; rfl), h3⟩
theorem RowB.lt {w : World} {B : Nat → Prop} {e : TypeId} {s n : Nat} {v : Value} {xs : List Value} (h : RowB w B e s v n xs) : ∀ b, v.ownBlock = some b → b < w.heap.size := fun b hb => (h.1.lt b hb).2
theorem RowB.form {w : World} {B : Nat → Prop} {e : TypeId} {s n : Nat} {v : Value} {xs : List Value} (h : RowB w B e s v n xs) : ∃ A c, v = .slice A n c := own_form h.1
theorem RowB.type {w : World} {B : Nat → Prop} {e : TypeId} {s n : Nat} {v : Value} {xs : List Value} (h : RowB w B e s v n xs) {b : Nat} (hb : v.ownBlock = some b) : ∃ cur, w.heap[b]? = some (.cells cur e (0, 0)) := by
 rcases h.1.2 with ⟨h1, _⟩ | ⟨g, cap, cur, hv, _, hg, _⟩
 ·rw [h1] at hb; cases hb
 ·rw [hv] at hb; obtain rfl : g = b := by simpa [Value.ownBlock] using hb
  exact ⟨cur, hg⟩
structure ThrS.ok (T : ThrS) : Prop where
 asked : T.asked.ok
 now : T.now.ok
 arg : T.arg ≤ 4
 buf : T.buf.length ≤ 100
 byt : ∀ b ∈ T.buf, 0 ≤ b ∧ b ≤ 255
 seals : T.seals.length ≤ 100
 sealed : ∀ a ∈ T.seals, a < 18446744073709551616
 vals : T.vals.ok
structure WardS.ok (S : WardS) : Prop where
 thr : ∀ n, (S.t n).ok
 few : S.log.length ≤ 1000000
structure WardRep (w : World) (H : Nat) (B : Nat → Prop) (g : Nat) (p : PolD) (S : WardS) (A : Option Addr) (c : Nat) (Ap : Option Addr) (cp : Nat) (m : Nat) (lv : Value) (bv sv : Nat → Value) : Prop where
 blk : BlkAt w g 102 90 (wardCell [.slice A p.rules.length c, .int .i64 p.kind, .int .i64 p.errno, .slice Ap (progL p).length cp, .pointer (some ⟨m, 0, none⟩)] lv S.t bv sv)
 pol : PolAt w H (.agg #[.slice A p.rules.length c, .int .i64 p.kind, .int .i64 p.errno]) p
 prg : InsSl w H (.slice Ap (progL p).length cp) (progL p)
 mem : MemAt w B m S.m
 ne : m ≠ g
 buf : ∀ n, n < 3 → RowB w B 5 1 (bv n) (S.t n).buf.length (u8s (S.t n).buf)
 sea : ∀ n, n < 3 → RowB w B 42 1 (sv n) (S.t n).seals.length (u64s (S.t n).seals)
 log : RowB w B 80 21 lv S.log.length (logCells S.log)
 apb : ∀ n k, n < 3 → k < 3 → n ≠ k → (bv n).ownBlock = none ∨ (bv n).ownBlock ≠ (bv k).ownBlock
 aps : ∀ n k, n < 3 → k < 3 → n ≠ k → (sv n).ownBlock = none ∨ (sv n).ownBlock ≠ (sv k).ownBlock
structure WardAt (w : World) (H : Nat) (B : Nat → Prop) (g : Nat) (p : PolD) (S : WardS) : Prop where
 base : B g
 low : ∀ k, B k → H ≤ k
 ok : S.ok
 rep : ∃ A c Ap cp m lv bv sv, WardRep w H B g p S A c Ap cp m lv bv sv
structure Frame (B : Nat → Prop) (w w' : World) : Prop where
 os : w'.os = w.os
 tape : w'.tape = w.tape
 output : w'.output = w.output
 size : w.heap.size ≤ w'.heap.size
 block : ∀ k, k < w.heap.size → ¬ B k → w'.heap[k]? = w.heap[k]?
theorem Frame.refl (B : Nat → Prop) (w : World) : Frame B w w := ⟨rfl, rfl, rfl, Nat.le_refl _, fun _ _ _ => rfl⟩
theorem Frame.trans {B : Nat → Prop} {a b c : World} (h : Frame B a b) (k : Frame B b c) : Frame B a c :=
 ⟨k.os.trans h.os, k.tape.trans h.tape, k.output.trans h.output, Nat.le_trans h.size k.size, fun i hi hb => (k.block i (Nat.lt_of_lt_of_le hi h.size) hb).trans (h.block i hi hb)⟩
theorem Frame.of_below {B : Nat → Prop} {w w' : World} (h : Below w.heap.size w w') : Frame B w w' := ⟨h.os, h.tape, h.output, h.size, fun k hk _ => h.block k hk⟩
theorem Frame.of_but {B : Nat → Prop} {m : Nat} {w w' : World} (h : But m w w') (hm : B m) : Frame B w w' := ⟨h.os, h.tape, h.output, h.size, fun k hk hb => h.block k hk (fun e => hb (e ▸ hm))⟩
theorem Frame.of_grown {B : Nat → Prop} {w w' : World} {r : Option Nat} (h : w.grownBy w' r) (hr : ∀ b, r = some b → B b) : Frame B w w' := ⟨h.os, h.tape, h.output, h.size, fun k hk hb => h.block k hk (fun e => hb (hr k e.symm))⟩
theorem Frame.set {B : Nat → Prop} (w : World) {g : Nat} (hg : B g) (i : Nat) (v : Value) : Frame B w (w.setCell ⟨g, i, none⟩ v) := Frame.of_but ((But.refl g w).setCell i v) hg
theorem Frame.sets {B : Nat → Prop} (w : World) {g : Nat} (hg : B g) (i : Nat) (vs : List Value) : Frame B w (w.setCells g i vs) := Frame.of_but ((But.refl g w).setCells vs i) hg
theorem Frame.below {B : Nat → Prop} {w w' : World} {H : Nat} (h : Frame B w w') (hl : ∀ k, B k → H ≤ k) (hH : H ≤ w.heap.size) : Below H w w' :=
 ⟨h.os, h.tape, h.output, h.size, fun k hk => h.block k (by omega) (fun hb => by have := hl k hb; omega)⟩
section
variable {w w' : World} {H : Nat} {B : Nat → Prop} {g : Nat} {p : PolD} {S : WardS} {A : Option Addr} {c : Nat} {Ap : Option Addr} {cp : Nat} {m : Nat} {lv : Value} {bv sv : Nat → Value}
theorem WardRep.lt (h : WardRep w H B g p S A c Ap cp m lv bv sv) : g < w.heap.size := h.blk.lt
theorem WardRep.head (h : WardRep w H B g p S A c Ap cp m lv bv sv) : w.cell? ⟨g, 0, none⟩ = some (.slice A p.rules.length c) ∧ w.cell? ⟨g, 1, none⟩ = some (.int .i64 p.kind) ∧ w.cell? ⟨g, 2, none⟩ = some (.int .i64 p.errno) ∧
  w.cell? ⟨g, 3, none⟩ = some (.slice Ap (progL p).length cp) ∧ w.cell? ⟨g, 4, none⟩ = some (.pointer (some ⟨m, 0, none⟩)) ∧ w.cell? ⟨g, 89, none⟩ = some lv :=
 ⟨h.blk.cell (by omega), h.blk.cell (by omega), h.blk.cell (by omega), h.blk.cell (by omega), h.blk.cell (by omega), h.blk.cell (by omega)⟩
theorem wardCell_thr (hd : List Value) (lv : Value) (t : Nat → ThrS) (bv sv : Nat → Value) {n j : Nat} (hn : n < 3) (hj : j < 28) : wardCell hd lv t bv sv (5 + n * 28 + j) = (thrCells (t n) (bv n) (sv n)).getD j undef := by
 unfold wardCell; rw [if_neg (by omega), if_pos (by omega), show (5 + n * 28 + j - 5) / 28 = n from by omega, show (5 + n * 28 + j - 5) % 28 = j from by omega]
theorem WardRep.thr (h : WardRep w H B g p S A c Ap cp m lv bv sv) {n : Nat} (hn : n < 3) {j : Nat} {v : Value} (hv : (thrCells (S.t n) (bv n) (sv n))[j]? = some v) : w.cell? ⟨g, 5 + n * 28 + j, none⟩ = some v := by
 have hj : j < 28 := by
  have := (List.getElem?_eq_some_iff.1 hv).1
  rwa [thrCells_len] at this
 rw [h.blk.cell (by omega), wardCell_thr _ _ _ _ _ hn hj, List.getD_eq_getElem?_getD, hv]; rfl
theorem WardRep.frozen (h : WardRep w H B g p S A c Ap cp m lv bv sv) (i : Nat) : w.frozen? ⟨g, i, none⟩ = false := h.blk.frozen i
theorem WardRep.there (h : WardRep w H B g p S A c Ap cp m lv bv sv) {n : Nat} (hn : n < 3) : w.there g (5 + n * 28) 28 := h.blk.there (by omega)
theorem wardCell_set (hd : List Value) (lv : Value) (t : Nat → ThrS) (bv sv : Nat → Value) {n j : Nat} (hn : n < 3) (hj : j < 28) (v : Value) (T : ThrS) (b s : Value)
  (hT : thrCells T b s = (thrCells (t n) (bv n) (sv n)).set j v) :
  ∀ i, i < 90 → setV (wardCell hd lv t bv sv) (5 + n * 28 + j) v i = wardCell hd lv (fun k => if k = n then T else t k) (fun k => if k = n then b else bv k) (fun k => if k = n then s else sv k) i := by
 intro i hi; unfold setV
 by_cases h1 : i = 5 + n * 28 + j
 ·subst h1; rw [if_pos rfl, wardCell_thr _ _ _ _ _ hn hj]; simp only [if_true]; rw [hT, List.getD_eq_getElem?_getD, List.getElem?_set_self (by rw [thrCells_len]; exact hj)]; rfl
 ·rw [if_neg h1]
  by_cases h2 : i < 5
  ·unfold wardCell; rw [if_pos h2, if_pos h2]
  ·by_cases h3 : i < 89
   ·obtain ⟨n', j', hn', hj', rfl⟩ : ∃ n' j', n' < 3 ∧ j' < 28 ∧ i = 5 + n' * 28 + j' := ⟨(i - 5) / 28, (i - 5) % 28, by omega, by omega, by omega⟩
    rw [wardCell_thr _ _ _ _ _ hn' hj', wardCell_thr _ _ _ _ _ hn' hj']
    by_cases h4 : n' = n
    ·subst h4; simp only [if_true]; have hne : j ≠ j' := by omega
     rw [hT, List.getD_eq_getElem?_getD, List.getD_eq_getElem?_getD, List.getElem?_set_ne hne]
    ·simp only [if_neg h4]
   ·unfold wardCell; rw [if_neg h2, if_neg h2, if_neg h3, if_neg h3]
theorem wardCell_sets (hd : List Value) (lv : Value) (t : Nat → ThrS) (bv sv : Nat → Value) {n : Nat} (hn : n < 3) (T : ThrS) (b s : Value) :
  ∀ i, i < 90 → setVs (wardCell hd lv t bv sv) (5 + n * 28) (thrCells T b s) i = wardCell hd lv (fun k => if k = n then T else t k) (fun k => if k = n then b else bv k) (fun k => if k = n then s else sv k) i := by
 intro i hi; unfold setVs; rw [thrCells_len]
 by_cases h1 : 5 + n * 28 ≤ i ∧ i < 5 + n * 28 + 28
 ·rw [if_pos h1]; obtain ⟨j, hj, rfl⟩ : ∃ j, j < 28 ∧ i = 5 + n * 28 + j := ⟨i - (5 + n * 28), by omega, by omega⟩
  rw [wardCell_thr _ _ _ _ _ hn hj, show 5 + n * 28 + j - (5 + n * 28) = j from by omega]; simp only [if_true]
 ·rw [if_neg h1]
  by_cases h2 : i < 5
  ·unfold wardCell; rw [if_pos h2, if_pos h2]
  ·by_cases h3 : i < 89
   ·obtain ⟨n', j', hn', hj', rfl⟩ : ∃ n' j', n' < 3 ∧ j' < 28 ∧ i = 5 + n' * 28 + j' := ⟨(i - 5) / 28, (i - 5) % 28, by omega, by omega, by omega⟩
    rw [wardCell_thr _ _ _ _ _ hn' hj', wardCell_thr _ _ _ _ _ hn' hj']; have h4 : n' ≠ n := by omega
    simp only [if_neg h4]
   ·unfold wardCell; rw [if_neg h2, if_neg h2, if_neg h3, if_neg h3]
theorem wardCell_log (hd : List Value) (lv l2 : Value) (t : Nat → ThrS) (bv sv : Nat → Value) : ∀ i, i < 90 → setV (wardCell hd lv t bv sv) 89 l2 i = wardCell hd l2 t bv sv i := by
 intro i hi; unfold setV wardCell
 by_cases h1 : i = 89
 ·subst h1; rw [if_pos rfl, if_neg (by omega), if_neg (by omega)]
 ·rw [if_neg h1]
  by_cases h2 : i < 5
  ·rw [if_pos h2, if_pos h2]
  ·rw [if_neg h2, if_neg h2, if_pos (by omega), if_pos (by omega)]
theorem BlkAt.same {w : World} {b n : Nat} {t : TypeId} {C D : Nat → Value} (h : BlkAt w b t n C) (e : ∀ i, i < n → C i = D i) : BlkAt w b t n D := by
 have h' : w.heap[b]? = some (.cells (rowOf n C) t (0, 0)) := h; rw [rowOf_congr e] at h'; exact h'
end
end Go.Proofs.YtmgngapkgcofnabGreatDoor
namespace Go.Proofs.YtmgngapkgcofnabGreatDoor
open Go.RowKit Go.PlainAid Go.Extern.Stop Go.Stop Go.Extern
theorem isTypeOf (v : Value) (w : World) : (Extern.ReflectliteType.typeOf #[.iface 105 v]).run Tryz.prog w = .ok (.iface 310 (.agg #[.pointer (some ⟨8, 105, none⟩)])) w := by kernel_rfl
theorem callTypeOf (v : Value) (w : World) : (callFunc 184 #[.iface 105 v]).run Tryz.prog w = .ok (.value (.iface 310 (.agg #[.pointer (some ⟨8, 105, none⟩)]))) w := by
 rw [@run_callFunc_extern Tryz.prog 184 _ Extern.ReflectliteType.typeOf Tryz.func184 (by kernel_rfl) (by kernel_rfl) (by kernel_rfl) (by kernel_rfl), isTypeOf]; rfl
theorem callComparable (w : World) : (callFunc 264 #[.agg #[.pointer (some ⟨8, 105, none⟩)]]).run Tryz.prog w = .ok (.value (.bool true)) w := by kernel_rfl
theorem isMethodComparable (v : Value) (w : World) : (Go.method 382 310 v "Comparable").run Tryz.prog w = .ok (264, v) w := by kernel_rfl
theorem isComp : (Tryz.prog.info? 105).map (·.comparable) = some true := by kernel_rfl
theorem noIsE (v : Value) (xT : TypeId) (w : World) : (Instr.typeAssert (.iface 105 v) xT 312 true).run Tryz.prog w = .ok (.tuple #[.nilIface, .bool false]) w := run_typeAssert_lacksB Tryz.underlying312 (by kernel_rfl) (by kernel_rfl) v xT w
theorem noUnwrapE (v : Value) (xT : TypeId) (w : World) : (Instr.typeAssert (.iface 105 v) xT 315 true).run Tryz.prog w = .ok (.tuple #[.nilIface, .bool false]) w := run_typeAssert_lacksB Tryz.underlying315 (by kernel_rfl) (by kernel_rfl) v xT w
theorem noUnwrapsE (v : Value) (xT : TypeId) (w : World) : (Instr.typeAssert (.iface 105 v) xT 317 true).run Tryz.prog w = .ok (.tuple #[.nilIface, .bool false]) w := run_typeAssert_lacksB Tryz.underlying317 (by kernel_rfl) (by kernel_rfl) v xT w
set_option linter.unusedSimpArgs false in
set_option maxRecDepth 100000 in
set_option maxHeartbeats 4000000 in
theorem is_errno (a b : Int) (w : World) :
  Calls Tryz.prog 148 #[.iface 105 (.int .i64 a), .iface 105 (.int .i64 b)] w fun e w' => e = .returned (.bool (decide (a = b))) ∧ w' = w := by
 have cT := callTypeOf; have cC := callComparable; have mR := isMethodComparable; have nE := noIsE; have uE := noUnwrapE; have vE := noUnwrapsE; have heq := Lib.run_eql_iface_int (P := Tryz.prog) w (k := .i64) a b Tryz.underlying34 isComp Tryz.underlying105
 by_cases h : a = b
 ·subst h; have he : (a == a) = true := by simp
  rw [he] at heq; go_enter Tryz.func148, Tryz.ntmps148
  go_wp2
  refine wp_loop_rounds 1 ?_; rw [rounds_succ]
  go_wp2
  go_ret; exact ⟨by simp, rfl⟩
 ·have he : (a == b) = false := by simpa using h
  rw [he] at heq; go_enter Tryz.func148, Tryz.ntmps148
  go_wp2
  refine wp_loop_rounds 1 ?_; rw [rounds_succ]
  go_wp2
  go_ret; exact ⟨by rw [decide_eq_false h]; rfl, rfl⟩
set_option maxHeartbeats 4000000 in
theorem errno_any (f : Int) (w : World) (h0 : f ≠ 0) :
  Calls Tryz.prog 97 #[errV f] w fun e w' => e = .returned (.int .i64 (errnoF f)) ∧ w' = w := by
 rw [errV_pos h0]; have HI := Lib.hid (fun b => is_errno f b w)
 by_cases h5 : f = 5
 ·have HE : Hid (errnoF f = 14) := if_pos h5; have d5 : decide (f = 5) = true := decide_eq_true h5; have C5 := HI.out 5; rw [d5] at C5; have HC5 := Lib.hid C5; clear h5 d5 C5 HI h0; go_enter Tryz.func97, Tryz.ntmps97
  go_wp2_with (go_at_call 148; refine cargs (by simp) (HC5.out.mono ?_); rintro e w1 ⟨rfl, rfl⟩)
  go_ret; exact ⟨by rw [HE.out]; rfl, rfl⟩
 ·have d5 : decide (f = 5) = false := decide_eq_false h5; have C5 := HI.out 5; rw [d5] at C5; have HC5 := Lib.hid C5
  by_cases h6 : f = 6
  ·have HE : Hid (errnoF f = 36) := by show _ = _; unfold errnoF; rw [if_neg h5, if_pos h6]
   have d6 : decide (f = 6) = true := decide_eq_true h6; have C6 := HI.out 6; rw [d6] at C6; have HC6 := Lib.hid C6; clear h5 d5 C5 h6 d6 C6 HI h0; go_enter Tryz.func97, Tryz.ntmps97
   go_wp2_with (go_at_call 148; (first | (refine cargs (by first | (simp; done) | fail) (HC5.out.mono ?_)) | (refine cargs (by first | (simp; done) | fail) (HC6.out.mono ?_))); rintro e w1 ⟨rfl, rfl⟩)
   go_ret; exact ⟨by rw [HE.out]; rfl, rfl⟩
  ·have HE : Hid (errnoF f = 22) := by show _ = _; unfold errnoF; rw [if_neg h5, if_neg h6]
   have d6 : decide (f = 6) = false := decide_eq_false h6; have C6 := HI.out 6; rw [d6] at C6; have HC6 := Lib.hid C6; clear h5 d5 C5 h6 d6 C6 HI h0; go_enter Tryz.func97, Tryz.ntmps97
   go_wp2_with (go_at_call 148; (first | (refine cargs (by first | (simp; done) | fail) (HC5.out.mono ?_)) | (refine cargs (by first | (simp; done) | fail) (HC6.out.mono ?_))); rintro e w1 ⟨rfl, rfl⟩)
   go_ret; exact ⟨by rw [HE.out]; rfl, rfl⟩
end Go.Proofs.YtmgngapkgcofnabGreatDoor
namespace Go.Proofs.YtmgngapkgcofnabGreatDoor
open Go.RowKit
theorem pol_kinds {p : PolD} (hf : polF p = 0) : p.kind ≠ 4 ∧ ∀ r ∈ p.rules, r.kind ≠ 4 := by
 obtain ⟨_, h2, h3⟩ := polF_zero hf; refine ⟨?_, fun r hr => ?_⟩
 ·rcases actF_cases h2 with ⟨h, _⟩ | ⟨h, _⟩ | ⟨h, _⟩ <;> omega
 ·rcases actF_cases (ruleF_zero (h3 r hr)).2.2.2.2 with ⟨h, _⟩ | ⟨h, _⟩ | ⟨h, _⟩ <;> omega
end Go.Proofs.YtmgngapkgcofnabGreatDoor
