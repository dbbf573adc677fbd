/- The shelf's contracts for a builder, laid by hand beside the tool's: WriteString, WriteByte; and the contracts in the forms in which the walks meet them. -/
import Derived.Test.YtmgngapkgcofnabDoorShelf
import Derived.Test.YtmgngapkgcofnabDoorNet
namespace Go.Proofs
open Go.RowKit Go.Lib Go.Sort

def Tryd.laysB_ren : Go.Shelf.Ren := ⟨fun | 167 => 23 | n => Tryd.lays105_ren.f n, Tryd.lays105_ren.t, Tryd.lays105_ren.g⟩
set_option maxRecDepth 100000 in
theorem Tryd.laysB : Lays.n166 Tryd.prog Tryd.lays105_ren := { Tryd.lays105 with }
set_option maxRecDepth 100000 in
theorem Tryd.laysC : Lays.n167 Tryd.prog Tryd.laysB_ren := { Tryd.lays105 with f167 := Tryd.func23.trans (congrArg some (by kernel_rfl)) }
set_option maxRecDepth 100000 in
theorem Tryd.extraC : Builder.Extra Tryd.prog Tryd.laysB_ren := {
  sizeBuilder := Tryd.Builder_Extra_105.sizeBuilder
  liesBuilder := Tryd.Builder_Extra_105.liesBuilder
  t5 := Tryd.Builder_Extra_105.t5
  a5 := Tryd.Builder_Extra_105.a5
  z5 := Tryd.Builder_Extra_105.z5
  v5 := Tryd.Builder_Extra_105.v5
  infoByte := Tryd.Builder_Extra_105.infoByte
  cellsByte := Tryd.Builder_Extra_105.cellsByte
  sizeByte := Tryd.Builder_Extra_105.sizeByte
  neB5 := Tryd.Builder_Extra_105.neB5 }
theorem Tryd.ws_k (B b : Nat) (bs : List Value) (s : ByteArray) (w : World) (h : Lib.IsBuilderF 70 5 B b bs w) (hlen : bs.length + s.size ≤ 140737488355328) (hBw : B ≤ w.heap.size) :
    Calls Tryd.prog 21 #[.pointer (some ⟨b, 0, none⟩), .string s] w fun e w' => e = .returned (.tuple #[.int .i64 s.size, .nilIface]) ∧ (Lib.BuilderAtF 70 5 B b (.pointer (some ⟨b, 0, none⟩)) (bs ++ Lib.strCells s) w' ∧ Below B w w' ∧ Lib.OthersKept 5 (some b) w w') :=
  Any.Builder_WriteString_k Tryd.laysB Tryd.Builder_Extra_105 B b bs s w h hlen hBw
theorem Tryd.wb_k (B b : Nat) (bs : List Value) (c : Int) (w : World) (h : Lib.IsBuilderF 70 5 B b bs w) (hlen : bs.length + 1 ≤ 140737488355328) (hBw : B ≤ w.heap.size) :
    Calls Tryd.prog 23 #[.pointer (some ⟨b, 0, none⟩), .int .u8 c] w fun e w' => e = .returned .nilIface ∧ (Lib.BuilderAtF 70 5 B b (.pointer (some ⟨b, 0, none⟩)) (bs ++ [.int .u8 c]) w' ∧ Below B w w' ∧ Lib.OthersKept 5 (some b) w w') :=
  Any.Builder_WriteByte_k Tryd.laysC Tryd.extraC B b bs c w h hlen hBw
theorem Tryd.str_k (B b : Nat) (l : List UInt8) (w : World) (h : Lib.IsBuilderF 70 5 B b (Lib.byteCells l) w) (hBw : B ≤ w.heap.size) :
    Calls Tryd.prog 24 #[.pointer (some ⟨b, 0, none⟩)] w fun e w' => e = .returned (.string ⟨l.toArray⟩) ∧ (Lib.IsBuilderF 70 5 B b (Lib.byteCells l) w' ∧ Below B w w' ∧ Lib.OthersKept 5 (some b) w w') :=
  Tryd.Builder_String_any_k B b l w h hBw
theorem Tryd.itoa_any (n : Nat) (hn : n ≤ 9223372036854775807) (w : World) (htab : Lib.TabIs Tryd.prog w "internal/strconv.uint64pow10" .u64 Lib.pow10Tab) :
    Calls Tryd.prog 22 #[.int .i64 (n : Int)] w fun e w' => e = .returned (.string ⟨(Lib.decDigits n).toArray⟩) ∧ Below w.heap.size w w' :=
  (Tryd.strconv_Itoa n (by omega) (by omega) w htab).mono fun e w' ⟨h, k, os, hw⟩ => by
    refine ⟨?_, by subst hw; exact ⟨rfl, rfl, rfl, by simp [grow, World.drewN], fun j hj => by simp [grow, World.drewN, Array.getElem?_append, hj]⟩⟩
    rw [h]; unfold Lib.itoa; rw [if_neg (by omega)]; rfl
theorem Tryd.index_any (s : ByteArray) (c : UInt8) (w : World) :
    Calls Tryd.prog 26 #[.string s, .int .u8 (c.toNat : Int)] w fun e w' => e = .returned (.int .i64 (Lib.indexByte s.data.toList c)) ∧ w = w' :=
  (Tryd.strings_IndexByte s (c.toNat : Int) w).mono fun _ _ h => by
    refine ⟨?_, h.2.symm⟩
    rw [h.1, Int.toNat_natCast]; simp
theorem Tryd.repeat_any (s : ByteArray) (c : Nat) (w : World) (hc : c ≤ 9223372036854775807) (hlen : s.size * c ≤ 140737488355328) :
    Calls Tryd.prog 20 #[.string s, .int .i64 c] w fun e w' => e = .returned (.string ⟨(Lib.repeatL s.data.toList c).toArray⟩) ∧ Below w.heap.size w w' :=
  Tryd.strings_Repeat s c w hc hlen
end Go.Proofs
