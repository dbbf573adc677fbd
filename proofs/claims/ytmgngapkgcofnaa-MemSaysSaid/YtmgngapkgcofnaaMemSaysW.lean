/- What the walk of MemSays needs: contracts, plain words. -/
import Derived.Test.YtmgngapkgcofnaaMemOpsSt
namespace Go.Proofs.Ytmgngapkgcofnaa
open Go.RowKit Go.PlainAid

section
variable {w0 : World} {r m c : Nat} {S1 S2 Sc : MemS}
theorem cp_map (n : Int) (wr : Bool) (w : World) (h : St w0 w r m S1 S2) (hc : MemAt w (fun g => g ≠ r ∧ g ≠ m) c Sc) : Calls Try.prog 32 #[.pointer (some ⟨m, 0, none⟩), .int .i64 n, .bool wr] w fun e w' => (∃ v, e = .returned v) ∧ St w0 w' r m (mapS S1 n wr) S2 ∧ MemAt w' (fun g => g ≠ r ∧ g ≠ m) c Sc :=
  (memMap_any m _ S1 n wr w h.mem).mono fun _ _ ⟨h1, h2, h3⟩ => ⟨⟨_, h1⟩, h.m h2 h3, hc.other h3 (fun e => e.2 rfl)⟩
theorem cp_put (a : Nat) (s : ByteArray) (hs : s.size ≤ 4096) (w : World) (h : St w0 w r m S1 S2) (hc : MemAt w (fun g => g ≠ r ∧ g ≠ m) c Sc) : Calls Try.prog 36 #[.pointer (some ⟨m, 0, none⟩), .int .u64 a, .string s] w fun e w' => (∃ v, e = .returned v) ∧ St w0 w' r m (putS S1 a s) S2 ∧ MemAt w' (fun g => g ≠ r ∧ g ≠ m) c Sc :=
  (memPut_any m _ S1 a s w h.mem hs).mono fun _ _ ⟨h1, h2, h3⟩ => ⟨⟨_, h1⟩, h.m h2 h3, hc.other h3 (fun e => e.2 rfl)⟩
theorem cp_seal (s : ByteArray) (w : World) (h : St w0 w r m S1 S2) (hc : MemAt w (fun g => g ≠ r ∧ g ≠ m) c Sc) : Calls Try.prog 42 #[.pointer (some ⟨m, 0, none⟩), .string s] w fun e w' => (∃ a b, e = .returned (.tuple #[a, b])) ∧ St w0 w' r m (sealS S1 s) S2 ∧ MemAt w' (fun g => g ≠ r ∧ g ≠ m) c Sc :=
  (memSeal_any m _ S1 s w h.mem (fun g hg e => by have := h.ref.lt; omega)).mono fun _ _ ⟨h1, h2, h3⟩ => ⟨⟨_, _, h1⟩, h.m h2 h3, hc.other h3 (fun e => e.2 rfl)⟩
end
theorem act_info : (Try.prog.info? 67).map (·.size) = some 11 := by kernel_rfl
def actZero : Array Value := #[.string ⟨#[]⟩, .int .i64 0, .int .u64 0, .string ⟨#[]⟩, .bool false, .int .u32 0, .int .u32 0, .int .u64 0, .int .u64 0, .int .u64 0, .int .u64 0]
theorem act_zero : (Try.prog.info? 67).bind (·.zero) = some (.agg actZero) := by kernel_rfl
def ActD.C (x : ActD) (i : Nat) : Value := x.row.getD i undef
theorem ActD.rowOf_C (x : ActD) : (rowOf 11 x.C).toList = x.row := by
  kernel_rfl
def refZeros : Array Value := (List.replicate 12 (Value.int .i64 0) ++ List.replicate 768 (Value.int .u8 0)).toArray
theorem ref_zero_cells : Try.zeroCells65 = refZeros := by kernel_rfl
theorem refZeros_size : refZeros.size = 780 := by
  unfold refZeros
  rw [List.size_toArray, List.length_append, List.length_replicate, List.length_replicate]
theorem refZeros_at (i : Nat) (h : i < 780) : refZeros.getD i undef = if i < 12 then .int .i64 0 else .int .u8 0 := by
  have hg : refZeros[i]? = some (if i < 12 then .int .i64 0 else .int .u8 0) := by
    unfold refZeros
    rw [List.getElem?_toArray]
    by_cases h1 : i < 12
    · rw [List.getElem?_append_left (by simpa using h1), List.getElem?_replicate, if_pos h1, if_pos h1]
    · rw [List.getElem?_append_right (by simp; omega), List.getElem?_replicate, List.length_replicate, if_pos (by omega), if_neg h1]
  rw [Array.getD_eq_getD_getElem?, hg]; rfl
theorem ref_new (w : World) : RefAt (w.alloc (.cells Try.zeroCells65 65)) w.heap.size MemS.new := by
  refine ⟨new_ok, fun n h => by simp [MemS.new] at h, fun i => refZeros.getD i undef, ?_, ?_, ?_⟩
  · unfold BlkAt
    rw [ref_zero_cells, show (780 : Nat) = refZeros.size from refZeros_size.symm, rowOf_of]; exact heap_alloc_new _ _
  · intro n hn
    show refZeros.getD n undef = _
    rw [refZeros_at n (by omega), if_pos hn]
    unfold refIs MemS.new; simp
  · intro n k hn hk
    refine ⟨0, by show refZeros.getD _ undef = _; rw [refZeros_at _ (by omega), if_neg (by omega)], by omega, by omega, fun u hu => ?_⟩
    unfold refB MemS.new at hu
    simp at hu

theorem calls_args {P : Program} {f : FuncId} {a b : Array Value} {w : World} {Q : Ending → World → Prop} (h : a = b) (hc : Calls P f b w Q) : Calls P f a w Q := h ▸ hc

def kMap : ByteArray := ⟨#[109, 97, 112]⟩
def kUnmap : ByteArray := ⟨#[117, 110, 109, 97, 112]⟩
def kPut : ByteArray := ⟨#[112, 117, 116]⟩
def kGet : ByteArray := ⟨#[103, 101, 116]⟩
def kText : ByteArray := ⟨#[116, 101, 120, 116]⟩
def kSeal : ByteArray := ⟨#[115, 101, 97, 108]⟩
def kFree : ByteArray := ⟨#[102, 114, 101, 101]⟩
def kByte : ByteArray := ⟨#[98, 121, 116, 101]⟩
def kOther : ByteArray := ⟨#[111, 116, 104, 101, 114]⟩

end Go.Proofs.Ytmgngapkgcofnaa
