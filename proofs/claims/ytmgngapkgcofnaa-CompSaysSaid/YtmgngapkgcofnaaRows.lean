/-
  No cell of these rows narrows 'for every input' (looked for: loops, veiled, ifaces, maps, wideKeys, modest, calm, conditions, laid).
  DERIVED. THE GIVEN ROWS OF THIS SEAT. 8 by the template 'for every input the law returns true; each argument reads behind the call as it read before'; 0 by the template 'total and deterministic' (their statements: YtmgngapkgcofnaaTotals.lean).
  GIVEN WITH THE SEED: the statements are not yours to turn. If you find one false, say at which input.
  Laid BY PROGRAM, IN A SANDBOX (cutbox-rows.mjs): the forced cells as the released guide's own fill.sh prints them over the translation a704b2e388584c43… (all of the seat's roots in one cut). By AI agents, Wed Nov 11 2026. No macro, syntax, notation, axiom, sorry.
-/
import Derived.Test.YtmgngapkgcofnaaChecked
import GoSem.Claim
import GoSem.ClaimJoined
import GoSem.ClaimMapViews
import Derived.JoinedTies
import Derived.KernelRfl
namespace Go.Proofs.Ytmgngapkgcofnaa
/- THE CELL 'sum', in the pinned program and in every row, IS THE sha256 OF THE DUMP (.gsa) THAT YtmgngapkgcofnaaProg.lean LOADS. Nothing in Lean hashes anything: it is a label: what it is worth is what the hold of that sum in a sandbox is worth. -/
noncomputable def Try.pinned : Pinned := { name := "ytmgngapkgcofnaa", sum := "a704b2e388584c43b90f9d828c4e16990b285b66c6d3e991e2c88840a1ee64c8", checked := Try.checked }
namespace Rows
def none {H : Type} : Left H := { results := [], args := [] }

/-- 'doorwardlaw.BpfReads': WHATEVER THE INPUT: true; the input reads as it did. -/
def bpfReadsSpec : ChangeSpec := { name := "bpfReads", fn := fun _ => fun
  | [d] => { results := [.lit (.bool true)], args := [d] }
  | _ => none }
def bpfReadsRow : OpenClaim := { program := "ytmgngapkgcofnaa", sum := "a704b2e388584c43b90f9d828c4e16990b285b66c6d3e991e2c88840a1ee64c8", func := "doorward/doorwardlaw.BpfReads", spec := "bpfReads", apart := false }
def BpfReadsSaid : Prop := bpfReadsRow.holds Try.pinned (OpenSpec.ofChange bpfReadsSpec)

/-- ITS FALSE NEIGHBOUR: 'it returns false'. Refute it at one input. -/
def bpfReadsWrong : ChangeSpec := { name := "bpfReads", fn := fun _ => fun
  | [d] => { results := [.lit (.bool false)], args := [d] }
  | _ => none }
def BpfReadsWrongFalsely : Prop := bpfReadsRow.holds Try.pinned (OpenSpec.ofChange bpfReadsWrong)

/-- 'doorwardlaw.GlobSays': WHATEVER THE INPUT: true; the input reads as it did. -/
def globSaysSpec : ChangeSpec := { name := "globSays", fn := fun _ => fun
  | [d1, d2] => { results := [.lit (.bool true)], args := [d1, d2] }
  | _ => none }
def globSaysRow : OpenClaim := { program := "ytmgngapkgcofnaa", sum := "a704b2e388584c43b90f9d828c4e16990b285b66c6d3e991e2c88840a1ee64c8", func := "doorward/doorwardlaw.GlobSays", spec := "globSays", apart := false }
def GlobSaysSaid : Prop := globSaysRow.holds Try.pinned (OpenSpec.ofChange globSaysSpec)

/-- ITS FALSE NEIGHBOUR: 'it returns false'. Refute it at one input. -/
def globSaysWrong : ChangeSpec := { name := "globSays", fn := fun _ => fun
  | [d1, d2] => { results := [.lit (.bool false)], args := [d1, d2] }
  | _ => none }
def GlobSaysWrongFalsely : Prop := globSaysRow.holds Try.pinned (OpenSpec.ofChange globSaysWrong)

/-- 'doorwardlaw.BpfSays': WHATEVER THE INPUT: true; the input reads as it did. -/
def bpfSaysSpec : ChangeSpec := { name := "bpfSays", fn := fun _ => fun
  | [d1, d2, d3] => { results := [.lit (.bool true)], args := [d1, d2, d3] }
  | _ => none }
def bpfSaysRow : OpenClaim := { program := "ytmgngapkgcofnaa", sum := "a704b2e388584c43b90f9d828c4e16990b285b66c6d3e991e2c88840a1ee64c8", func := "doorward/doorwardlaw.BpfSays", spec := "bpfSays", apart := false }
def BpfSaysSaid : Prop := bpfSaysRow.holds Try.pinned (OpenSpec.ofChange bpfSaysSpec)

/-- ITS FALSE NEIGHBOUR: 'it returns false'. Refute it at one input. -/
def bpfSaysWrong : ChangeSpec := { name := "bpfSays", fn := fun _ => fun
  | [d1, d2, d3] => { results := [.lit (.bool false)], args := [d1, d2, d3] }
  | _ => none }
def BpfSaysWrongFalsely : Prop := bpfSaysRow.holds Try.pinned (OpenSpec.ofChange bpfSaysWrong)

/-- 'doorwardlaw.MemSays': WHATEVER THE INPUT: true; the input reads as it did. -/
def memSaysSpec : ChangeSpec := { name := "memSays", fn := fun _ => fun
  | [d] => { results := [.lit (.bool true)], args := [d] }
  | _ => none }
def memSaysRow : OpenClaim := { program := "ytmgngapkgcofnaa", sum := "a704b2e388584c43b90f9d828c4e16990b285b66c6d3e991e2c88840a1ee64c8", func := "doorward/doorwardlaw.MemSays", spec := "memSays", apart := false }
def MemSaysSaid : Prop := memSaysRow.holds Try.pinned (OpenSpec.ofChange memSaysSpec)

/-- ITS FALSE NEIGHBOUR: 'it returns false'. Refute it at one input. -/
def memSaysWrong : ChangeSpec := { name := "memSays", fn := fun _ => fun
  | [d] => { results := [.lit (.bool false)], args := [d] }
  | _ => none }
def MemSaysWrongFalsely : Prop := memSaysRow.holds Try.pinned (OpenSpec.ofChange memSaysWrong)

/-- 'doorwardtop.TopBpf': WHATEVER THE INPUT: true; the input reads as it did. -/
def topBpfSpec : ChangeSpec := { name := "topBpf", fn := fun _ => fun
  | [d1, d2] => { results := [.lit (.bool true)], args := [d1, d2] }
  | _ => none }
def topBpfRow : OpenClaim := { program := "ytmgngapkgcofnaa", sum := "a704b2e388584c43b90f9d828c4e16990b285b66c6d3e991e2c88840a1ee64c8", func := "doorward/doorwardtop.TopBpf", spec := "topBpf", apart := false }
def TopBpfSaid : Prop := topBpfRow.holds Try.pinned (OpenSpec.ofChange topBpfSpec)

/-- ITS FALSE NEIGHBOUR: 'it returns false'. Refute it at one input. -/
def topBpfWrong : ChangeSpec := { name := "topBpf", fn := fun _ => fun
  | [d1, d2] => { results := [.lit (.bool false)], args := [d1, d2] }
  | _ => none }
def TopBpfWrongFalsely : Prop := topBpfRow.holds Try.pinned (OpenSpec.ofChange topBpfWrong)

/-- 'doorwardlaw.CompSays': WHATEVER THE INPUT: true; the input reads as it did. -/
def compSaysSpec : ChangeSpec := { name := "compSays", fn := fun _ => fun
  | [d1, d2] => { results := [.lit (.bool true)], args := [d1, d2] }
  | _ => none }
def compSaysRow : OpenClaim := { program := "ytmgngapkgcofnaa", sum := "a704b2e388584c43b90f9d828c4e16990b285b66c6d3e991e2c88840a1ee64c8", func := "doorward/doorwardlaw.CompSays", spec := "compSays", apart := false }
def CompSaysSaid : Prop := compSaysRow.holds Try.pinned (OpenSpec.ofChange compSaysSpec)

/-- ITS FALSE NEIGHBOUR: 'it returns false'. Refute it at one input. -/
def compSaysWrong : ChangeSpec := { name := "compSays", fn := fun _ => fun
  | [d1, d2] => { results := [.lit (.bool false)], args := [d1, d2] }
  | _ => none }
def CompSaysWrongFalsely : Prop := compSaysRow.holds Try.pinned (OpenSpec.ofChange compSaysWrong)

/-- 'doorwardtop.TopMem': WHATEVER THE INPUT: true; the input reads as it did. -/
def topMemSpec : ChangeSpec := { name := "topMem", fn := fun _ => fun
  | [d1, d2, d3, d4] => { results := [.lit (.bool true)], args := [d1, d2, d3, d4] }
  | _ => none }
def topMemRow : OpenClaim := { program := "ytmgngapkgcofnaa", sum := "a704b2e388584c43b90f9d828c4e16990b285b66c6d3e991e2c88840a1ee64c8", func := "doorward/doorwardtop.TopMem", spec := "topMem", apart := false }
def TopMemSaid : Prop := topMemRow.holds Try.pinned (OpenSpec.ofChange topMemSpec)

/-- ITS FALSE NEIGHBOUR: 'it returns false'. Refute it at one input. -/
def topMemWrong : ChangeSpec := { name := "topMem", fn := fun _ => fun
  | [d1, d2, d3, d4] => { results := [.lit (.bool false)], args := [d1, d2, d3, d4] }
  | _ => none }
def TopMemWrongFalsely : Prop := topMemRow.holds Try.pinned (OpenSpec.ofChange topMemWrong)

/-- 'doorwardtop.TopGlob': WHATEVER THE INPUT: true; the input reads as it did. -/
def topGlobSpec : ChangeSpec := { name := "topGlob", fn := fun _ => fun
  | [d1, d2, d3, d4] => { results := [.lit (.bool true)], args := [d1, d2, d3, d4] }
  | _ => none }
def topGlobRow : OpenClaim := { program := "ytmgngapkgcofnaa", sum := "a704b2e388584c43b90f9d828c4e16990b285b66c6d3e991e2c88840a1ee64c8", func := "doorward/doorwardtop.TopGlob", spec := "topGlob", apart := false }
def TopGlobSaid : Prop := topGlobRow.holds Try.pinned (OpenSpec.ofChange topGlobSpec)

/-- ITS FALSE NEIGHBOUR: 'it returns false'. Refute it at one input. -/
def topGlobWrong : ChangeSpec := { name := "topGlob", fn := fun _ => fun
  | [d1, d2, d3, d4] => { results := [.lit (.bool false)], args := [d1, d2, d3, d4] }
  | _ => none }
def TopGlobWrongFalsely : Prop := topGlobRow.holds Try.pinned (OpenSpec.ofChange topGlobWrong)

/- THE SECOND FORM. 'bulk': how many values and letters a reading holds, each counted each time it is reached (what is shared counts as often as it is met; a slice's spare places count too). A statement '..UptoSaid' is the law's where the arguments, and the package variables that the reading takes, are together of bulk at most 1048576: NARROWER than '..Said'. Prove '..Said' where nothing that the law and all that it calls make is longer than what came in: it says more and counts as full. Else prove '..UptoSaid'. A law counts once. -/
mutual
def uptoBulk {H : Type} : DataW H → Nat
  | .lit (.string bytes) => bytes.length + 1
  | .lit _ => 1
  | .nil => 1
  | .ptr d => uptoBulk d + 1
  | .slice elems spare => uptoBulkAll elems + uptoBulkAll spare + 1
  | .agg parts => uptoBulkAll parts + 1
  | .iface _ d => uptoBulk d + 1
  | .map entries => uptoBulkEntries entries + 1
  | .held _ => 1
def uptoBulkAll {H : Type} : List (DataW H) → Nat
  | [] => 0
  | d :: r => uptoBulk d + uptoBulkAll r
def uptoBulkEntries {H : Type} : List (Lit × DataW H) → Nat
  | [] => 0
  | x :: r => uptoBulkEntry x + uptoBulkEntries r
def uptoBulkEntry {H : Type} : Lit × DataW H → Nat
  | (.string bytes, d) => bytes.length + uptoBulk d + 1
  | (_, d) => uptoBulk d + 1
 end
def uptoSmall : (H : Type) → List (DataW H) → Bool := fun _ ds => decide (uptoBulkAll ds ≤ 1048576)
def OpenSpec.upto (s : _root_.Go.ChangeSpec) : _root_.Go.OpenSpec := { _root_.Go.OpenSpec.ofChange s with cond := some uptoSmall }

/-- 'doorwardlaw.BpfReads', WHERE WHAT IT READS IS OF BULK AT MOST 1048576: true; the input reads as it did. -/
def bpfReadsUptoRow : OpenClaim := { program := "ytmgngapkgcofnaa", sum := "a704b2e388584c43b90f9d828c4e16990b285b66c6d3e991e2c88840a1ee64c8", func := "doorward/doorwardlaw.BpfReads", spec := "bpfReads", apart := false, narrowed := true }
def BpfReadsUptoSaid : Prop := bpfReadsUptoRow.holds Try.pinned (OpenSpec.upto bpfReadsSpec)

/-- 'doorwardlaw.GlobSays', WHERE WHAT IT READS IS OF BULK AT MOST 1048576: true; the input reads as it did. -/
def globSaysUptoRow : OpenClaim := { program := "ytmgngapkgcofnaa", sum := "a704b2e388584c43b90f9d828c4e16990b285b66c6d3e991e2c88840a1ee64c8", func := "doorward/doorwardlaw.GlobSays", spec := "globSays", apart := false, narrowed := true }
def GlobSaysUptoSaid : Prop := globSaysUptoRow.holds Try.pinned (OpenSpec.upto globSaysSpec)

/-- 'doorwardlaw.BpfSays', WHERE WHAT IT READS IS OF BULK AT MOST 1048576: true; the input reads as it did. -/
def bpfSaysUptoRow : OpenClaim := { program := "ytmgngapkgcofnaa", sum := "a704b2e388584c43b90f9d828c4e16990b285b66c6d3e991e2c88840a1ee64c8", func := "doorward/doorwardlaw.BpfSays", spec := "bpfSays", apart := false, narrowed := true }
def BpfSaysUptoSaid : Prop := bpfSaysUptoRow.holds Try.pinned (OpenSpec.upto bpfSaysSpec)

/-- 'doorwardlaw.MemSays', WHERE WHAT IT READS IS OF BULK AT MOST 1048576: true; the input reads as it did. -/
def memSaysUptoRow : OpenClaim := { program := "ytmgngapkgcofnaa", sum := "a704b2e388584c43b90f9d828c4e16990b285b66c6d3e991e2c88840a1ee64c8", func := "doorward/doorwardlaw.MemSays", spec := "memSays", apart := false, narrowed := true }
def MemSaysUptoSaid : Prop := memSaysUptoRow.holds Try.pinned (OpenSpec.upto memSaysSpec)

/-- 'doorwardtop.TopBpf', WHERE WHAT IT READS IS OF BULK AT MOST 1048576: true; the input reads as it did. -/
def topBpfUptoRow : OpenClaim := { program := "ytmgngapkgcofnaa", sum := "a704b2e388584c43b90f9d828c4e16990b285b66c6d3e991e2c88840a1ee64c8", func := "doorward/doorwardtop.TopBpf", spec := "topBpf", apart := false, narrowed := true }
def TopBpfUptoSaid : Prop := topBpfUptoRow.holds Try.pinned (OpenSpec.upto topBpfSpec)

/-- 'doorwardlaw.CompSays', WHERE WHAT IT READS IS OF BULK AT MOST 1048576: true; the input reads as it did. -/
def compSaysUptoRow : OpenClaim := { program := "ytmgngapkgcofnaa", sum := "a704b2e388584c43b90f9d828c4e16990b285b66c6d3e991e2c88840a1ee64c8", func := "doorward/doorwardlaw.CompSays", spec := "compSays", apart := false, narrowed := true }
def CompSaysUptoSaid : Prop := compSaysUptoRow.holds Try.pinned (OpenSpec.upto compSaysSpec)

/-- 'doorwardtop.TopMem', WHERE WHAT IT READS IS OF BULK AT MOST 1048576: true; the input reads as it did. -/
def topMemUptoRow : OpenClaim := { program := "ytmgngapkgcofnaa", sum := "a704b2e388584c43b90f9d828c4e16990b285b66c6d3e991e2c88840a1ee64c8", func := "doorward/doorwardtop.TopMem", spec := "topMem", apart := false, narrowed := true }
def TopMemUptoSaid : Prop := topMemUptoRow.holds Try.pinned (OpenSpec.upto topMemSpec)

/-- 'doorwardtop.TopGlob', WHERE WHAT IT READS IS OF BULK AT MOST 1048576: true; the input reads as it did. -/
def topGlobUptoRow : OpenClaim := { program := "ytmgngapkgcofnaa", sum := "a704b2e388584c43b90f9d828c4e16990b285b66c6d3e991e2c88840a1ee64c8", func := "doorward/doorwardtop.TopGlob", spec := "topGlob", apart := false, narrowed := true }
def TopGlobUptoSaid : Prop := topGlobUptoRow.holds Try.pinned (OpenSpec.upto topGlobSpec)

end Rows
end Go.Proofs.Ytmgngapkgcofnaa
