/- A program's bytes: plain words, and a row of bytes as a string. -/
import Derived.Test.YtmgngapkgcofnaaIns
import Derived.Laws.BytesArg
namespace Go.Proofs.Ytmgngapkgcofnaa
open Go.RowKit Go.PlainAid

def kst (K : Int) : Nat → Int
  | 0 => K
  | j + 1 => kst K j / 256
def kbs (K : Int) : Nat → List Int
  | 0 => []
  | j + 1 => kbs K j ++ [kst K j % 256]
def encI (x : Ins) : List Int := [x.op % 256, 0, x.jt % 256, x.jf % 256] ++ kbs x.k 4
def encL (l : List Ins) : List Int := l.flatMap encI
theorem kbs_length (K : Int) (j : Nat) : (kbs K j).length = j := by
  induction j with
  | zero => rfl
  | succ j ih => simp [kbs, ih]
theorem kst_range {K : Int} (h0 : 0 ≤ K) (h1 : K < 4294967296) (j : Nat) : 0 ≤ kst K j ∧ kst K j < 4294967296 := by
  induction j with
  | zero => exact ⟨h0, h1⟩
  | succ j ih => simp only [kst]; omega
theorem encI_length (x : Ins) : (encI x).length = 8 := rfl
theorem encL_length (l : List Ins) : (encL l).length = 8 * l.length := by
  induction l with
  | nil => rfl
  | cons x r ih => simp only [encL, List.flatMap_cons, List.length_append, encI_length, List.length_cons] at ih ⊢; omega
theorem encL_take {l : List Ins} {k : Nat} (h : k < l.length) : encL (l.take (k + 1)) = encL (l.take k) ++ encI l[k] := by
  unfold encL
  rw [List.take_succ_eq_append_getElem h, List.flatMap_append, List.flatMap_cons, List.flatMap_nil, List.append_nil]

abbrev u8s (xs : List Int) : List Value := xs.map (Value.int .u8)
theorem u8s_one (xs : List Int) : ∀ u ∈ u8s xs, u.oneCell' = true := by
  intro u hu
  simp only [List.mem_map] at hu
  obtain ⟨_, _, rfl⟩ := hu
  rfl
theorem u8Info : (Try.prog.info? 5).map (fun i => (i.zero, i.size, i.bytes)) = some (some (.int .u8 0), 1, 1) := by kernel_rfl

/-- 'string(b)' of a row of bytes of the call's own. -/
theorem conv_own {w : World} {base n : Nat} {v : Value} {xs : List Int} (h : w.ownsRow base 5 1 v n (u8s xs)) : (convert 131 9 v).run Try.prog w = .ok (.string (strOfNums xs)) w := by
  have hl : xs.length = n := by have := h.1; simpa using this
  rcases h.2 with ⟨rfl, hn⟩ | ⟨g, cap, cur, rfl, _, _⟩
  · obtain rfl : xs = [] := List.eq_nil_of_length_eq_zero (by omega)
    exact run_convert_bytes_nil w 131 5 Try.underlying131 Try.underlying5 0 0 9 Try.underlying9
  · refine run_convert_bytes_arg w 131 5 Try.underlying131 Try.underlying5 g 0 n cap xs hl ?_ 9 Try.underlying9
    intro i hi
    have := World.ownsRow.cells h (g := g) rfl i (.int .u8 (xs.getD i 0)) (by simp [List.getD, List.getElem?_eq_getElem (show i < xs.length by omega)])
    simp only [Nat.zero_add]
    unfold Addr.add at this
    split at this
    · next e => subst e; exact this
    · simpa using this
theorem cells4 (W : World) (b : Nat) (t : TypeId) (p q r s : Value) (c : Array Value) (hc : W.heap[b]? = some (.cells c t (0, 0))) (h : c = #[p, q, r, s]) :
    ∀ (j : Nat) (u : Value), [p, q, r, s][j]? = some u → W.cell? ((⟨b, 0, none⟩ : Addr).add j) = some u := by
  subst h
  intro j u hu
  match j, hu with
  | 0, hu | 1, hu | 2, hu | 3, hu => simp at hu; subst hu; simp [Addr.add, World.cell?, hc]

end Go.Proofs.Ytmgngapkgcofnaa
