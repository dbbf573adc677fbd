/- The plain law: a program that Check lets through is read back out of its bytes. -/
import Derived.Test.YtmgngapkgcofnaaBpfLaw
import Derived.Test.YtmgngapkgcofnaaRun
namespace Go.Proofs.Ytmgngapkgcofnaa
open Go.RowKit Go.PlainAid

theorem bt_nums {xs : List Int} {m : Nat} {x : Int} (h : xs[m]? = some x) (h0 : 0 ≤ x) (h1 : x ≤ 255) : bt (strOfNums xs) m = x := by
  have hm : m < xs.length := by
    rcases Nat.lt_or_ge m xs.length with h2 | h2
    · exact h2
    · rw [List.getElem?_eq_none h2] at h; cases h
  have hs : m < (strOfNums xs).size := by rw [strOfNums_size]; exact hm
  unfold bt
  rw [dif_pos hs]
  have e : (strOfNums xs)[m] = UInt8.ofNat x.toNat := by
    have h3 : (strOfNums xs).data.toList[m]? = some (UInt8.ofNat x.toNat) := by rw [strOfNums_data, List.getElem?_map, h]; rfl
    have h4 : (strOfNums xs).data[m]? = some (UInt8.ofNat x.toNat) := by simpa using h3
    have h5 := Array.getElem?_eq_some_iff.1 h4
    exact h5.2
  rw [e]
  simp
  omega
theorem back_ins {l : List Ins} (hok : ∀ x ∈ l, x.ok) (hsc : scanF l = 0) (i : Nat) (h : i < l.length) : insOf (strOfNums (encL l)) i = l[i] ∧ bt (strOfNums (encL l)) (8 * i + 1) = 0 := by
  have hf := fine_at hok hsc i h
  obtain ⟨k0, k1⟩ := hok _ (List.getElem_mem h)
  have hg := fun r hr => encL_get l i l[i] (List.getElem?_eq_getElem h) r hr
  generalize l[i] = x at *
  obtain ⟨op, jt, jf, k⟩ := x
  obtain ⟨⟨o1, o2⟩, ⟨j1, j2⟩, ⟨j3, j4⟩, _, _, _⟩ := hf
  simp only at k0 k1 o1 o2 j1 j2 j3 j4
  have g0 := bt_nums (xs := encL l) (m := 8 * i) (x := op % 256) (by have := hg 0 (by omega); simpa [encI] using this) (by omega) (by omega)
  have g1 := bt_nums (xs := encL l) (m := 8 * i + 1) (x := 0) (by have := hg 1 (by omega); simpa [encI] using this) (by omega) (by omega)
  have g2 := bt_nums (xs := encL l) (m := 8 * i + 2) (x := jt % 256) (by have := hg 2 (by omega); simpa [encI] using this) (by omega) (by omega)
  have g3 := bt_nums (xs := encL l) (m := 8 * i + 3) (x := jf % 256) (by have := hg 3 (by omega); simpa [encI] using this) (by omega) (by omega)
  have g4 := bt_nums (xs := encL l) (m := 8 * i + 4) (x := k % 256) (by have := hg 4 (by omega); simpa [encI, kbs, kst] using this) (by omega) (by omega)
  have g5 := bt_nums (xs := encL l) (m := 8 * i + 5) (x := k / 256 % 256) (by have := hg 5 (by omega); simpa [encI, kbs, kst] using this) (by omega) (by omega)
  have g6 := bt_nums (xs := encL l) (m := 8 * i + 6) (x := k / 256 / 256 % 256) (by have := hg 6 (by omega); simpa [encI, kbs, kst] using this) (by omega) (by omega)
  have g7 := bt_nums (xs := encL l) (m := 8 * i + 7) (x := k / 256 / 256 / 256 % 256) (by have := hg 7 (by omega); simpa [encI, kbs, kst] using this) (by omega) (by omega)
  refine ⟨?_, g1⟩
  unfold insOf
  rw [g0, g2, g3, g4, g5, g6, g7, Ins.mk.injEq]
  omega
theorem back_list {l : List Ins} (hok : ∀ x ∈ l, x.ok) (hsc : scanF l = 0) : insList (strOfNums (encL l)) l.length = l := by
  apply List.ext_getElem
  · exact insList_length _ _
  · intro i h1 h2
    simp only [insList, List.getElem_map, List.getElem_range]
    exact (back_ins hok hsc i h2).1
theorem back_size (l : List Ins) : (strOfNums (encL l)).size = 8 * l.length := by rw [strOfNums_size, encL_length]
theorem parse_back {l : List Ins} (hok : ∀ x ∈ l, x.ok) (hf : checkF l = 0) : parseF (strOfNums (encL l)) = some l := by
  obtain ⟨h0, h1, hsc, _⟩ := check_ok hf
  have hs := back_size l
  have hd : (strOfNums (encL l)).size / 8 = l.length := by omega
  unfold parseF
  rw [if_neg (by omega), hd, if_pos (show clean (strOfNums (encL l)) l.length from fun j hj => (back_ins hok hsc j hj).2), back_list hok hsc, if_pos hf]

end Go.Proofs.Ytmgngapkgcofnaa
