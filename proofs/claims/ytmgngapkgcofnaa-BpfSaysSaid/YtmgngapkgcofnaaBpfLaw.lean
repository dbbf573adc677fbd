/- The plain law: bytes are a program's, if and only if each second byte of eight is 0. -/
import Derived.Test.YtmgngapkgcofnaaProgOf
namespace Go.Proofs.Ytmgngapkgcofnaa
open Go.RowKit Go.PlainAid

theorem encL_get (l : List Ins) : ∀ (i : Nat) (x : Ins), l[i]? = some x → ∀ r, r < 8 → (encL l)[8 * i + r]? = (encI x)[r]? := by
  induction l with
  | nil => intro i x hx; simp at hx
  | cons y t ih =>
    intro i x hx r hr
    have e : encL (y :: t) = encI y ++ encL t := by simp [encL]
    rw [e]
    cases i with
    | zero =>
      simp at hx
      subst hx
      rw [List.getElem?_append_left (by rw [encI_length]; omega)]
      simp
    | succ i =>
      rw [List.getElem?_append_right (by rw [encI_length]; omega), encI_length]
      have := ih i x (by simpa using hx) r hr
      rw [← this]
      congr 1
      omega
theorem enc_byte (s : ByteArray) (i r : Nat) (hr : r < 8) : (encI (insOf s i))[r]? = some (if r = 1 then 0 else bt s (8 * i + r)) := by
  have b := fun j => bt_nonneg s j
  have c := fun j => bt_le s j
  have b0 := b (8 * i); have c0 := c (8 * i)
  have b2 := b (8 * i + 2); have c2 := c (8 * i + 2)
  have b3 := b (8 * i + 3); have c3 := c (8 * i + 3)
  have b4 := b (8 * i + 4); have c4 := c (8 * i + 4)
  have b5 := b (8 * i + 5); have c5 := c (8 * i + 5)
  have b6 := b (8 * i + 6); have c6 := c (8 * i + 6)
  have b7 := b (8 * i + 7); have c7 := c (8 * i + 7)
  clear b c
  match r, hr with
  | 0, _ | 1, _ | 2, _ | 3, _ | 4, _ | 5, _ | 6, _ | 7, _ => simp [encI, insOf, kbs, kst]; try omega
theorem bt_byte (s : ByteArray) (m : Nat) (h : m < s.size) : UInt8.ofNat (bt s m).toNat = s.data.toList[m]'(by simpa using h) := by
  unfold bt
  rw [dif_pos h]
  simp
  rfl
theorem enc_same {s : ByteArray} {n : Nat} (hn : s.size = 8 * n) : strOfNums (encL (insList s n)) = s ↔ clean s n := by
  have hget : ∀ i r, i < n → r < 8 → (encL (insList s n))[8 * i + r]? = some (if r = 1 then 0 else bt s (8 * i + r)) := by
    intro i r hi hr
    rw [encL_get (insList s n) i (insOf s i) (by simp [insList, hi]) r hr, enc_byte s i r hr]
  have hlen : (encL (insList s n)).length = 8 * n := by rw [encL_length, insList_length]
  constructor
  · intro h j hj
    have h1 : (strOfNums (encL (insList s n))).data.toList[8 * j + 1]? = s.data.toList[8 * j + 1]? := by rw [h]
    rw [strOfNums_data, List.getElem?_map, hget j 1 hj (by omega)] at h1
    have hl : s.data.toList.length = s.size := by rw [Array.length_toList]; rfl
    have h2 : 8 * j + 1 < s.data.toList.length := by omega
    rw [List.getElem?_eq_getElem h2] at h1
    simp only [if_true, Option.map_some, Option.some.injEq] at h1
    have h3 := bt_byte s (8 * j + 1) (by omega)
    rw [← h1] at h3
    have a0 := bt_nonneg s (8 * j + 1)
    have a1 := bt_le s (8 * j + 1)
    have h4 : (UInt8.ofNat (bt s (8 * j + 1)).toNat).toNat = (UInt8.ofNat (0 : Int).toNat).toNat := by rw [h3]
    simp at h4
    omega
  · intro h
    have hd : (strOfNums (encL (insList s n))).data.toList = s.data.toList := by
      rw [strOfNums_data]
      apply List.ext_getElem?
      intro m
      have hl : s.data.toList.length = s.size := by rw [Array.length_toList]; rfl
      rcases Nat.lt_or_ge m (8 * n) with hm | hm
      · have e : m = 8 * (m / 8) + m % 8 := by omega
        have hi : m / 8 < n := by omega
        have hg := hget (m / 8) (m % 8) hi (by omega)
        rw [← e] at hg
        rw [List.getElem?_map, hg, List.getElem?_eq_getElem (by omega), ← bt_byte s m (by omega)]
        simp only [Option.map_some, Option.some.injEq]
        split
        · next h1 => have := h (m / 8) hi; rw [show 8 * (m / 8) + 1 = m from by omega] at this; rw [this]
        · rfl
      · rw [List.getElem?_eq_none (by simp [hlen]; omega), List.getElem?_eq_none (by omega)]
    obtain ⟨⟨x⟩⟩ := s
    show strOfNums _ = _
    have : (strOfNums (encL (insList ⟨⟨x⟩⟩ n))).data = (⟨x⟩ : Array UInt8) := Array.ext' hd
    generalize strOfNums (encL (insList ⟨⟨x⟩⟩ n)) = y at this
    obtain ⟨y⟩ := y
    simp at this
    rw [this]
/-- THE LAW: what Parse reads is what the reference says. -/
theorem parse_eq_prog (s : ByteArray) : parseF s = progF s := by
  unfold parseF progF
  split
  · rfl
  · next h =>
    have hn : s.size = 8 * (s.size / 8) := by omega
    have he := enc_same hn
    by_cases h1 : clean s (s.size / 8)
    · rw [if_pos h1]
      by_cases h2 : checkF (insList s (s.size / 8)) = 0
      · rw [if_pos h2, if_pos ⟨h2, he.2 h1⟩]
      · rw [if_neg h2, if_neg (fun h => h2 h.1)]
    · rw [if_neg h1, if_neg (fun h => h1 (he.1 h.2))]

end Go.Proofs.Ytmgngapkgcofnaa
