/- The reference's GlobFault and Match; likes: the walks. -/
import Derived.Test.YtmgngapkgcofnaaGreatDoorP43
namespace Go.Proofs.YtmgngapkgcofnaaGreatDoor
open Go.RowKit Go.PlainAid

theorem partsB_short : ∀ (n : Nat) (l : List Int) (ps : List (List Int × Part)), partsB n l = some ps → ∀ x ∈ ps, l.length ≤ 4096 → x.1.length ≤ 4096 := by
  intro n
  induction n with
  | zero => intro l ps h; rcases l with _ | ⟨c, r⟩ <;> simp [partsB] at h; subst h; simp
  | succ n ih =>
    intro l ps h
    rcases l with _ | ⟨c, r⟩
    · simp [partsB] at h; subst h; simp
    · simp only [partsB] at h
      cases hp : partL (c :: r) with
      | none => simp [hp] at h
      | some x =>
        simp only [hp, Option.bind_some, Option.map_eq_some_iff] at h
        obtain ⟨qs, h1, rfl⟩ := h
        intro y hy hlen
        have hl := partL_len (p := x.1) (r := x.2) hp
        rcases List.mem_cons.1 hy with rfl | hy
        · simp only [List.length_take]; omega
        · exact ih _ _ h1 y hy (by omega)
theorem pieces_yes (s : ByteArray) (w : World) (hs : s.size ≤ 4096) {ps : List (List Int × Part)} (h : partsP (bytesOf s) = some ps) :
    Calls Tryz.prog 67 #[.string s] w fun e w' => ∃ (v : Value) (ls : List ByteArray), e = .returned (.tuple #[v, .bool (decide (0 < ps.length))]) ∧ ls.map bytesOf = ps.map (·.1) ∧ w'.ownsRow w.heap.size 9 1 v ps.length (ls.map Value.string) ∧ Below w.heap.size w w' :=
  (pieces_any s w hs).mono fun e w' ⟨h1, h2⟩ => by
    unfold PiecesR at h1
    rw [h] at h1
    obtain ⟨v, ls, h3, h4, h5⟩ := h1
    exact ⟨v, ls, h3, h4, h5, h2⟩
theorem pieces_no (s : ByteArray) (w : World) (hs : s.size ≤ 4096) (h : partsP (bytesOf s) = none) :
    Calls Tryz.prog 67 #[.string s] w fun e w' => e = .returned (.tuple #[.slice none 0 0, .bool false]) ∧ Below w.heap.size w w' :=
  (pieces_any s w hs).mono fun e w' ⟨h1, h2⟩ => by
    unfold PiecesR at h1
    rw [h] at h1
    exact ⟨h1, h2⟩
theorem partsP_pos {l : List Int} {ps : List (List Int × Part)} (h : partsP l = some ps) (hl : l ≠ []) : 0 < ps.length := by
  rw [partsP_cons hl] at h
  cases hp : partL l with
  | none => simp [hp] at h
  | some x =>
    simp only [hp, Option.bind_some, Option.map_eq_some_iff] at h
    obtain ⟨qs, _, rfl⟩ := h
    simp

set_option maxHeartbeats 1000000 in
theorem globFault_any (p : ByteArray) (w : World) (hsB : p.size ≤ 100000) :
    Calls Tryz.prog 51 #[.string p] w fun e w' => e = .returned (.int .i64 (globF (bytesOf p))) ∧ Below w.heap.size w w' := by
  by_cases h24 : 24 < p.size
  · have HF : Hid (globF (bytesOf p) = 2) := by show _ = _; unfold globF; rw [bytesOf_length, if_pos h24]
    have k : (24 : Int) < (p.size : Int) := by omega
    clear h24
    go_enter Tryz.func51, Tryz.ntmps51
    go_wp2_with fail
    go_ret
    exact ⟨by rw [HF.out]; rfl, Below.refl _ _⟩
  · have hs : p.size ≤ 4096 := by omega
    have k : ¬ (24 : Int) < (p.size : Int) := by omega
    cases hp : partsP (bytesOf p) with
    | none =>
      have hne : bytesOf p ≠ [] := by intro h; rw [h] at hp; simp [partsP_nil] at hp
      have HF : Hid (globF (bytesOf p) = 4) := by show _ = _; unfold globF; rw [bytesOf_length, if_neg h24, if_neg hne, partsF_eq, hp]; rfl
      have HP := Lib.hid hp
      clear h24 hp hne
      go_enter Tryz.func51, Tryz.ntmps51
      go_wp2_with (go_at_call 67; refine (pieces_no _ _ hs HP.out).mono ?_; rintro e w1 ⟨rfl, hb⟩)
      go_ret
      exact ⟨by rw [HF.out]; rfl, hb⟩
    | some ps =>
      rcases Nat.eq_zero_or_pos ps.length with h0 | h0
      · have he : bytesOf p = [] := by
          rcases hb : bytesOf p with _ | ⟨c, r⟩
          · rfl
          · have := partsP_pos hp (by rw [hb]; simp); omega
        have HF : Hid (globF (bytesOf p) = 4) := by show _ = _; unfold globF; rw [bytesOf_length, if_neg h24, if_pos he]
        have HP := Lib.hid hp
        have hd : decide (0 < ps.length) = false := by rw [h0]; rfl
        have HD := Lib.hid hd
        clear h24 hp he h0 hd
        go_enter Tryz.func51, Tryz.ntmps51
        go_wp2_with (go_at_call 67; refine (pieces_yes _ _ hs HP.out).mono ?_; rintro e w1 ⟨v, ls, rfl, hls, hown, hb⟩; rw [HD.out]; have HL := Lib.hid hls; have HO := Lib.hid hown; clear hls hown)
        go_ret
        exact ⟨by rw [HF.out]; rfl, hb⟩
      · have hne : bytesOf p ≠ [] := by intro h; rw [h, partsP_nil] at hp; simp at hp; subst hp; simp at h0
        have HF : Hid (globF (bytesOf p) = 0) := by show _ = _; unfold globF; rw [bytesOf_length, if_neg h24, if_neg hne, partsF_eq, hp]; rfl
        have HP := Lib.hid hp
        have hd : decide (0 < ps.length) = true := decide_eq_true h0
        have HD := Lib.hid hd
        clear h24 hp hne h0 hd
        go_enter Tryz.func51, Tryz.ntmps51
        go_wp2_with (go_at_call 67; refine (pieces_yes _ _ hs HP.out).mono ?_; rintro e w1 ⟨v, ls, rfl, hls, hown, hb⟩; rw [HD.out]; have HL := Lib.hid hls; have HO := Lib.hid hown; clear hls hown)
        go_ret
        exact ⟨by rw [HF.out]; rfl, hb⟩

theorem globF_cases (l : List Int) : globF l = 0 ∨ globF l = 2 ∨ globF l = 4 := by
  unfold globF
  split
  · exact .inr (.inl rfl)
  · split
    · exact .inr (.inr rfl)
    · split
      · exact .inl rfl
      · exact .inr (.inr rfl)

set_option maxHeartbeats 1000000 in
theorem refMatch_any (p s : ByteArray) (w : World) (hp : p.size ≤ 4096) (hs : s.size ≤ 100000) :
    Calls Tryz.prog 43 #[.string p, .string s] w fun e w' => e = .returned (.bool (matchB p s)) ∧ Below w.heap.size w w' := by
  by_cases h0 : globF (bytesOf p) = 0
  · obtain ⟨l, hl, h24, hne⟩ := globF_parts h0
    have HM : Hid (matchB p s = Mk l (byteN s) l.length s.size) := matchB_some h0 hl
    have HF := Lib.hid h0
    cases hpp : partsP (bytesOf p) with
    | none => rw [partsF_eq, hpp] at hl; simp at hl
    | some ps =>
      have hl2 : ps.map (·.2) = l := by rw [partsF_eq, hpp] at hl; simpa using hl
      have hpos := partsP_pos hpp hne
      have hpl : ps.length ≤ 24 := by have := partsF_length hl; rw [← hl2, List.length_map] at this; omega
      have hpi := partsB_pieces _ _ _ hpp
      have HPP := Lib.hid hpp
      have HPI := Lib.hid hpi
      have HL2 := Lib.hid hl2
      have hd : decide (0 < ps.length) = true := decide_eq_true hpos
      have HD := Lib.hid hd
      have hps : Hid (∀ x ∈ ps, x.1.length ≤ 4096) := by
        intro x hx
        obtain ⟨r, hr⟩ := hpi x hx
        exact partsB_short _ _ _ hpp x hx (by rw [bytesOf_length]; omega)
      clear h0 hl h24 hne hpp hl2 hpi hd
      go_enter Tryz.func43, Tryz.ntmps43
      go_upto_region 4 with (first
        | (go_at_call 51; refine (globFault_any _ _ (Nat.le_trans hp (by decide))).mono ?_; rintro e w1 ⟨rfl, hb1⟩; rw [HF.out])
        | (go_at_call 67; refine (pieces_yes _ _ hp HPP.out).mono ?_; rintro e w2 ⟨v, ls, rfl, hls, hown, hb2⟩; rw [HD.out]; have HLS := Lib.hid hls; have HO := Lib.hid hown; clear hls hown))
      obtain ⟨g, cap, rfl, hg, hg2, hst⟩ := strs_of_own HO.out hpos
      have hlen : ls.length = ps.length := by have := congrArg List.length HLS.out; simpa using this
      have hlL : ls.length = l.length := by rw [hlen, ← HL2.out, List.length_map]
      have HLK : Hid (∀ w0 : World, StrsAt w0 g ls → g < w0.heap.size → Calls Tryz.prog 68 #[.slice (some ⟨g, 0, none⟩) ps.length cap, .string s] w0 fun e w' => e = .returned (.bool (Mk l (byteN s) l.length s.size)) ∧ Below w0.heap.size w0 w') := by
        intro w0 h1 h2
        rw [← hlen]
        refine like_any g cap ls l s w0 hlL (by omega) ?_ hs ?_ h1 h2
        · intro a ha
          obtain ⟨k, hk, rfl⟩ := List.getElem_of_mem ha
          have h3 : (ls.map bytesOf)[k]? = some (bytesOf ls[k]) := by simp [hk]
          rw [HLS.out, List.getElem?_map] at h3
          obtain ⟨x, hx, hx2⟩ := Option.map_eq_some_iff.1 h3
          have := hps.out x (List.mem_of_getElem? hx)
          rw [hx2, bytesOf_length] at this
          exact this
        · intro k a P ha hP
          have h3 : (ls.map bytesOf)[k]? = some (bytesOf a) := by simp [ha]
          rw [HLS.out, List.getElem?_map] at h3
          obtain ⟨x, hx, hx2⟩ := Option.map_eq_some_iff.1 h3
          rw [← HL2.out, List.getElem?_map, hx] at hP
          simp at hP
          have := HPI.out x (List.mem_of_getElem? hx)
          rw [hx2, hP] at this
          exact this
      have HS := Lib.hid hst
      have hb : Below w.heap.size w w2 := hb1.trans (hb2.mono hb1.size)
      clear hst HO hlen hlL HLS HPI hps HL2 HPP HD hb1 hb2
      go_wp2_with (go_at_call 68; refine (HLK.out _ HS.out hg2).mono ?_; rintro e w3 ⟨rfl, hb3⟩)
      go_ret
      exact ⟨by rw [HM.out]; rfl, hb.trans (hb3.mono hb.size)⟩
  · have HM : Hid (matchB p s = false) := by show _ = _; unfold matchB; rw [if_pos h0]
    have hk : 0 < globF (bytesOf p) := by rcases globF_cases (bytesOf p) with h | h | h <;> omega
    clear h0
    generalize hgl : globF (bytesOf p) = G at *
    have HGL := Lib.hid hgl
    clear hgl
    go_enter Tryz.func43, Tryz.ntmps43
    go_wp2_with (go_at_call 51; refine (globFault_any _ _ (Nat.le_trans hp (by decide))).mono ?_; rintro e w1 ⟨rfl, hb1⟩; rw [HGL.out])
    go_ret
    exact ⟨by rw [HM.out]; rfl, hb1⟩

def likeP : ByteArray := ⟨#[47, 97, 47, 42, 46, 98]⟩
theorem like_yes (w : World) : Calls Tryz.prog 60 #[.string ⟨#[47, 97, 47, 42, 46, 98]⟩, .string ⟨#[47, 97, 47, 120, 46, 98]⟩] w fun e w' => e = .returned (.bool true) ∧ Below w.heap.size w w' := by
  have := globMatch_any ⟨#[47, 97, 47, 42, 46, 98]⟩ ⟨#[47, 97, 47, 120, 46, 98]⟩ w (by decide +kernel) (by decide +kernel)
  rw [show matchB ⟨#[47, 97, 47, 42, 46, 98]⟩ ⟨#[47, 97, 47, 120, 46, 98]⟩ = true from by decide +kernel] at this
  exact this
theorem like_not (w : World) : Calls Tryz.prog 60 #[.string ⟨#[47, 97, 47, 42, 46, 98]⟩, .string ⟨#[47, 97, 47, 120, 47, 121, 46, 98]⟩] w fun e w' => e = .returned (.bool false) ∧ Below w.heap.size w w' := by
  have := globMatch_any ⟨#[47, 97, 47, 42, 46, 98]⟩ ⟨#[47, 97, 47, 120, 47, 121, 46, 98]⟩ w (by decide +kernel) (by decide +kernel)
  rw [show matchB ⟨#[47, 97, 47, 42, 46, 98]⟩ ⟨#[47, 97, 47, 120, 47, 121, 46, 98]⟩ = false from by decide +kernel] at this
  exact this
end Go.Proofs.YtmgngapkgcofnaaGreatDoor
