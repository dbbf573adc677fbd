/- bpf.Bytes. -/
import Derived.Test.YtmgngapkgcofnaaEnc
namespace Go.Proofs.Ytmgngapkgcofnaa
open Go.RowKit Go.PlainAid

theorem cells8 (W : World) (b : Nat) (t : TypeId) (a0 a1 a2 a3 a4 a5 a6 a7 : Value) (hc : W.heap[b]? = some (.cells #[a0, a1, a2, a3, a4, a5, a6, a7] t (0, 0))) :
    ∀ (j : Nat) (u : Value), [a0, a1, a2, a3, a4, a5, a6, a7][j]? = some u → W.cell? ((⟨b, 0, none⟩ : Addr).add j) = some u := by
  intro j u hu
  match j, hu with
  | 0, hu | 1, hu | 2, hu | 3, hu | 4, hu | 5, hu | 6, hu | 7, hu => simp at hu; subst hu; simp [Addr.add, World.cell?, hc]

theorem enc8 {op jt jf kk : Int} (h0 : 0 ≤ kk) (h1 : kk < 4294967296) : encI ⟨op, jt, jf, kk⟩ = [op % 256, 0, jt % 256, jf % 256, kk % 256, kk / 256 % 256, kk / 65536 % 256, kk / 16777216] := by
  simp only [encI, kbs, kst, List.nil_append, List.cons_append, List.cons.injEq, and_true, true_and]
  omega
theorem new_two (w : World) (a b : Obj) : ((w.alloc a).alloc b).heap[w.heap.size + 1]? = some b := by
  have := heap_alloc_new (w.alloc a) b
  simpa using this

set_option maxRecDepth 100000 in
set_option maxHeartbeats 2000000 in
theorem bytes_ok (v : Value) (l : List Ins) (w : World) (hr : InsSl w w.heap.size v l) (hf : checkF l = 0) (hlen : l.length ≤ 4096) :
    Calls Try.prog 24 #[v] w fun e w' => e = .returned (.tuple #[.string (strOfNums (encL l)), .nilIface]) ∧ Below w.heap.size w w' := by
  obtain ⟨i0, hi, hz0, hz1, hz2⟩ := info_parts u8Info
  have HCk : Hid (Calls Try.prog 26 #[v] w fun e w' => e = .returned .nilIface ∧ Below w.heap.size w w') :=
    (check_any _ l _ hr (by omega)).mono fun _ _ ⟨h1, h2⟩ => ⟨by rw [h1, hf]; rfl, h2⟩
  obtain ⟨hok, A, c, rfl, hr⟩ := hr
  have HR := Lib.hid hr
  have HO : Hid (∀ x ∈ l, x.ok) := hok
  clear hr hok hf
  go_enter Try.func24, Try.ntmps24
  go_wp2_with (go_at_call 26; refine HCk.out.mono ?_; rintro e w1 ⟨rfl, hb1⟩)
  clear HCk
  go_loopw [5, 15] (fun v i wr => ∃ k : Nat, k ≤ l.length ∧ i = .int .i64 k ∧ Below w.heap.size w wr ∧ wr.ownsRow w.heap.size 5 1 v (8 * k) (u8s (encL (l.take k)))) (fun _ i _ => l.length - (intOf i).toNat)
  case atStart => exact ⟨0, Nat.zero_le _, rfl, hb1, World.ownsRow_nil _ _ _ _⟩
  case round =>
    obtain ⟨k, hk, rfl, hb, hown⟩ := hrel
    by_cases hlt : k < l.length
    · obtain ⟨b, o, rfl, hB, hrow⟩ := HR.out.resolve_left (by rintro rfl; simp at hlt)
      have hx := (hrow.below hb hB) k l[k] (by simp)
      have hok' := HO.out l[k] (by simp)
      have HT := Lib.hid (encL_take hlt)
      generalize l[k] = x at *
      obtain ⟨op, jt, jf, kk⟩ := x
      obtain ⟨g0, g1, g2, g3⟩ := hx
      obtain ⟨hk1, hk2⟩ := hok'
      simp only at g0 g1 g2 g3 hk1 hk2
      have hbs := hb.size
      have hbs2 : w.heap.size ≤ wr.heap.size + 1 + 1 := by omega
      go_wp2_with (at_builtin; refine wpList_append_own _ rfl _ _ _ rfl w.heap.size 5 i0 _ 1 1 Try.underlying131 hi hz0 hz1 hz2 rfl (by omega) _ _ _ rfl ((hown.alloc _).alloc _) ⟨wr.heap.size + 1, 0, none⟩ 8 8 _ rfl rfl (cells8 _ _ _ _ _ _ _ _ _ _ _ (new_two _ _ _)) (by simp [Value.oneCell']) (by unfold maxLen; omega) (by omega) (by simp; omega) ?_; intro v' w2 hown2 hgrow2 _)
      have hb4 : Below w.heap.size w w2 := ((hb.alloc hbs _).alloc (by simp; omega) _).grown hgrow2 (by simp; omega) (own_ge hown)
      have HE := Lib.hid (enc8 (op := op) (jt := jt) (jf := jf) hk1 hk2)
      clear hgrow2 hown hb
      go_wp2
      go_roundw
      case rel =>
        refine ⟨k + 1, by omega, by go_num, hb4, ?_⟩
        rw [HT.out, HE.out, u8s, List.map_append]
        exact hown2
      case measure => simp [intOf]; omega
    · obtain rfl : k = l.length := by omega
      rw [List.take_length] at hown
      have hc := conv_own hown
      clear hown
      go_wp2
      go_ret2
      exact ⟨rfl, hb⟩
theorem bytes_bad (v : Value) (l : List Ins) (w : World) (hr : InsSl w w.heap.size v l) (hf : ¬ checkF l = 0) (hlen : l.length ≤ 140737488355328) :
    Calls Try.prog 24 #[v] w fun e w' => e = .returned (.tuple #[.string ⟨#[]⟩, .iface 114 (.int .i64 (checkF l))]) ∧ Below w.heap.size w w' := by
  have HCk : Hid (Calls Try.prog 26 #[v] w fun e w' => e = .returned (.iface 114 (.int .i64 (checkF l))) ∧ Below w.heap.size w w') :=
    (check_any _ l _ hr hlen).mono fun _ _ ⟨h1, h2⟩ => ⟨by rw [h1, errV_pos hf], h2⟩
  obtain ⟨_, A, c, rfl, _⟩ := hr
  clear hf
  generalize checkF l = z at *
  go_enter Try.func24, Try.ntmps24
  go_wp2_with (go_at_call 26; refine HCk.out.mono ?_; rintro e w1 ⟨rfl, hb1⟩)
  go_ret2
  exact ⟨rfl, hb1⟩

end Go.Proofs.Ytmgngapkgcofnaa
