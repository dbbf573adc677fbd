/- Package bpf and its reference: the contracts of branch, one, Check, ProgramFault. -/
import Derived.Test.YtmgngapkgcofnabGreatDoorP01
namespace Go.Proofs.YtmgngapkgcofnabGreatDoor
open Go.RowKit
structure Ins where
 op : Int
 jt : Int
 jf : Int
 k : Int
deriving DecidableEq
def Ins.v (x : Ins) : Value := .agg #[.int .i64 x.op, .int .i64 x.jt, .int .i64 x.jf, .int .u32 x.k]
def Ins.ok (x : Ins) : Prop := 0 ≤ x.k ∧ x.k < 4294967296
def InsRow (w : World) (b o : Nat) (l : List Ins) : Prop :=
 ∀ i x, l[i]? = some x → w.cell? ⟨b, o + i * 4, none⟩ = some (.int .i64 x.op) ∧ w.cell? ⟨b, o + i * 4 + 1, none⟩ = some (.int .i64 x.jt) ∧
  w.cell? ⟨b, o + i * 4 + 2, none⟩ = some (.int .i64 x.jf) ∧ w.cell? ⟨b, o + i * 4 + 3, none⟩ = some (.int .u32 x.k)
theorem InsRow.below {w w' : World} {B b o : Nat} {l : List Ins} (h : InsRow w b o l) (hb : Below B w w') (hB : b < B) : InsRow w' b o l := fun i x hx => by
 obtain ⟨a, b, c, d⟩ := h i x hx; exact ⟨(hb.cell (p := ⟨_, _, none⟩) hB).trans a, (hb.cell (p := ⟨_, _, none⟩) hB).trans b, (hb.cell (p := ⟨_, _, none⟩) hB).trans c, (hb.cell (p := ⟨_, _, none⟩) hB).trans d⟩
def InsSl (w : World) (B : Nat) (v : Value) (l : List Ins) : Prop :=
 (∀ x ∈ l, x.ok) ∧ ∃ A c, v = .slice A l.length c ∧ (l = [] ∨ ∃ b o, A = some ⟨b, o, none⟩ ∧ b < B ∧ InsRow w b o l)
theorem InsSl.below {w w' : World} {B : Nat} {v : Value} {l : List Ins} (h : InsSl w B v l) (hb : Below B w w') : InsSl w' B v l := by
 obtain ⟨h0, A, c, h1, h2⟩ := h; refine ⟨h0, A, c, h1, h2.imp id ?_⟩; rintro ⟨b, o, ha, hB, hr⟩; exact ⟨b, o, ha, hB, hr.below hb hB⟩
theorem InsSl.mono {w : World} {B B' : Nat} {v : Value} {l : List Ins} (h : InsSl w B v l) (hb : B ≤ B') : InsSl w B' v l := by
 obtain ⟨h0, A, c, h1, h2⟩ := h; refine ⟨h0, A, c, h1, h2.imp id ?_⟩; rintro ⟨b, o, ha, hB, hr⟩; exact ⟨b, o, ha, by omega, hr⟩
theorem branch_any (op : Int) (w : World) :
  Calls Tryz.prog 210 #[.int .i64 op] w fun e w' => e = .returned (.bool (decide (4 ≤ op) && decide (op ≤ 7))) ∧ w = w' := by
 go_enter Tryz.func210, Tryz.ntmps210
 go_wp2
 all_goals go_ret
 ·rename_i h; exact ⟨by simp [h], rfl⟩
 ·rename_i h; refine ⟨?_, rfl⟩; rw [decide_eq_false (p := 4 ≤ op) (by omega)]; rfl
def oneF (op jt jf k b : Int) : Int :=
 if op < 1 ∨ 8 < op ∨ jt < 0 ∨ 255 < jt ∨ jf < 0 ∨ 255 < jf then 1
 else if ¬ (4 ≤ op ∧ op ≤ 7) ∧ 0 < jt + jf then 3
 else if op = 1 ∧ (0 < k % 4 ∨ 40 ≤ k) then 1
 else if op = 3 ∧ b ≤ k then 1
 else if (4 ≤ op ∧ op ≤ 7) ∧ b ≤ max jt jf then 1
 else 0
set_option maxHeartbeats 400000 in
theorem one_any (op jt jf k b : Int) (w : World) (hk : 0 ≤ k) (hk2 : k < 4294967296) :
    Calls Tryz.prog 183 #[.agg #[.int .i64 op, .int .i64 jt, .int .i64 jf, .int .u32 k], .int .i64 b] w fun e w' => e = .returned (errV (oneF op jt jf k b)) ∧ Below w.heap.size w w' := by
  go_enter Tryz.func183, Tryz.ntmps183
  go_wp2_with (go_at_call 210; refine (branch_any _ _).mono ?_; rintro e w' ⟨rfl, rfl⟩)
  all_goals first
    | (exfalso; omega)
    | (go_ret
       refine ⟨?_, (Below.refl _ _).alloc (Nat.le_refl _) _⟩
       unfold errV oneF
       repeat' split
       all_goals first | rfl | (exfalso; omega))
def scanF : List Ins → Int
 | [] => 0
 | x :: r => if oneF x.op x.jt x.jf x.k r.length = 0 then scanF r else oneF x.op x.jt x.jf x.k r.length
def checkF (l : List Ins) : Int :=
 if l.length = 0 ∨ 4096 < l.length then 2 else if scanF l ≠ 0 then scanF l else if (l[l.length - 1]?).map (·.op) = some 8 then 0 else 3
theorem scanF_drop {l : List Ins} {k : Nat} (h : k < l.length) : scanF (l.drop k) =
  if oneF l[k].op l[k].jt l[k].jf l[k].k ((l.length : Int) - 1 - k) = 0 then scanF (l.drop (k + 1)) else oneF l[k].op l[k].jt l[k].jf l[k].k ((l.length : Int) - 1 - k) := by
 rw [List.drop_eq_getElem_cons h, scanF]; have : (((l.drop (k + 1)).length : Nat) : Int) = (l.length : Int) - 1 - k := by rw [List.length_drop]; omega
 rw [this]
theorem oneF_range (op jt jf k b : Int) : oneF op jt jf k b = 0 ∨ oneF op jt jf k b = 1 ∨ oneF op jt jf k b = 3 := by
 unfold oneF
 repeat' split
 all_goals simp
set_option maxHeartbeats 400000 in
theorem check_any (v : Value) (l : List Ins) (w : World) (hr : InsSl w w.heap.size v l) (hlen : l.length ≤ 140737488355328) :
  Calls Tryz.prog 143 #[v] w fun e w' => e = .returned (errV (checkF l)) ∧ Below w.heap.size w w' := by
 obtain ⟨hok, A, c, rfl, hr⟩ := hr
 by_cases h0 : l.length = 0
 ·have HF : Hid (checkF l = 2) := by show checkF l = 2; unfold checkF; rw [if_pos (Or.inl h0)]
  have h0' : ((l.length : Int) == 0) = true := by simp [h0]
  clear h0 hr hok hlen; go_enter Tryz.func143, Tryz.ntmps143
  go_wp2
  go_ret; exact ⟨by rw [HF.out]; rfl, Below.refl _ _⟩
 by_cases h1 : 4096 < l.length
 ·have HF : Hid (checkF l = 2) := by show checkF l = 2; unfold checkF; rw [if_pos (Or.inr h1)]
  have h0' : ((l.length : Int) == 0) = false := beq_eq_false_iff_ne.2 (by omega); have h1' : decide (4096 < (l.length : Int)) = true := by simp; omega
  clear h0 hr hok; go_enter Tryz.func143, Tryz.ntmps143
  go_wp2
  go_ret; exact ⟨by rw [HF.out]; rfl, Below.refl _ _⟩
 have hC : checkF l = if scanF l ≠ 0 then scanF l else if (l[l.length - 1]?).map (·.op) = some 8 then 0 else 3 := by
  unfold checkF; rw [if_neg (by omega)]
 have HC := Lib.hid hC; clear hC; obtain ⟨b, o, rfl, hB, hrow⟩ := hr.resolve_left (by intro e; rw [e] at h0; exact h0 rfl); clear hr; have h0' : ((l.length : Int) == 0) = false := beq_eq_false_iff_ne.2 (by omega); have h1' : decide (4096 < (l.length : Int)) = false := by simp; omega
 have HR : Hid (InsRow w b o l) := hrow; have HO : Hid (∀ x ∈ l, x.ok) := hok; clear hrow hok; go_enter Tryz.func143, Tryz.ntmps143
 go_wp2
 go_loopw [17] (fun i wr => ∃ k : Nat, k ≤ l.length ∧ i = .int .i64 k ∧ Below w.heap.size w wr ∧ Hid (scanF l = scanF (l.drop k))) (fun i _ => l.length - (intOf i).toNat)
 case atStart => exact ⟨0, Nat.zero_le _, rfl, Below.refl _ _, rfl⟩
 case round =>
  obtain ⟨k, hk, rfl, hb, HS⟩ := hrel
  by_cases hlt : k < l.length
  ·have hx := (HR.out.below hb hB) k l[k] (by simp); have hok' := HO.out l[k] (by simp); have HD := Lib.hid (scanF_drop hlt); have hrg := oneF_range l[k].op l[k].jt l[k].jf l[k].k ((l.length : Int) - 1 - k); generalize l[k] = x at *
   obtain ⟨op, jt, jf, kk⟩ := x; obtain ⟨g0, g1, g2, g3⟩ := hx; obtain ⟨hk1, hk2⟩ := hok'; simp only at g0 g1 g2 g3 hk1 hk2 hrg
   by_cases he : oneF op jt jf kk ((l.length : Int) - 1 - k) = 0
   ·have HE := Lib.hid he; clear he hrg
    go_wp2_with (go_at_call 183; refine (one_any _ _ _ _ _ _ (by assumption) (by assumption)).mono ?_; rintro e w' ⟨rfl, hb'⟩; have hb2 := below_box hb (Nat.le_refl _) hb'; clear hb'; rw [HE.out, errV_zero])
    go_roundw
    case rel => exact ⟨k + 1, by omega, by go_num, by assumption, by show scanF l = _; rw [HS.out, HD.out, if_pos HE.out]⟩
    case measure => simp [intOf]; omega
   ·have HF : Hid (checkF l = oneF op jt jf kk ((l.length : Int) - 1 - k)) := by
     show checkF l = _; rw [HC.out, HS.out, HD.out, if_neg he, if_pos he]
    have HE := Lib.hid he; clear he hrg
    go_wp2_with (go_at_call 183; refine (one_any _ _ _ _ _ _ (by assumption) (by assumption)).mono ?_; rintro e w' ⟨rfl, hb'⟩; have hb2 := below_box hb (Nat.le_refl _) hb'; clear hb'; rw [errV_pos HE.out])
    go_ret; exact ⟨by rw [HF.out, errV_pos HE.out]; rfl, by assumption⟩
  ·obtain rfl : k = l.length := by omega
   have hx := (HR.out.below hb hB) (l.length - 1) l[l.length - 1] (by simp); have hl : l[l.length - 1]? = some l[l.length - 1] := by simp
   generalize l[l.length - 1] = x at *
   obtain ⟨op, jt, jf, kk⟩ := x; obtain ⟨g0, _, _, _⟩ := hx; have HL := Lib.hid hl; clear hl; simp only at g0; have hs0 : scanF l = 0 := by rw [HS.out, List.drop_length]; rfl
   by_cases h8 : op = 8
   ·have HF : Hid (checkF l = 0) := by show checkF l = 0; rw [HC.out, hs0, HL.out]; simp [h8]
    clear hs0 HS; subst h8
    go_wp2
    go_ret; exact ⟨by rw [HF.out]; rfl, hb⟩
   ·have HF : Hid (checkF l = 3) := by show checkF l = 3; rw [HC.out, hs0, HL.out]; simp [h8]
    clear hs0 HS
    go_wp2
    go_ret; exact ⟨by rw [HF.out]; rfl, hb⟩
end Go.Proofs.YtmgngapkgcofnabGreatDoor
