/- The parts of Names: SameNumbers, Forms, an error's text. -/
import Derived.Test.YtmgngapkgcofnaaDoorKind
import Derived.Deep.QuietTactic
import Derived.BigQuiet
namespace Go.Proofs.YtmgngapkgcofnaaDoor
open Go.RowKit

def IntRow (w : World) (b o : Nat) (l : List Int) : Prop := ∀ i x, l[i]? = some x → w.cell? ⟨b, o + i, none⟩ = some (.int .i64 x)

set_option maxRecDepth 100000 in
theorem sameN_any (b o c b' o' c' : Nat) (l : List Int) (w : World) (hl : IntRow w b o l) (hm : IntRow w b' o' l) (hlen : l.length ≤ 1000000) :
    Calls Tryd.prog 8 #[.slice (some ⟨b, o, none⟩) l.length c, .slice (some ⟨b', o', none⟩) l.length c'] w fun e w' => e = .returned (.bool true) ∧ Below w.heap.size w w' := by
  have HL := Lib.hid hl
  have HM := Lib.hid hm
  clear hl hm
  go_enter Tryd.func8, Tryd.ntmps8
  go_wp2
  go_loopw [5] (fun i wr => ∃ (k d : Nat), k ≤ l.length ∧ i = .int .i64 k ∧ wr = w.drewN d) (fun i _ => l.length - (intOf i).toNat)
  case atStart => exact ⟨0, 0, Nat.zero_le _, rfl, rfl⟩
  case round =>
    obtain ⟨k, d, hk, rfl, rfl⟩ := hrel
    by_cases hlt : k < l.length
    · have g0 : w.cell? ⟨b, o + k, none⟩ = some (.int .i64 l[k]) := HL.out k _ (List.getElem?_eq_getElem hlt)
      have g1 : w.cell? ⟨b', o' + k, none⟩ = some (.int .i64 l[k]) := HM.out k _ (List.getElem?_eq_getElem hlt)
      have i1 : (k : Int) < (l.length : Int) := by omega
      have i2 : (0 : Int) ≤ (k : Int) := by omega
      generalize l[k] = x at *
      go_wp2_with fail
      go_quiet (fail)
      go_wp2
      go_roundw
      case rel => exact ⟨k + 1, d + nq, by omega, by go_num, rfl⟩
      case measure => simp [intOf]; omega
    · obtain rfl : k = l.length := by omega
      go_wp2
      go_ret
      exact ⟨rfl, below_drewN (Below.refl _ _) _⟩

theorem text9 : (⟨#[100, 111, 111, 114, 119, 97, 114, 100, 58, 32, 101, 114, 114, 111, 114, 32]⟩ : ByteArray) ++ (⟨#[48, 49, 50, 51, 52, 53, 54, 55, 56, 57, 97, 98, 99, 100, 101, 102, 103, 104, 105, 106, 107, 108, 109, 110, 111, 112, 113, 114, 115, 116, 117, 118, 119, 120, 121, 122]⟩ : ByteArray).extract 9 10 = ⟨#[100, 111, 111, 114, 119, 97, 114, 100, 58, 32, 101, 114, 114, 111, 114, 32, 57]⟩ := by decide
set_option maxRecDepth 100000 in
theorem errno_text (w : World) : Calls Tryd.prog 9 #[.int .i64 9] w fun e w' => e = .returned (.string ⟨#[100, 111, 111, 114, 119, 97, 114, 100, 58, 32, 101, 114, 114, 111, 114, 32, 57]⟩) ∧ Below w.heap.size w w' := by
  go_enter Tryd.func9, Tryd.ntmps9
  go_wp2
  go_ret
  exact ⟨congrArg (fun s => Ending.returned (Value.string s)) text9, Below.refl _ _⟩

end Go.Proofs.YtmgngapkgcofnaaDoor
