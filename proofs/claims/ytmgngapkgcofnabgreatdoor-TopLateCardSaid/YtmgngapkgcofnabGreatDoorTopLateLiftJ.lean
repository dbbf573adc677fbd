/- Five arguments. -/
import Derived.Test.YtmgngapkgcofnabGreatDoorTopLateWJ
import Derived.ProofKit
import Derived.OpenShut
import Derived.Test.YtmgngapkgcofnabGreatDoorCards
import Derived.Test.YtmgngapkgcofnabGreatDoorTie
import Derived.WalkKit
import Derived.Deep.DeepHandedRow
import Derived.Deep.DeepLaidRun
import Derived.Lib.LaidTab
import Derived.Stop.LaidErr
namespace Go.Proofs.YtmgngapkgcofnabGreatDoor
open Go.ChangeShapes Go.WideShapes Go.ChangeAt Go.RowKit
theorem trodAll_five {H : Type} {enc : TypeId × Value → H} {P : Program} {w : World} {base : Nat} {spare : Nat → Bool} {held : Bool} {t0 t1 t2 t3 t4 : TypeId} {args : Array Value} {ds : List (DataW H)} {ps : List MemPlace} (h : DataW.TrodAll enc P w base spare held [t0, t1, t2, t3, t4] args.toList ds ps) :
  ∃ v0 v1 v2 v3 v4 d0 d1 d2 d3 d4 p0 p1 p2 p3 p4, args = #[v0, v1, v2, v3, v4] ∧ ds = [d0, d1, d2, d3, d4] ∧ ps = p0 ++ p1 ++ p2 ++ p3 ++ p4 ∧ DataW.Trod enc P w base spare held t0 v0 d0 p0 ∧ DataW.Trod enc P w base spare held t1 v1 d1 p1 ∧ DataW.Trod enc P w base spare held t2 v2 d2 p2 ∧ DataW.Trod enc P w base spare held t3 v3 d3 p3 ∧ DataW.Trod enc P w base spare held t4 v4 d4 p4 := by
 obtain ⟨v0, vs0, d0, ds0, p0, q0, hargs, rfl, rfl, hd0, hr0⟩ := trodAll_cons h; obtain ⟨v1, vs1, d1, ds1, p1, q1, rfl, rfl, rfl, hd1, hr1⟩ := trodAll_cons hr0; obtain ⟨v2, vs2, d2, ds2, p2, q2, rfl, rfl, rfl, hd2, hr2⟩ := trodAll_cons hr1; obtain ⟨v3, vs3, d3, ds3, p3, q3, rfl, rfl, rfl, hd3, hr3⟩ := trodAll_cons hr2; obtain ⟨v4, vs4, d4, ds4, p4, q4, rfl, rfl, rfl, hd4, hr4⟩ := trodAll_cons hr3
 obtain ⟨rfl, rfl, rfl⟩ := trodAll_nil hr4; exact ⟨v0, v1, v2, v3, v4, d0, d1, d2, d3, d4, p0, p1, p2, p3, p4, by cases args; simp_all, rfl, by simp, hd0, hd1, hd2, hd3, hd4⟩
end Go.Proofs.YtmgngapkgcofnabGreatDoor
namespace Go.Proofs.YtmgngapkgcofnabGreatDoor.topLate
open Go.ChangeShapes Go.WideShapes Go.ChangeAt Go.RowKit
open Go.ChangeMaps (open_string shut_string)
theorem own : ownKnob Tryz.prog.godebug = none := by kernel_rfl
theorem laidOut : laidOutB Tryz.prog = true := by kernel_rfl
def rowOf : DataW Unit → Array Value
 | .agg ps => (ps.flatMap fun d => match d with | .lit (.int k i) => [Value.int k i] | .agg qs => (qs.map fun d => match d with | .lit (.int k i) => Value.int k i | _ => .nilIface) | _ => [.nilIface]).toArray
 | _ => #[]
def lay (r : Array Value) : Obj → Obj
 | .cells _ t frozen => .cells r t frozen
 | o => o
def args0 : Array Value := #[.agg #[.slice none 0 0, .int .i64 0, .int .i64 0], .slice none 0 0, .int .i64 0, .agg #[.int .u32 0, .int .u32 0, .int .u64 0, .int .u64 0, .int .u64 0, .int .u64 0], .slice none 0 0]
def errAt (b : Nat) : Array Value := #[.iface 347 (.pointer (some ⟨b, 0, none⟩))]
noncomputable def laidWorld (os : Os) : World :=
 { World.holding Tryz.prog os ⟨#[], args0, []⟩ with heap := ((((((((World.holding Tryz.prog os ⟨#[], args0, []⟩).heap.modify 6 (lay (rowOf Rows.laid_math_bits_deBruijn32tab))).modify 7 (lay (rowOf Rows.laid_math_bits_deBruijn64tab))).modify 3 (lay (rowOf Rows.laid_internal_strconv_uint64pow10))).modify 5 (lay (rowOf Rows.laid_unicode_utf8_acceptRanges))).modify 4 (lay (rowOf Rows.laid_unicode_utf8_first))).modify 2 (lay (errAt (World.holding Tryz.prog os ⟨#[], args0, []⟩).heap.size))).modify 1 (lay (errAt ((World.holding Tryz.prog os ⟨#[], args0, []⟩).heap.size + 1)))
  |>.push (.cells #[.string ⟨#[118, 97, 108, 117, 101, 32, 111, 117, 116, 32, 111, 102, 32, 114, 97, 110, 103, 101]⟩] 349) |>.push (.cells #[.string ⟨#[105, 110, 118, 97, 108, 105, 100, 32, 115, 121, 110, 116, 97, 120]⟩] 349)) }
theorem laid_met (os : Os) : laidMet Tryz.prog Rows.topLateRow.laid ((laidWorld os).forCall (fun _ _ => 0) ⟨#[], args0, []⟩).memory :=
 laidMet_of_run3 8 (by kernel_rfl) (by kernel_rfl) (by kernel_rfl)
theorem reads (os : Os) {H : Type} (enc : TypeId × Value → H) : ∃ places, DataW.whole enc Tryz.prog ((laidWorld os).forCall (fun _ _ => 0) ⟨#[], args0, []⟩).memory Tryz.f7.params.toList Rows.topLateSpec.vars false args0.toList 8 = some ([.agg [.nil, .agg [.lit (.int .i64 0), .lit (.int .i64 0)]], .nil, .lit (.int .i64 0), .agg [.lit (.int .u32 0), .lit (.int .u32 0), .agg [.lit (.int .u64 0), .lit (.int .u64 0), .lit (.int .u64 0), .lit (.int .u64 0)]], .nil], [], places) :=
 ⟨[], by kernel_rfl⟩
theorem tab_of {W : World} (hL : laidMetH Tryz.prog Rows.topLateRow.laid W) : Lib.TabIs Tryz.prog W "internal/strconv.uint64pow10" .u64 Lib.pow10Tab := by
 have h0 : laidMet Tryz.prog Rows.topLateRow.laid W := hL; have h1 := laidMet.tail (laidMet.tail h0); have e : (Rows.laid_internal_strconv_uint64pow10 : DataW Unit) = Lib.tabData .u64 Lib.pow10Tab := by kernel_rfl
 rw [e] at h1; exact Lib.tabIs_of_head (g := 3) (by kernel_rfl) (by kernel_rfl) Tryz.underlying339 Tryz.underlying42 (by kernel_rfl) (by kernel_rfl) h1
theorem star : "*" ++ "errors.errorString" = "*errors.errorString" := by decide
theorem names_err (u : TypeId) (h : Tryz.prog.typeName? 3 u = some "*errors.errorString") : u = 347 :=
 typeName_ptr_named (nm := "errors.errorString") (by rw [star]; kernel_rfl) (by kernel_rfl) (by decide) u (by rw [star]; exact h)
theorem gER : Tryz.prog.globalNamed "strconv.ErrRange" = some 2 := by kernel_rfl
theorem gES : Tryz.prog.globalNamed "strconv.ErrSyntax" = some 1 := by kernel_rfl
theorem gERt : (Tryz.prog.globals[2]?).map (·.type) = some 34 := by kernel_rfl
theorem gESt : (Tryz.prog.globals[1]?).map (·.type) = some 34 := by kernel_rfl
theorem cellsE : Tryz.prog.cellsOf 349 = 1 := by kernel_rfl
theorem cellsS : Tryz.prog.cellsOf 9 = 1 := by kernel_rfl
theorem shelf_of {W : World} (hL : laidMetH Tryz.prog Rows.topLateRow.laid W) (hsh : W.ShapedOpen Tryz.prog) : Shelf0 W := by
 have h0 : laidMet Tryz.prog Rows.topLateRow.laid W := hL; have h4 := laidMet.tail (laidMet.tail (laidMet.tail (laidMet.tail h0))); obtain ⟨a0, s0, hv0, -, -, -⟩ := laid_sentinel h4 gER gERt Tryz.underlying34 names_err Tryz.underlying347 Tryz.underlying349 rfl rfl Tryz.underlying9 cellsE cellsS
 obtain ⟨a1, s1, hv1, -, -, -⟩ := laid_sentinel (laidMet.tail h4) gES gESt Tryz.underlying34 names_err Tryz.underlying347 Tryz.underlying349 rfl rfl Tryz.underlying9 cellsE cellsS
 exact ⟨⟨⟨_, by have h0 := World.var?_cell gES hv1 0; simpa using h0, Or.inr ⟨_, _, rfl⟩⟩, ⟨_, by have h0 := World.var?_cell gER hv0 0; simpa using h0, Or.inr ⟨_, _, rfl⟩⟩,
  Go.Proofs.cell_of_shapedOpen_int (zero := #[.int .i64 0]) (t := 3) hsh (of_decide_eq_true (by kernel_rfl)) (by kernel_rfl) rfl (by kernel_rfl) (by kernel_rfl) Tryz.underlying3⟩, tab_of hL⟩
set_option maxRecDepth 100000 in
theorem contract (H : Type) (enc : TypeId × Value → H) (W : World) (base : Nat) (args : Array Value) (ds gs : List (DataW H)) (before : List MemPlace)
  (hval0 : ∀ (j : Nat) t v, Tryz.f7.params[j]? = some t → args[j]? = some v → Value.okWide Tryz.prog W .any base t v)
  (hL : laidMetH Tryz.prog Rows.topLateRow.laid W) (hsh : W.ShapedOpen Tryz.prog)
  (hW : DataW.Whole enc Tryz.prog Tryz.f7.params.toList Rows.topLateSpec.vars false W args.toList ds gs before) :
  Calls Tryz.prog 7 args W fun e W' => ∃ v, e = .returned v ∧ Rows.topLateSpec.post enc Tryz.prog Tryz.f7 false true false false W args v W' := by
 have hval := hval0; have hW' := hW; obtain ⟨p, q, hA0, hV, rfl, hfz, hnd⟩ := hW; have hA : DataW.TrodAll enc Tryz.prog W 0 (fun _ => true) true Tryz.f7.params.toList args.toList ds p := hA0; rw [Tryz.params7] at hA hval; obtain ⟨v0, v1, v2, v3, v4, d0, d1, d2, d3, d4, p0, p1, p2, p3, p4, rfl, rfl, rfl, h0, h1, h2, h3, h4⟩ := trodAll_five hA; obtain ⟨rfl, rfl⟩ := trodVars_none hV
 obtain ⟨pol, hp⟩ := open_policy (hval 0 26 v0 rfl rfl) h0; obtain ⟨l1, hl1⟩ := open_acts (hval 1 27 v1 rfl rfl) h1; obtain ⟨n, rfl, rfl, rfl, _⟩ := open_int Tryz.underlying3 (hval 2 3 v2 rfl rfl) h2; obtain ⟨c, rfl, hc⟩ := open_call (hval 3 52 v3 rfl rfl) h3; obtain ⟨l4, hl4⟩ := open_acts (hval 4 27 v4 rfl rfl) h4
 refine (topLate_walk wordNum_any v0 v1 v4 pol l1 l4 n c W (shelf_of hL hsh) hp hl1 hl4 hc).mono fun e W' ⟨he, hb⟩ => ?_; subst he; exact ⟨_, rfl, law_post laidOut (by kernel_rfl) Tryz.underlying4 (by kernel_rfl) rfl hW' rfl hb⟩
set_option maxRecDepth 100000 in
theorem lifted (os : Os) (started : os.Started) (H : Type) (enc : TypeId × Value → H) (F : Stop.Interp) :
  ReturnsInHanded {} Tryz.checked os 7 .any ((OpenSpec.ofChange Rows.topLateSpec).preRow enc Tryz.prog Tryz.f7 Rows.topLateRow.domain false Rows.topLateRow.laid) (((OpenSpec.ofChange Rows.topLateSpec).at F).post enc Tryz.prog Tryz.f7 false true false false) := by
 obtain ⟨places, hx⟩ := reads os enc
 refine returnsInHanded_of_row (C := Tryz.checked) (s := OpenSpec.ofChange Rows.topLateSpec) own started (by kernel_rfl) Tryz.func7
  (witness_row_at (enc := enc) (C := Tryz.checked) false (laidWorld os) args0 rfl (by kernel_rfl) (by kernel_rfl) (by kernel_rfl)
   (OpenSpec.preRow_of_cond 8 hx (by kernel_rfl) (fun k hk => by cases hk) (by kernel_rfl) (laid_met os))) ?_
 intro W base args ds gs before hval hW _ _ _ hL hsh _; exact contract H enc W base args ds gs before hval hL hsh hW
end Go.Proofs.YtmgngapkgcofnabGreatDoor.topLate
