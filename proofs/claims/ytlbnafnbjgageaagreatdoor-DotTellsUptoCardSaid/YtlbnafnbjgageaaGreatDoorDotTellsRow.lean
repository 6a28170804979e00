/- leaflaw1.DotTells returns true whatever vectors and text come in, and leaves them as they were. Its conditions: what comes in holds together at most 1048576 values and letters, and the library's listed variables hold what the program's text lays. -/
import Derived.Test.YtlbnafnbjgageaaGreatDoorCards
import Derived.Test.YtlbnafnbjgageaaGreatDoorTie
import Derived.Test.YtlbnafnbjgageaaGreatDoorOpenInts
import Derived.Test.YtlbnafnbjgageaaGreatDoorHandle
import Derived.Test.YtlbnafnbjgageaaGreatDoorDotTellsWalk
import Derived.Test.YtlbnafnbjgageaaGreatDoorDotTellsFacts
import Derived.Lib.SmallJoins
namespace Go.Proofs.YtlbnafnbjgageaaGreatDoor
open Go.ChangeShapes Go.WideShapes Go.ChangeAt Go.RowKit
open Go.ChangeMaps (open_string shut_string)
open Go.Joins (open_agg2)
theorem Tryz.row88 (u : TypeId) (h : Tryz.prog.typeName? 3 u = some "*errors.errorString") : u = 435 :=
  typeName_ptr_named (nm := "errors.errorString") (by kernel_rfl) (by kernel_rfl) (by decide) u (h.trans (congrArg some (by kernel_rfl)))
/-- The listed variables but for the handle. -/
def dataLaid : List (String × DataW Unit) := [("math/bits.deBruijn32tab", Rows.laid_math_bits_deBruijn32tab), ("math/bits.deBruijn64tab", Rows.laid_math_bits_deBruijn64tab), ("internal/strconv.uint64pow10", Rows.laid_internal_strconv_uint64pow10), ("unicode/utf8.acceptRanges", Rows.laid_unicode_utf8_acceptRanges), ("strconv.ErrRange", Rows.laid_strconv_ErrRange), ("strconv.ErrSyntax", Rows.laid_strconv_ErrSyntax), ("unicode/utf8.first", Rows.laid_unicode_utf8_first)]
theorem laid_two {W : World} (hL : laidMetH Tryz.prog Rows.dotTellsUptoRow.laid W) : laidMet Tryz.prog dataLaid W ∧ handlesMet Tryz.prog [("errors.errorType", Rows.laid_errors_errorType)] W := hL
theorem text_world {W : World} (hL : laidMet Tryz.prog dataLaid W) (hs : W.ShapedOpen Tryz.prog) : TextWorld W := by
  have h3 := hL.tail.tail
  have h5 := h3.tail.tail
  have h6 := h5.tail
  have g1 : Tryz.prog.globalNamed "strconv.ErrRange" = some 4 := by kernel_rfl
  have g0 : Tryz.prog.globalNamed "strconv.ErrSyntax" = some 3 := by kernel_rfl
  have cs : Tryz.prog.cellsOf 437 = 1 := by kernel_rfl
  have c9 : Tryz.prog.cellsOf 9 = 1 := by kernel_rfl
  obtain ⟨a1, s1, hv1, -, -, -⟩ := laid_sentinel h5 g1 (by kernel_rfl) Tryz.underlying32 Tryz.row88 Tryz.underlying435 Tryz.underlying437 rfl rfl Tryz.underlying9 cs c9
  obtain ⟨a0, s0, hv0, -, -, -⟩ := laid_sentinel h6 g0 (by kernel_rfl) Tryz.underlying32 Tryz.row88 Tryz.underlying435 Tryz.underlying437 rfl rfl Tryz.underlying9 cs c9
  refine ⟨Tryz.laysM146.s1_3 W hs, ?_, ⟨_, by have h0 := World.var?_cell g0 hv0 0; simpa using h0, .inr ⟨_, _, rfl⟩⟩, ⟨_, by have h0 := World.var?_cell g1 hv1 0; simpa using h0, .inr ⟨_, _, rfl⟩⟩⟩
  exact Lib.tabIs_of_head (zs := Lib.pow10Tab) (k := .u64) Tryz.gTab (by kernel_rfl) Tryz.underlying432 Tryz.underlying403 (by kernel_rfl) (by kernel_rfl) h3
set_option maxRecDepth 100000 in
theorem dotTells_contract (H : Type) (enc : TypeId × Value → H) (W : World) (base : Nat) (args : Array Value) (ds gs : List (DataW H)) (before : List MemPlace)
    (hval : ∀ (j : Nat) t v, Tryz.f7.params[j]? = some t → args[j]? = some v → Value.okWide Tryz.prog W .any base t v)
    (hW : DataW.Whole enc Tryz.prog Tryz.f7.params.toList Rows.dotTellsSpec.vars false W args.toList ds gs before) (hk : Rows.uptoSmall H (ds ++ gs) = true)
    (hL : laidMetH Tryz.prog Rows.dotTellsUptoRow.laid W) (hs : W.ShapedOpen Tryz.prog) :
    Calls Tryz.prog 7 args W fun e W' => ∃ v, e = .returned v ∧ Rows.dotTellsSpec.post enc Tryz.prog Tryz.f7 false true false false W args v W' := by
  have hT := text_world (laid_two hL).1 hs
  have hE := err_of_handles (laid_two hL).2
  have hW' := hW
  obtain ⟨p, q, hA0, hV, rfl, _, _⟩ := hW
  have hA : DataW.TrodAll enc Tryz.prog W 0 (fun _ => true) true Tryz.f7.params.toList args.toList ds p := hA0
  rw [Tryz.params7] at hA hval
  obtain ⟨v0, vs0, d0, ds0, p0, q0, hargs, rfl, rfl, h0, r0⟩ := trodAll_cons hA
  obtain ⟨v1, vs1, d1, ds1, p1, q1, rfl, rfl, rfl, h1, r1⟩ := trodAll_cons r0
  obtain ⟨v2, vs2, d2, ds2, p2, q2, rfl, rfl, rfl, h2, r2⟩ := trodAll_cons r1
  obtain ⟨v3, vs3, d3, ds3, p3, q3, rfl, rfl, rfl, h3, r3⟩ := trodAll_cons r2
  obtain ⟨rfl, rfl, rfl⟩ := trodAll_nil r3
  obtain rfl : args = #[v0, v1, v2, v3] := by cases args; simp_all
  obtain ⟨rfl, rfl⟩ := trodVars_none hV
  have w0 := hval 0 23 v0 rfl rfl
  have w1 := hval 1 23 v1 rfl rfl
  have w2 := hval 2 27 v2 rfl rfl
  obtain ⟨s, rfl, rfl, rfl, hmax⟩ := open_string Tryz.underlying9 (hval 3 9 v3 rfl rfl) h3
  obtain ⟨ada, ca, A, rfl, hA', ha⟩ := open_vec w0 h0
  obtain ⟨adb, cb, B, rfl, hB', hb⟩ := open_vec w1 h1
  obtain ⟨c0, c1, y0, y1, m, rfl, rfl, rfl, hy0, hy1⟩ := open_agg2 Tryz.underlying27 (by kernel_rfl) (by kernel_rfl) w2 h2
  obtain ⟨who, e0, rfl, wa⟩ := DataW.trod_int Tryz.underlying3 hy0
  obtain ⟨n, e1, rfl, wb⟩ := DataW.trod_int Tryz.underlying3 hy1
  simp at e0 e1
  subst e0 e1
  have hsz : s.data.toList.length ≤ 1048576 ∧ Rows.uptoBulk d0 ≤ 1048576 ∧ Rows.uptoBulk d1 ≤ 1048576 := by
    have h : Rows.uptoBulkAll ([d0, d1, .agg [.lit (.int .i64 who), .lit (.int .i64 n)], .lit (.string s.data.toList)] ++ []) ≤ 1048576 := of_decide_eq_true hk
    simp only [List.append_nil, Rows.uptoBulkAll, Rows.uptoBulk] at h
    omega
  have hw := dotTells_walk ada adb ca cb A B who n s.data.toList W hsz.1 hT hE ha hb (by omega) (by omega)
  refine hw.mono fun e W' ⟨he, hbl⟩ => ?_
  subst he
  exact ⟨_, rfl, law_post (by kernel_rfl) (by
    rw [Tryz.params7]
    intro t ht
    have hm : t ∈ [23, 27, 9] := by simp at ht ⊢; exact ht
    have hall : ([23, 27, 9].all fun u => Tryz.prog.readableRec u && decide (u < Tryz.prog.types.size)) = true := by kernel_rfl
    have := List.all_eq_true.1 hall t hm
    rw [Bool.and_eq_true] at this
    exact ⟨this.1, of_decide_eq_true this.2⟩) rfl hW' rfl rfl rfl hbl⟩
theorem dotTells_reads (os : Os) {H : Type} (enc : TypeId × Value → H) : ∃ places, DataW.whole enc Tryz.prog ((lWorld os dataLaid).forCall (fun _ _ => 0) ⟨#[], #[.slice none 0 0, .slice none 0 0, .agg #[.int .i64 0, .int .i64 0], .string ⟨#[]⟩], []⟩).memory Tryz.f7.params.toList Rows.dotTellsSpec.vars false #[Value.slice none 0 0, .slice none 0 0, .agg #[.int .i64 0, .int .i64 0], .string ⟨#[]⟩].toList 8 = some ([.nil, .nil, .agg [.lit (.int .i64 0), .lit (.int .i64 0)], .lit (.string [])], [], places) :=
  ⟨[], by kernel_rfl⟩
set_option maxRecDepth 100000 in
theorem dotTells_lifted (os : Os) (started : os.Started) (H : Type) (enc : TypeId × Value → H) (F : Stop.Interp) :
    ReturnsInHanded {} Tryz.checked os 7 .any ((Rows.OpenSpec.upto Rows.dotTellsSpec).preRow enc Tryz.prog Tryz.f7 Rows.dotTellsUptoRow.domain false Rows.dotTellsUptoRow.laid) (((Rows.OpenSpec.upto Rows.dotTellsSpec).at F).post enc Tryz.prog Tryz.f7 false true false false) := by
  obtain ⟨places, hx⟩ := dotTells_reads os enc
  refine returnsInHanded_of_row (C := Tryz.checked) (s := Rows.OpenSpec.upto Rows.dotTellsSpec) Tryz.own started (by kernel_rfl) Tryz.func7
    (witness_row_zip (enc := enc) (C := Tryz.checked) false (lWorld os dataLaid) #[.slice none 0 0, .slice none 0 0, .agg #[.int .i64 0, .int .i64 0], .string ⟨#[]⟩] (lWorld_os _ _) (World.shaped_of_ZipB (by kernel_rfl) (by kernel_rfl)) (by kernel_rfl)
      (OpenSpec.preRow_of_cond 8 hx (by kernel_rfl) (fun k hk => by cases hk; kernel_rfl) (by kernel_rfl) (laidMetH_of_parts (show laidMet Tryz.prog dataLaid _ from lWorld_met _ (by kernel_rfl) (by kernel_rfl)) (by kernel_rfl)))) ?_
  intro W base args ds gs before hval hW _ hcond _ hL hsh _
  exact dotTells_contract H enc W base args ds gs before hval hW (hcond _ rfl) hL hsh
theorem dotTells_upto : Rows.DotTellsUptoSaid :=
  OpenClaim.holds_of_cond 7 Tryz.f7 rfl rfl rfl rfl rfl rfl rfl ⟨rfl, rfl, rfl, rfl, rfl⟩ rfl rfl rfl rfl rfl dotTells_named Tryz.func7 dotTells_closed dotTells_inst dotTells_wrap
    (fun os started H enc _ F => by rw [OpenClaim.pre_eq_preRow]; exact dotTells_lifted os started H enc F)
theorem dotTells_plain (f : FuncId) (fn : Func) (hf : Tryz.pinned.checked.prog.funcNamed Rows.dotTellsUptoRow.func = some f) (hfn : Tryz.pinned.checked.prog.funcs[f]? = some fn) :
    true = Tryz.pinned.checked.prog.looks [] ∧ ∀ (j : Nat) t, fn.params[j]? = some t → Tryz.pinned.checked.prog.wantsStandIn t = false := by
  obtain rfl : f = 7 := Option.some.inj ((show Tryz.prog.funcNamed Rows.dotTellsUptoRow.func = some 7 by kernel_rfl).symm.trans hf) |>.symm
  obtain rfl : fn = Tryz.f7 := (Option.some.inj (Tryz.func7.symm.trans hfn)).symm
  refine ⟨by kernel_rfl, fun j t ht => ?_⟩
  rw [Tryz.params7] at ht
  have hm : t ∈ [23, 27, 9] := by
    have := Array.mem_of_getElem? ht
    simp at this ⊢; exact this
  have hall : ([23, 27, 9].all fun u => !Tryz.prog.wantsStandIn u) = true := by kernel_rfl
  exact (show Tryz.prog.wantsStandIn t = false by simpa using List.all_eq_true.1 hall t hm)
theorem dotTells_card : Rows.DotTellsUptoCardSaid :=
  Claim7.holds_tied_plain_at .later [] _ _ _ _ dotTells_upto (fun _ h => by cases h) dotTells_wf (fun _ h => by cases h) dotTellsUpto_row_tie rfl ⟨rfl, rfl⟩ dotTells_main rfl dotTells_plain dotTells_goes
#print axioms dotTells_card
end Go.Proofs.YtlbnafnbjgageaaGreatDoor
