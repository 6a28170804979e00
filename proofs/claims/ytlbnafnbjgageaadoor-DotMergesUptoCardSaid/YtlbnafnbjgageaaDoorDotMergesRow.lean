/- leaflaw1.DotMerges returns true whatever vectors and text come in, and leaves them as they were. Its conditions: what comes in holds together at most 1048576 values and letters, and the library's listed variables hold what the program's text lays. -/
import Derived.Test.YtlbnafnbjgageaaDoorCards
import Derived.Test.YtlbnafnbjgageaaDoorTie
import Derived.Test.YtlbnafnbjgageaaDoorOpenInts
import Derived.Test.YtlbnafnbjgageaaDoorDotWalk1
import Derived.Test.YtlbnafnbjgageaaDoorDotWalk2
import Derived.Test.YtlbnafnbjgageaaDoorDotWalk3
import Derived.Test.YtlbnafnbjgageaaDoorDotWalk4
import Derived.Test.YtlbnafnbjgageaaDoorDotWalk5
import Derived.Test.YtlbnafnbjgageaaDoorDotWalk6
import Derived.Test.YtlbnafnbjgageaaDoorDotWalk7
import Derived.Test.YtlbnafnbjgageaaDoorDotWalk8
namespace Go.Proofs.YtlbnafnbjgageaaDoor
open Go.ChangeShapes Go.WideShapes Go.ChangeAt Go.RowKit
open Go.ChangeMaps (open_string shut_string)
theorem Tryd.row88 (u : TypeId) (h : Tryd.prog.typeName? 3 u = some "*errors.errorString") : u = 88 :=
  typeName_ptr_named (nm := "errors.errorString") (by kernel_rfl) (by kernel_rfl) (by decide) u (h.trans (congrArg some (by kernel_rfl)))
theorem text_world {W : World} (hL : laidMetH Tryd.prog Rows.dotMergesUptoRow.laid W) (hs : W.ShapedOpen Tryd.prog) : TextWorld W := by
  rw [MakeChecks.laidMetH_plain _ _ _ (by kernel_rfl)] at hL
  have h3 := hL.tail.tail
  have h5 := h3.tail.tail
  have h6 := h5.tail
  have g1 : Tryd.prog.globalNamed "strconv.ErrRange" = some 1 := by kernel_rfl
  have g0 : Tryd.prog.globalNamed "strconv.ErrSyntax" = some 0 := by kernel_rfl
  have cs : Tryd.prog.cellsOf 90 = 1 := by kernel_rfl
  have c9 : Tryd.prog.cellsOf 9 = 1 := by kernel_rfl
  obtain ⟨a1, s1, hv1, -, -, -⟩ := laid_sentinel h5 g1 (by kernel_rfl) Tryd.underlying24 Tryd.row88 Tryd.underlying88 Tryd.underlying90 rfl rfl Tryd.underlying9 cs c9
  obtain ⟨a0, s0, hv0, -, -, -⟩ := laid_sentinel h6 g0 (by kernel_rfl) Tryd.underlying24 Tryd.row88 Tryd.underlying88 Tryd.underlying90 rfl rfl Tryd.underlying9 cs c9
  refine ⟨Tryd.laysM146.s1_3 W hs, ?_, ⟨_, by have h0 := World.var?_cell g0 hv0 0; simpa using h0, .inr ⟨_, _, rfl⟩⟩, ⟨_, by have h0 := World.var?_cell g1 hv1 0; simpa using h0, .inr ⟨_, _, rfl⟩⟩⟩
  exact Lib.tabIs_of_head (zs := Lib.pow10Tab) (k := .u64) Tryd.gTab (by kernel_rfl) Tryd.underlying92 Tryd.underlying69 (by kernel_rfl) (by kernel_rfl) h3
theorem dotMerges_walk (ada adb adc : Option Addr) (ca cb cc : Nat) (A B C : List Int) (s : Str) (w : World) (hs : s.length ≤ 1048576) (hT : TextWorld w)
    (ha : At w ada A) (hb : At w adb B) (hc : At w adc C) (hA : A.length ≤ 1000000000000000) (hB : B.length ≤ 1000000000000000) (hC : C.length ≤ 1000000000000000) :
    Calls Tryd.prog 3 #[.slice ada A.length ca, .slice adb B.length cb, .slice adc C.length cc, .string ⟨s.toArray⟩] w fun e w' => e = .returned (.bool true) ∧ Below w.heap.size w w' := by
  by_cases hp : parseErr s = 0
  · by_cases hv : vecErr A = 0
    · by_cases hn : bothErr A B = 0
      · by_cases hm : vecErr C = 0
        · exact walk8 ada adb adc ca cb cc A B C s w hs hT ha hb hc hA hB hC hp hn hm
        · exact walk6 ada adb adc ca cb cc A B C s w hs hT ha hb hc hA hB hC hp hn hm
      · exact walk4 ada adb adc ca cb cc A B C s w hs hT ha hb hc hA hB hC hp hv hn
    · exact walk2 ada adb adc ca cb cc A B C s w hs hT ha hb hc hA hB hC hp hv
  · by_cases hv : vecErr A = 0
    · by_cases hn : bothErr A B = 0
      · by_cases hm : vecErr C = 0
        · exact walk7 ada adb adc ca cb cc A B C s w hs hT ha hb hc hA hB hC hp hn hm
        · exact walk5 ada adb adc ca cb cc A B C s w hs hT ha hb hc hA hB hC hp hn hm
      · exact walk3 ada adb adc ca cb cc A B C s w hs hT ha hb hc hA hB hC hp hv hn
    · exact walk1 ada adb adc ca cb cc A B C s w hs hT ha hb hc hA hB hC hp hv
set_option maxRecDepth 100000 in
theorem dotMerges_contract (H : Type) (enc : TypeId × Value → H) (W : World) (base : Nat) (args : Array Value) (ds gs : List (DataW H)) (before : List MemPlace)
    (hval : ∀ (j : Nat) t v, Tryd.f3.params[j]? = some t → args[j]? = some v → Value.okWide Tryd.prog W .any base t v)
    (hW : DataW.Whole enc Tryd.prog Tryd.f3.params.toList Rows.dotMergesSpec.vars false W args.toList ds gs before) (hk : Rows.uptoSmall H (ds ++ gs) = true)
    (hL : laidMetH Tryd.prog Rows.dotMergesUptoRow.laid W) (hs : W.ShapedOpen Tryd.prog) :
    Calls Tryd.prog 3 args W fun e W' => ∃ v, e = .returned v ∧ Rows.dotMergesSpec.post enc Tryd.prog Tryd.f3 false true false false W args v W' := by
  have hT := text_world hL hs
  have hW' := hW
  obtain ⟨p, q, hA0, hV, rfl, _, _⟩ := hW
  have hA : DataW.TrodAll enc Tryd.prog W 0 (fun _ => true) true Tryd.f3.params.toList args.toList ds p := hA0
  rw [Tryd.params3] at hA hval
  obtain ⟨v0, vs0, d0, ds0, p0, q0, hargs, rfl, rfl, h0, r0⟩ := trodAll_cons hA
  obtain ⟨v1, vs1, d1, ds1, p1, q1, rfl, rfl, rfl, h1, r1⟩ := trodAll_cons r0
  obtain ⟨v2, vs2, d2, ds2, p2, q2, rfl, rfl, rfl, h2, r2⟩ := trodAll_cons r1
  obtain ⟨v3, vs3, d3, ds3, p3, q3, rfl, rfl, rfl, h3, r3⟩ := trodAll_cons r2
  obtain ⟨rfl, rfl, rfl⟩ := trodAll_nil r3
  obtain rfl : args = #[v0, v1, v2, v3] := by cases args; simp_all
  obtain ⟨rfl, rfl⟩ := trodVars_none hV
  have w0 := hval 0 22 v0 rfl rfl
  have w1 := hval 1 22 v1 rfl rfl
  have w2 := hval 2 22 v2 rfl rfl
  obtain ⟨s, rfl, rfl, rfl, hmax⟩ := open_string Tryd.underlying9 (hval 3 9 v3 rfl rfl) h3
  obtain ⟨ada, ca, A, rfl, hA', ha⟩ := open_vec w0 h0
  obtain ⟨adb, cb, B, rfl, hB', hb⟩ := open_vec w1 h1
  obtain ⟨adc, cc, C, rfl, hC', hc⟩ := open_vec w2 h2
  have hsz : s.data.toList.length ≤ 1048576 ∧ Rows.uptoBulk d0 ≤ 1048576 ∧ Rows.uptoBulk d1 ≤ 1048576 ∧ Rows.uptoBulk d2 ≤ 1048576 := by
    have h : Rows.uptoBulkAll ([d0, d1, d2, .lit (.string s.data.toList)] ++ []) ≤ 1048576 := of_decide_eq_true hk
    simp only [List.append_nil, Rows.uptoBulkAll, Rows.uptoBulk] at h
    omega
  have hw := dotMerges_walk ada adb adc ca cb cc A B C s.data.toList W hsz.1 hT ha hb hc (by omega) (by omega) (by omega)
  refine hw.mono fun e W' ⟨he, hbl⟩ => ?_
  subst he
  exact ⟨_, rfl, law_post (by kernel_rfl) (by
    rw [Tryd.params3]
    intro t ht
    have hm : t ∈ [22, 9] := by simp at ht ⊢; exact ht
    have hall : ([22, 9].all fun u => Tryd.prog.readableRec u && decide (u < Tryd.prog.types.size)) = true := by kernel_rfl
    have := List.all_eq_true.1 hall t hm
    rw [Bool.and_eq_true] at this
    exact ⟨this.1, of_decide_eq_true this.2⟩) rfl hW' rfl rfl rfl hbl⟩
theorem dotMerges_reads (os : Os) {H : Type} (enc : TypeId × Value → H) : ∃ places, DataW.whole enc Tryd.prog ((World.laidAll Tryd.prog os Rows.dotMergesUptoRow.laid).forCall (fun _ _ => 0) ⟨#[], #[.slice none 0 0, .slice none 0 0, .slice none 0 0, .string ⟨#[]⟩], []⟩).memory Tryd.f3.params.toList Rows.dotMergesSpec.vars false #[Value.slice none 0 0, .slice none 0 0, .slice none 0 0, .string ⟨#[]⟩].toList 8 = some ([.nil, .nil, .nil, .lit (.string [])], [], places) :=
  ⟨[], by kernel_rfl⟩
set_option maxRecDepth 100000 in
theorem dotMerges_lifted (os : Os) (started : os.Started) (H : Type) (enc : TypeId × Value → H) (F : Stop.Interp) :
    ReturnsInHanded {} Tryd.checked os 3 .any ((Rows.OpenSpec.upto Rows.dotMergesSpec).preRow enc Tryd.prog Tryd.f3 Rows.dotMergesUptoRow.domain false Rows.dotMergesUptoRow.laid) (((Rows.OpenSpec.upto Rows.dotMergesSpec).at F).post enc Tryd.prog Tryd.f3 false true false false) := by
  obtain ⟨places, hx⟩ := dotMerges_reads os enc
  refine returnsInHanded_of_row (C := Tryd.checked) (s := Rows.OpenSpec.upto Rows.dotMergesSpec) Tryd.own started (by kernel_rfl) Tryd.func3
    (witness_row_zip (enc := enc) (C := Tryd.checked) false (World.laidAll Tryd.prog os Rows.dotMergesUptoRow.laid) #[.slice none 0 0, .slice none 0 0, .slice none 0 0, .string ⟨#[]⟩] (World.laidAll_os _ _ _) (World.shaped_of_ZipB (by kernel_rfl) (by kernel_rfl)) (by kernel_rfl)
      (OpenSpec.preRow_of_cond 8 hx (by kernel_rfl) (fun k hk => by cases hk; kernel_rfl) (by kernel_rfl) (by rw [MakeChecks.laidMetH_plain _ _ _ (by kernel_rfl)]; exact laidMet_laidAll _ (by kernel_rfl) (by kernel_rfl)))) ?_
  intro W base args ds gs before hval hW _ hcond _ hL hsh _
  exact dotMerges_contract H enc W base args ds gs before hval hW (hcond _ rfl) hL hsh
theorem dotMerges_upto : Rows.DotMergesUptoSaid :=
  OpenClaim.holds_of_cond 3 Tryd.f3 rfl rfl rfl rfl rfl rfl rfl ⟨rfl, rfl, rfl, rfl, rfl⟩ rfl rfl rfl rfl rfl (by kernel_rfl) Tryd.func3 (by kernel_rfl)
    (of_decide_eq_true (by kernel_rfl)) (by unfold Func.isWrapper; first | (rw [if_pos (by decide +kernel)]; kernel_rfl) | (rw [if_neg (by decide +kernel)]; exact ⟨rfl, rfl⟩))
    (fun os started H enc _ F => by rw [OpenClaim.pre_eq_preRow]; exact dotMerges_lifted os started H enc F)
theorem dotMerges_plain (f : FuncId) (fn : Func) (hf : Tryd.pinned.checked.prog.funcNamed Rows.dotMergesUptoRow.func = some f) (hfn : Tryd.pinned.checked.prog.funcs[f]? = some fn) :
    true = Tryd.pinned.checked.prog.looks [] ∧ ∀ (j : Nat) t, fn.params[j]? = some t → Tryd.pinned.checked.prog.wantsStandIn t = false := by
  obtain rfl : f = 3 := Option.some.inj ((show Tryd.prog.funcNamed Rows.dotMergesUptoRow.func = some 3 by kernel_rfl).symm.trans hf) |>.symm
  obtain rfl : fn = Tryd.f3 := (Option.some.inj (Tryd.func3.symm.trans hfn)).symm
  refine ⟨by kernel_rfl, fun j t ht => ?_⟩
  rw [Tryd.params3] at ht
  have hm : t ∈ [22, 9] := by
    have := Array.mem_of_getElem? ht
    simp at this ⊢; exact this
  have hall : ([22, 9].all fun u => !Tryd.prog.wantsStandIn u) = true := by kernel_rfl
  exact (show Tryd.prog.wantsStandIn t = false by simpa using List.all_eq_true.1 hall t hm)
theorem dotMerges_card : Rows.DotMergesUptoCardSaid :=
  Claim7.holds_tied_plain_at .later [] _ _ _ _ dotMerges_upto (fun _ h => by cases h) (by kernel_rfl) (fun _ h => by cases h) dotMergesUpto_row_tie rfl ⟨rfl, rfl⟩ (by kernel_rfl) rfl dotMerges_plain (by kernel_rfl)
#print axioms dotMerges_card
end Go.Proofs.YtlbnafnbjgageaaDoor
