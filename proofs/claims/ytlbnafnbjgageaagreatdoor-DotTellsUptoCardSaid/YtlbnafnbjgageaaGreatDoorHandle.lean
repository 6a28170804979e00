/- A list of laid variables that holds the handle of the type error: what it gives a walk, and a world that meets it. -/
import Derived.Test.YtlbnafnbjgageaaGreatDoorRows
import Derived.Test.YtlbnafnbjgageaaGreatDoorTold2
import Derived.Lay
import Derived.LaidHandle
import Derived.KernelRfl
namespace Go.Proofs.YtlbnafnbjgageaaGreatDoor
open Go.RowKit
theorem Tryz.rtypeRow : (Tryz.prog.cutTypes.find? (·.1 == "internal/reflectlite.rtype")).map (·.2) = some 379 := by kernel_rfl
theorem Tryz.errorRow : ((List.range Tryz.prog.types.size).filter fun t => Tryz.prog.rowNamed t [101, 114, 114, 111, 114]) = [32] := by kernel_rfl
theorem Tryz.gErrorType : Tryz.prog.globalNamed "errors.errorType" = some 0 := by kernel_rfl
theorem err_of_handles {W : World} (h : handlesMet Tryz.prog [("errors.errorType", Rows.laid_errors_errorType)] W) : ErrWorld W := by
  obtain ⟨name, u, ty, e1, e2, e3, e4, e5⟩ := h _ (List.mem_singleton.2 rfl)
  have en : name = [101, 114, 114, 111, 114] := (Option.some.inj e1).symm
  subst en
  obtain rfl := Option.some.inj (Tryz.rtypeRow.symm.trans e2)
  have hm : ty ∈ (List.range Tryz.prog.types.size).filter fun t => Tryz.prog.rowNamed t [101, 114, 114, 111, 114] := List.mem_filter.2 ⟨List.mem_range.2 e3, e4⟩
  rw [Tryz.errorRow] at hm
  obtain rfl := List.mem_singleton.1 hm
  have hh : typeHandle Tryz.prog 32 = .pointer (some ⟨10, 32, none⟩) := by kernel_rfl
  rw [hh] at e5
  simpa [ErrWorld] using World.var?_cell Tryz.gErrorType e5 0
/-- The world at rest, the handle laid. -/
noncomputable def hWorld (os : Os) : World :=
  let w0 := World.holding Tryz.prog os ⟨#[], #[], []⟩
  { w0 with heap := w0.heap.modify 0 fun
      | .cells _ t frozen => .cells #[.iface 379 (.agg #[.pointer (some ⟨10, 32, none⟩)])] t frozen
      | o => o }
/-- .. and a list of plain data behind it. -/
noncomputable def lWorld (os : Os) (laid : List (String × DataW Unit)) : World := (hWorld os).layVars Tryz.prog laid
theorem lWorld_os (os : Os) (laid : List (String × DataW Unit)) : (lWorld os laid).os = os := (World.layVars_os _ _ _).trans rfl
theorem lWorld_met {os : Os} {laid : List (String × DataW Unit)} (args : Array Value) (hf : (hWorld os).layFits Tryz.prog laid [] = true)
    (hi : (hWorld os).layIfaces Tryz.prog laid (lWorld os laid) = true) : laidMet Tryz.prog laid ((lWorld os laid).forCall (fun _ _ => 0) ⟨#[], args, []⟩).memory := by
  have e1 : (laid.filter fun x => (laid.map (·.1)).contains x.1) = laid := List.filter_eq_self.2 fun x hx => List.contains_iff_mem.2 (List.mem_map.2 ⟨x, hx, rfl⟩)
  have e2 : (laid.filter fun x => !(laid.map (·.1)).contains x.1) = [] := List.filter_eq_nil_iff.2 fun x hx => by rw [List.contains_iff_mem.2 (List.mem_map.2 ⟨x, hx, rfl⟩)]; simp
  have h : laidMet Tryz.prog laid (lWorld os laid) := laidMet_layVars (w0 := hWorld os) (laid.map (·.1)) [] (by rw [e1]; rfl) (by rw [e1]; exact hf) (by rw [e1]; exact hi) (by rw [e2]; exact LaidIn.none)
  exact h.of_heap (by simp [World.memory, World.forCall, Input.heap])
end Go.Proofs.YtlbnafnbjgageaaGreatDoor
