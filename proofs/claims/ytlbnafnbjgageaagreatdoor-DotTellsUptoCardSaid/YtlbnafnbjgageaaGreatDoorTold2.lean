/- plain.Told and leafsame.Error, by their contracts. -/
import Derived.Test.YtlbnafnbjgageaaGreatDoorTold
namespace Go.Proofs.YtlbnafnbjgageaaGreatDoor
open Go.RowKit Go.Extern.Stop Go.Stop Go.Extern
/-- The variable errors.errorType holds the handle of the type error. -/
def ErrWorld (w : World) : Prop := w.cell? ⟨0, 0, none⟩ = some (.iface 379 (.agg #[.pointer (some ⟨10, 32, none⟩)]))
theorem ErrWorld.below {w w' : World} (h : ErrWorld w) (hb : Below w.heap.size w w') : ErrWorld w' := (hb.cell (p := ⟨0, 0, none⟩) (lt_of_cell h)).trans h
set_option maxRecDepth 100000 in
set_option maxHeartbeats 4000000 in
theorem as_hit (n : Int) (t : Addr) (old : Value) (w : World) (hg : w.cell? ⟨0, 0, none⟩ = some (.iface 379 (.agg #[.pointer (some ⟨10, 32, none⟩)]))) (ht0 : w.cell? t = some old) (hf0 : w.frozen? t = false) :
    Calls Tryz.prog 197 #[.iface 160 (.int .i64 n), .iface 286 (.pointer (some t))] w fun ev w' => ev = .returned (.bool true) ∧ w' = ((((w.alloc (.cells #[.pointer (some t)] 286)).alloc (.cells #[.pointer (some ⟨10, 286, none⟩), .pointer (some ⟨w.heap.size, 0, none⟩), .int .u64 150] 339)).alloc (.cells #[.pointer (some ⟨10, 286, none⟩), .pointer (some ⟨w.heap.size, 0, none⟩), .int .u64 150] 339)).alloc (.cells #[.int .i64 n] 160)).setCell t (.int .i64 n) := by
  have h6 := @run_callFunc_extern Tryz.prog 255 _ (fun args => ReflectliteValue.unpack (args.getD 0 (.tuple #[]))) Tryz.func255 (by kernel_rfl) (by kernel_rfl) (by kernel_rfl) (by kernel_rfl)
  have h7 := @run_callFunc_extern Tryz.prog 256 _ (ReflectliteValue.methodAny (ReflectliteValue.valueError "reflectlite.Value.Type" 0) (fun t _ _ _ => ReflectliteType.toType t)) Tryz.func256 (by kernel_rfl) (by kernel_rfl) (by kernel_rfl) (by kernel_rfl)
  have h8 := @run_callFunc_extern Tryz.prog 257 _ (ReflectliteValue.method (ReflectliteValue.valueError "reflectlite.Value.IsNil" 0) ReflectliteValue.isNil) Tryz.func257 (by kernel_rfl) (by kernel_rfl) (by kernel_rfl) (by kernel_rfl)
  have h27 := @run_callFunc_extern Tryz.prog 388 _ (ReflectliteType.abiMethod fun t => do pure (.int .u8 (← Rtype.kind t))) Tryz.func388 (by kernel_rfl) (by kernel_rfl) (by kernel_rfl) (by kernel_rfl)
  have h37 := @run_callFunc_extern Tryz.prog 401 _ (ReflectliteType.method ReflectliteType.elem) Tryz.func401 (by kernel_rfl) (by kernel_rfl) (by kernel_rfl) (by kernel_rfl)
  have h38 := @run_callFunc_extern Tryz.prog 402 _ (ReflectliteType.relation "Implements" ReflectliteType.implements_) Tryz.func402 (by kernel_rfl) (by kernel_rfl) (by kernel_rfl) (by kernel_rfl)
  have h10 := @run_callFunc_extern Tryz.prog 297 _ ReflectliteType.typeOf Tryz.func297 (by kernel_rfl) (by kernel_rfl) (by kernel_rfl) (by kernel_rfl)
  have h35 := @run_callFunc_extern Tryz.prog 399 _ (ReflectliteType.relation "AssignableTo" ReflectliteType.assignableTo) Tryz.func399 (by kernel_rfl) (by kernel_rfl) (by kernel_rfl) (by kernel_rfl)
  have h11 := @run_callFunc_extern Tryz.prog 298 _ (ReflectliteValue.method (ReflectliteValue.valueError "reflectlite.Value.Elem" 0) ReflectliteValue.elem) Tryz.func298 (by kernel_rfl) (by kernel_rfl) (by kernel_rfl) (by kernel_rfl)
  have h12 := @run_callFunc_extern Tryz.prog 299 _ ReflectliteValue.set Tryz.func299 (by kernel_rfl) (by kernel_rfl) (by kernel_rfl) (by kernel_rfl)
  have tO := Tryz.tTypeOfE
  have mA := Tryz.tMethodAssignable
  have a25 := Tryz.tAssignableE
  have v25 := Tryz.tValueOfE
  have f6 := Tryz.tValueOfP
  have f7 := Tryz.tTypeP
  have mK := Tryz.tMethodKind
  have mE := Tryz.tMethodElem
  have mI := Tryz.tMethodImplements
  have k27 := Tryz.tKindP
  have k25 := Tryz.tKindE
  have e27 := Tryz.tElemP
  have i25 := Tryz.tImplementsE
  have n8 := Tryz.tIsNilP ⟨w.heap.size, 0, none⟩ t ((w.alloc (.cells #[.pointer (some t)] 286)).alloc (.cells #[.pointer (some ⟨10, 286, none⟩), .pointer (some ⟨w.heap.size, 0, none⟩), .int .u64 150] 339)) (by simp)
  have hlt : 0 < w.heap.size := lt_of_cell hg
  have hg2 : ((w.alloc (.cells #[.pointer (some t)] 286)).alloc (.cells #[.pointer (some ⟨10, 286, none⟩), .pointer (some ⟨w.heap.size, 0, none⟩), .int .u64 150] 339)).cell? ⟨0, 0, none⟩ = some (.iface 379 (.agg #[.pointer (some ⟨10, 32, none⟩)])) := by
    rw [World.cell?_alloc_lt _ _ ⟨0, 0, none⟩ (by simp), World.cell?_alloc_lt _ _ ⟨0, 0, none⟩ hlt]; exact hg
  have htl : t.block < w.heap.size := by
    rcases Nat.lt_or_ge t.block w.heap.size with h | h
    · exact h
    · simp [World.cell?, Array.getElem?_eq_none h] at ht0
  have el := Tryz.tElemVP ⟨w.heap.size, 0, none⟩ t (((w.alloc (.cells #[.pointer (some t)] 286)).alloc (.cells #[.pointer (some ⟨10, 286, none⟩), .pointer (some ⟨w.heap.size, 0, none⟩), .int .u64 150] 339)).alloc (.cells #[.pointer (some ⟨10, 286, none⟩), .pointer (some ⟨w.heap.size, 0, none⟩), .int .u64 150] 339)) (by rw [World.cell?_alloc_lt _ _ ⟨w.heap.size, 0, none⟩ (by simp; omega)]; simp)
  have st := Tryz.tSetE t ⟨w.heap.size + 1 + 1 + 1, 0, none⟩ n old ((((w.alloc (.cells #[.pointer (some t)] 286)).alloc (.cells #[.pointer (some ⟨10, 286, none⟩), .pointer (some ⟨w.heap.size, 0, none⟩), .int .u64 150] 339)).alloc (.cells #[.pointer (some ⟨10, 286, none⟩), .pointer (some ⟨w.heap.size, 0, none⟩), .int .u64 150] 339)).alloc (.cells #[.int .i64 n] 160))
    (by rw [World.cell?_alloc_at _ _ _ _ (by simp)]; rfl)
    (by rw [World.cell?_alloc_lt _ _ t (by simp; omega), World.cell?_alloc_lt _ _ t (by simp; omega), World.cell?_alloc_lt _ _ t (by simp; omega), World.cell?_alloc_lt _ _ t htl]; exact ht0)
    (by rw [World.frozen?_alloc_old _ _ t (by simp; omega), World.frozen?_alloc_old _ _ t (by simp; omega), World.frozen?_alloc_old _ _ t (by simp; omega), World.frozen?_alloc_old _ _ t (Nat.ne_of_lt htl)]; exact hf0)
  go_enter Tryz.func197, Tryz.ntmps197
  go_wp2
  refine wp_loop_rounds 1 ?_
  rw [rounds_succ]
  go_wp2
  go_ret
  exact ⟨rfl, rfl⟩
end Go.Proofs.YtlbnafnbjgageaaGreatDoor
