/- A slice of numbers among a law's arguments: what it reads as. -/
import Derived.Test.YtlbnafnbjgageaaGreatDoorClose
import Derived.Test.YtlbnafnbjgageaaGreatDoorFacts
namespace Go.Proofs.YtlbnafnbjgageaaGreatDoor
open Go.ChangeShapes Go.WideShapes Go.ChangeAt Go.RowKit
theorem bulk_one {H : Type} (d : DataW H) : 1 ≤ Rows.uptoBulk d := by
  cases d with
  | lit l => cases l <;> simp [Rows.uptoBulk]
  | nil => simp [Rows.uptoBulk]
  | ptr d => simp [Rows.uptoBulk]
  | slice elems spare => simp [Rows.uptoBulk]
  | agg parts => simp [Rows.uptoBulk]
  | iface t d => simp [Rows.uptoBulk]
  | map entries => simp [Rows.uptoBulk]
  | held h => simp [Rows.uptoBulk]
theorem bulk_len {H : Type} (l : List (DataW H)) : l.length ≤ Rows.uptoBulkAll l := by
  induction l with
  | nil => simp [Rows.uptoBulkAll]
  | cons x r ih => simp only [List.length_cons, Rows.uptoBulkAll]; have := bulk_one x; omega
set_option maxRecDepth 100000 in
theorem open_vec {H : Type} {enc : TypeId × Value → H} {W : World} {base : Nat} {v : Value} {d : DataW H} {p : List MemPlace} (hval : Value.okWide Tryz.prog W .any base 23 v)
    (h : DataW.Trod enc Tryz.prog W 0 (fun _ => true) true 23 v d p) : ∃ ad cap L, v = .slice ad (List.length L) cap ∧ L.length ≤ Rows.uptoBulk d ∧ Row W (fun b => b < W.heap.size) 1 intCells ad L := by
  obtain ⟨a0, len, cap, rfl⟩ := okWide_slice Tryz.underlying23 hval
  obtain ⟨fuel, hf⟩ := h
  rcases open_ints Tryz.underlying23 Tryz.underlying3 (by kernel_rfl) hf with ⟨hcs, _⟩ | ⟨a, len', cap', zs, hcs, _, hle, hmax, hall, hx, hc, _⟩
  · simp [Value.cells] at hcs
    obtain ⟨rfl, rfl, rfl⟩ := hcs
    exact ⟨none, 0, [], rfl, by simp, Row.nil _ _ _ _ _⟩
  · simp [Value.cells] at hcs
    obtain ⟨rfl, rfl, rfl⟩ := hcs
    simp only [if_true] at hall
    have hlt : (zs.take len).length = len := by simp; omega
    refine ⟨some a, cap, zs.take len, by rw [hlt], by
      obtain ⟨rfl, -⟩ := Prod.mk.inj hx
      rw [Rows.uptoBulk]
      have := bulk_len (lits (H := H) .i64 (zs.take len))
      rw [show (lits (H := H) .i64 (zs.take len)).length = (zs.take len).length by simp [lits]] at this
      omega, fun hne => ?_⟩
    have hp : 0 < zs.length := by
      have := List.length_pos_iff.2 hne
      rw [hlt] at this; omega
    obtain ⟨b, off, rfl, hcell⟩ := ints_at hc hp
    refine ⟨b, off, rfl, lt_of_cell (hcell 0 hp), fun i x hx j u hu => ?_⟩
    have hj : j = 0 := by
      have := (List.getElem?_eq_some_iff.1 hu).1
      simp [intCells] at this; omega
    subst hj
    have hu' : u = .int .i64 x := by
      simp [intCells] at hu
      rw [← hu]
    subst hu'
    have hi : i < len := by
      have := (List.getElem?_eq_some_iff.1 hx).1
      omega
    have hx' : zs.getD i 0 = x := by
      rw [List.getElem?_take_of_lt hi] at hx
      simp [List.getD, hx]
    have := hcell i (by omega)
    rw [hx'] at this
    simpa using this
end Go.Proofs.YtlbnafnbjgageaaGreatDoor
