/- plain.Told and leafsame.Error, by their contracts. -/
import Derived.Test.YtlbnafnbjgageaaGreatDoorTold2
namespace Go.Proofs.YtlbnafnbjgageaaGreatDoor
open Go.RowKit
set_option maxRecDepth 100000 in
theorem told_is (e : Int) (w : World) (hE : ErrWorld w) : Calls Tryz.prog 112 #[errV e] w fun en w' => en = .returned (.int .i64 e) ∧ Below w.heap.size w w' := by
  by_cases h0 : e = 0
  · subst h0
    rw [errV_0]
    go_enter Tryz.func112, Tryz.ntmps112
    go_wp2
    go_ret
    exact ⟨rfl, Below.refl _ _⟩
  · rw [errV_ne h0]
    have ha := as_hit e ⟨w.heap.size, 0, none⟩ (.int .i64 0) (w.alloc (.cells #[.int .i64 0] 160)) (hE.below ((Below.refl _ _).alloc (Nat.le_refl _) _)) (by simp) (blk_free (blk_new w _) 0)
    have HA := Lib.hid ha
    clear ha h0
    go_enter Tryz.func112, Tryz.ntmps112
    go_wp2_with fail
    refine HA.out.mono ?_
    rintro en w1 ⟨rfl, hw1⟩
    have hb1 : Below w.heap.size w w1 := by
      rw [hw1]
      exact Below.setCell (((((((Below.refl _ _).alloc (Nat.le_refl _) _).alloc (by simp) _).alloc (by simp; omega) _).alloc (by simp; omega) _).alloc (by simp; omega) _)) (by simp) _
    have hc : w1.cell? ⟨w.heap.size, 0, none⟩ = some (.int .i64 e) := by
      rw [hw1]
      refine World.cell?_setCell_same _ _ _ (u := .int .i64 0) ?_
      rw [World.cell?_alloc_lt _ _ _ (by simp <;> omega), World.cell?_alloc_lt _ _ _ (by simp <;> omega), World.cell?_alloc_lt _ _ _ (by simp <;> omega), World.cell?_alloc_lt _ _ _ (by simp <;> omega)]
      simp
    clear hw1
    go_wp2_with fail
    go_ret
    exact ⟨rfl, hb1⟩
set_option maxRecDepth 100000 in
theorem same_err (e k : Int) (r : Bool) (hr : decide (e = k) = r) (w : World) (hE : ErrWorld w) : Calls Tryz.prog 30 #[errV e, .int .i64 k] w fun en w' => en = .returned (.bool r) ∧ Below w.heap.size w w' := by
  have HT := Lib.hid (told_is e w hE)
  have HR := Lib.hid hr
  obtain ⟨v, hv⟩ : ∃ v, errV e = v := ⟨_, rfl⟩
  rw [hv] at HT
  rw [hv]
  clear hv hr
  go_enter Tryz.func30, Tryz.ntmps30
  go_wp2_with fail
  refine HT.out.mono ?_
  rintro en w1 ⟨rfl, hb1⟩
  go_wp2_with fail
  go_ret
  exact ⟨ret_eq (by rw [← HR.out]; rfl), hb1⟩
end Go.Proofs.YtlbnafnbjgageaaGreatDoor
