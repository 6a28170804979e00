/- Package dot, by its contracts: one dot, a vector. -/
import Derived.Test.YtlbnafnbjgageaaGreatDoorPlace2
import Derived.Test.YtlbnafnbjgageaaGreatDoorVec
namespace Go.Proofs.YtlbnafnbjgageaaGreatDoor
open Go.RowKit
def dotV (d : Dot) : Value := .agg #[.int .i64 d.who, .int .i64 d.n]
theorem dot_check (d : Dot) (w : World) : Calls Tryz.prog 58 #[.agg #[.int .i64 d.who, .int .i64 d.n]] w fun e w' => e = .returned (errV (dotErr d)) ∧ Below w.heap.size w w' := by
  obtain ⟨a, n⟩ := d
  have hal := (Below.refl w.heap.size w).alloc (Nat.le_refl _) (.cells #[.int .i64 a, .int .i64 n] 27)
  have HB := Lib.hid hal
  clear hal
  by_cases h1 : 1 ≤ a
  · by_cases h2 : a ≤ 8
    · have hau : (decide (1 ≤ a) && decide (a ≤ 8)) = true := by simp [h1, h2]
      have HU := Lib.hid hau
      clear hau
      by_cases h3 : n < 1
      · have HF := Lib.hid (show errV (dotErr ⟨a, n⟩) = .iface 160 (.int .i64 1) by unfold dotErr; rw [if_pos (.inr (.inr (.inl h3)))]; rfl)
        go_enter Tryz.func58, Tryz.ntmps58
        go_wp2_with fail
        refine (author_is _ _ true HU.out).mono ?_
        rintro e w' ⟨rfl, rfl⟩
        go_wp2_with fail
        go_ret
        exact ⟨ret_eq HF.out, HB.out⟩
      · by_cases h4 : 9999 < n
        · have HF := Lib.hid (show errV (dotErr ⟨a, n⟩) = .iface 160 (.int .i64 1) by unfold dotErr; rw [if_pos (.inr (.inr (.inr h4)))]; rfl)
          go_enter Tryz.func58, Tryz.ntmps58
          go_wp2_with fail
          refine (author_is _ _ true HU.out).mono ?_
          rintro e w' ⟨rfl, rfl⟩
          go_wp2_with fail
          go_ret
          exact ⟨ret_eq HF.out, HB.out⟩
        · have HF := Lib.hid (show errV (dotErr ⟨a, n⟩) = .nilIface by unfold dotErr; rw [if_neg (by rintro (x | x | x | x) <;> simp at x <;> omega)]; rfl)
          go_enter Tryz.func58, Tryz.ntmps58
          go_wp2_with fail
          refine (author_is _ _ true HU.out).mono ?_
          rintro e w' ⟨rfl, rfl⟩
          go_wp2_with fail
          go_ret
          exact ⟨ret_eq HF.out, HB.out⟩
    · have HU := Lib.hid (show (decide (1 ≤ a) && decide (a ≤ 8)) = false by simp [h2])
      have HF := Lib.hid (show errV (dotErr ⟨a, n⟩) = .iface 160 (.int .i64 1) by unfold dotErr; rw [if_pos (.inr (.inl (by show 8 < a; omega)))]; rfl)
      go_enter Tryz.func58, Tryz.ntmps58
      go_wp2_with fail
      refine (author_is _ _ false HU.out).mono ?_
      rintro e w' ⟨rfl, rfl⟩
      go_wp2_with fail
      go_ret
      exact ⟨ret_eq HF.out, HB.out⟩
  · have HU := Lib.hid (show (decide (1 ≤ a) && decide (a ≤ 8)) = false by simp [h1])
    have HF := Lib.hid (show errV (dotErr ⟨a, n⟩) = .iface 160 (.int .i64 1) by unfold dotErr; rw [if_pos (.inl (by show a < 1; omega))]; rfl)
    go_enter Tryz.func58, Tryz.ntmps58
    go_wp2_with fail
    refine (author_is _ _ false HU.out).mono ?_
    rintro e w' ⟨rfl, rfl⟩
    go_wp2_with fail
    go_ret
    exact ⟨ret_eq HF.out, HB.out⟩
theorem dot_check_to (d : Dot) (w : World) (r : Int) (h : dotErr d = r) : Calls Tryz.prog 58 #[.agg #[.int .i64 d.who, .int .i64 d.n]] w fun e w' => e = .returned (errV r) ∧ Below w.heap.size w w' := by
  subst h; exact dot_check d w
theorem dot_check_ok (d : Dot) (w : World) (h : dotErr d = 0) : Calls Tryz.prog 58 #[.agg #[.int .i64 d.who, .int .i64 d.n]] w fun e w' => e = .returned .nilIface ∧ Below w.heap.size w w' := dot_check_to d w 0 h
theorem dotErr_01 (d : Dot) : dotErr d = 0 ∨ dotErr d = 1 := by unfold dotErr; split <;> simp
theorem dot_check_bad (d : Dot) (w : World) (h : dotErr d ≠ 0) : Calls Tryz.prog 58 #[.agg #[.int .i64 d.who, .int .i64 d.n]] w fun e w' => e = .returned (.iface 160 (.int .i64 1)) ∧ Below w.heap.size w w' :=
  dot_check_to d w 1 ((dotErr_01 d).resolve_left h)
end Go.Proofs.YtlbnafnbjgageaaGreatDoor
