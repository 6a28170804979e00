/- Which of two vectors knows more, by its contract. -/
import Derived.Test.YtlbnafnbjgageaaGreatDoorVecTwo
namespace Go.Proofs.YtlbnafnbjgageaaGreatDoor
open Go.RowKit
def cmpInt (a b : List Int) : Int := if vless a b && vless b a then 0 else if vless a b then -1 else if vless b a then 1 else 0
def cmpIs (a b : List Int) : Bool := !(vless a b && vless b a)
theorem vless_step {A B : List Int} {k : Nat} {x y : Int} (hx : A[k]? = some x) (hy : B[k]? = some y) :
    vless (A.take (k + 1)) (B.take (k + 1)) = (vless (A.take k) (B.take k) || decide (x < y)) := by
  obtain ⟨h1, rfl⟩ := List.getElem?_eq_some_iff.1 hx
  obtain ⟨h2, rfl⟩ := List.getElem?_eq_some_iff.1 hy
  unfold vless
  rw [List.take_succ_eq_append_getElem h1, List.take_succ_eq_append_getElem h2, List.zipWith_append (by simp; omega)]
  simp
set_option maxRecDepth 100000 in
theorem compare_bad {G G' : Nat → Prop} (ad ad' : Option Addr) (cap cap' : Nat) (A B : List Int) (w : World) (r : Int) (hr : bothErr A B = r) (h0 : r ≠ 0) (hl : A.length ≤ 1000000000000000) (hl' : B.length ≤ 1000000000000000) (h : Row w G 1 intCells ad A) (h' : Row w G' 1 intCells ad' B) :
    Calls Tryz.prog 65 #[.slice ad A.length cap, .slice ad' B.length cap'] w fun e w' => e = .returned (.tuple #[.int .i64 0, .bool false, .iface 160 (.int .i64 r)]) ∧ w = w' := by
  have HA := Lib.hid (both_bad ad ad' cap cap' A B w r hr h0 hl hl' h h')
  clear h h' hr hl hl' h0
  go_enter Tryz.func65, Tryz.ntmps65
  go_wp2_with fail
  refine HA.out.mono ?_
  rintro e w1 ⟨rfl, rfl⟩
  go_wp2_with fail
  first | go_ret3 | go_ret2 | go_ret
  exact ⟨rfl, rfl⟩
set_option maxRecDepth 100000 in
set_option maxHeartbeats 4000000 in
theorem compare_ok {G G' : Nat → Prop} (ad ad' : Option Addr) (cap cap' : Nat) (A B : List Int) (w : World) (hr : bothErr A B = 0) (h : Row w G 1 intCells ad A) (h' : Row w G' 1 intCells ad' B) :
    Calls Tryz.prog 65 #[.slice ad A.length cap, .slice ad' B.length cap'] w fun e w' => e = .returned (.tuple #[.int .i64 (cmpInt A B), .bool (cmpIs A B), .nilIface]) ∧ Below w.heap.size w w' := by
  have hA := vecErr_len (bothErr_0 hr).1
  have hB := vecErr_len (bothErr_0 hr).2
  have HA := Lib.hid (both_ok ad ad' cap cap' A B w hr (by omega) (by omega) h h')
  have H := Lib.hid h
  have H' := Lib.hid h'
  have H8 := Lib.hid hA
  have H8' := Lib.hid hB
  rw [hA, hB] at HA
  clear h h' hr
  rw [hA, hB]
  clear hA hB
  go_enter Tryz.func65, Tryz.ntmps65
  go_wp2_with fail
  refine HA.out.mono ?_
  rintro e w1 ⟨rfl, rfl⟩
  go_wp2_with fail
  go_loopw [19, 8, 9] (fun i lv mv wr => ∃ k : Nat, ∃ p q : Bool, k ≤ 8 ∧ i = .int .i64 k ∧ lv = .bool p ∧ mv = .bool q ∧ Hid (vless (A.take k) (B.take k) = p ∧ vless (B.take k) (A.take k) = q) ∧ Hid (Below w.heap.size w wr)) (fun i _ _ _ => 8 - (intOf i).toNat)
  case atStart => exact ⟨0, false, false, Nat.zero_le _, rfl, rfl, rfl, Lib.hid (by simp [vless]), Lib.hid (Below.refl _ _)⟩
  case round =>
    obtain ⟨k, p, q, hk, rfl, rfl, rfl, HP, HW⟩ := hrel
    by_cases hlt : k < 8
    · obtain ⟨x, hx⟩ : ∃ x, A[k]? = some x := ⟨_, List.getElem?_eq_getElem (by have := H8.out; omega)⟩
      obtain ⟨y, hy⟩ : ∃ y, B[k]? = some y := ⟨_, List.getElem?_eq_getElem (by have := H8'.out; omega)⟩
      obtain ⟨b, off, rfl, -, c0⟩ := int_at (H.out.below intCells_ne HW.out) hx
      obtain ⟨b', off', rfl, -, c0'⟩ := int_at (H'.out.below intCells_ne HW.out) hy
      have HV := Lib.hid (vless_step hx hy)
      have HV' := Lib.hid (vless_step hy hx)
      clear hx hy
      have e1 : ∀ n (wz : World), (wz.drewN n).cell? ⟨b, off + k, none⟩ = wz.cell? ⟨b, off + k, none⟩ := fun _ _ => rfl
      have e2 : ∀ n (wz : World), (wz.drewN n).cell? ⟨b', off' + k, none⟩ = wz.cell? ⟨b', off' + k, none⟩ := fun _ _ => rfl
      cases p <;> cases q
      all_goals
        go_wp2
        go_quiet (fail)
        go_wp2
        rename_i nq
        have d0 : (wr.drewN nq).cell? ⟨b, off + k, none⟩ = some (.int .i64 x) := c0
        have d1 : (wr.drewN nq).cell? ⟨b', off' + k, none⟩ = some (.int .i64 y) := c0'
        go_quiet (fail)
        go_wp2
        rename_i nq'
        go_roundw
        case rel =>
          refine ⟨k + 1, _, _, by omega, by go_num, rfl, rfl, Lib.hid ?_, Lib.hid (below_drewN HW.out _)⟩
          rw [HV.out, HV'.out, HP.out.1, HP.out.2]
          constructor <;> simp
        case measure => simp [intOf]; omega
    · have hk8 : k = 8 := by omega
      subst hk8
      have hp : vless A B = p := by have := HP.out.1; rwa [List.take_of_length_le (by have := H8.out; omega), List.take_of_length_le (by have := H8'.out; omega)] at this
      have hq : vless B A = q := by have := HP.out.2; rwa [List.take_of_length_le (by have := H8'.out; omega), List.take_of_length_le (by have := H8.out; omega)] at this
      have HF := Lib.hid (show Ending.returned (.tuple #[.int .i64 (cmpInt A B), .bool (cmpIs A B), .nilIface]) = .returned (.tuple #[.int .i64 (if p && q then 0 else if p then -1 else if q then 1 else 0), .bool (!(p && q)), .nilIface]) by unfold cmpInt cmpIs; rw [hp, hq])
      clear hp hq HP
      cases p <;> cases q
      all_goals
        go_wp2
        first | go_ret3 | go_ret2 | go_ret
        exact ⟨HF.out.symm, HW.out⟩
end Go.Proofs.YtlbnafnbjgageaaGreatDoor
