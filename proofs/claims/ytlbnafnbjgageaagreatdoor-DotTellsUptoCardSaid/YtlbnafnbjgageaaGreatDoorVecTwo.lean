/- Two vectors, by the contracts: together, one against the other; two lists of numbers alike. -/
import Derived.Test.YtlbnafnbjgageaaGreatDoorVec
import Derived.Deep.QuietTactic
import Derived.BigQuiet
namespace Go.Proofs.YtlbnafnbjgageaaGreatDoor
open Go.RowKit
def bothErr (a b : List Int) : Int := if vecErr a ≠ 0 then vecErr a else vecErr b
theorem bothErr_0 {a b : List Int} (h : bothErr a b = 0) : vecErr a = 0 ∧ vecErr b = 0 := by
  unfold bothErr at h
  split at h
  · contradiction
  · rename_i g; exact ⟨by simpa using g, h⟩
def vmax (a b : List Int) : List Int := List.zipWith max a b
def vless (a b : List Int) : Bool := (List.zipWith (fun x y => decide (x < y)) a b).any id
set_option maxRecDepth 100000 in
set_option maxHeartbeats 1000000 in
theorem same_ints {G G' : Nat → Prop} (ad ad' : Option Addr) (cap cap' : Nat) (A B : List Int) (w : World) (r : Bool) (hr : decide (A = B) = r) (hl : A.length ≤ 1000000000000000) (hl' : B.length ≤ 1000000000000000) (h : Row w G 1 intCells ad A) (h' : Row w G' 1 intCells ad' B) :
    Calls Tryz.prog 35 #[.slice ad A.length cap, .slice ad' B.length cap'] w fun e w' => e = .returned (.bool r) ∧ Below w.heap.size w w' := by
  have H := Lib.hid h
  have H' := Lib.hid h'
  have HR := Lib.hid hr
  clear h h' hr
  by_cases hlen : A.length = B.length
  · have hle : ((A.length : Int) != (B.length : Int)) = false := by simp [hlen]
    have HL := Lib.hid hlen
    clear hlen
    go_enter Tryz.func35, Tryz.ntmps35
    go_wp2
    go_loopw [5] (fun i wr => ∃ k : Nat, k ≤ A.length ∧ i = .int .i64 k ∧ Hid (∀ j, j < k → A[j]? = B[j]?) ∧ Hid (Below w.heap.size w wr)) (fun i _ => A.length - (intOf i).toNat)
    case atStart => exact ⟨0, Nat.zero_le _, rfl, fun j hj => absurd hj (by omega), Below.refl _ _⟩
    case round =>
      obtain ⟨k, hk, rfl, HP, HB⟩ := hrel
      by_cases hlt : k < A.length
      · obtain ⟨x, hx⟩ : ∃ x, A[k]? = some x := ⟨_, List.getElem?_eq_getElem hlt⟩
        obtain ⟨y, hy⟩ : ∃ y, B[k]? = some y := ⟨_, List.getElem?_eq_getElem (by have := HL.out; omega)⟩
        have hlt' : k < B.length := by have := HL.out; omega
        obtain ⟨b, off, rfl, -, c0⟩ := int_at (H.out.below intCells_ne HB.out) hx
        obtain ⟨b', off', rfl, -, c0'⟩ := int_at (H'.out.below intCells_ne HB.out) hy
        have HX := Lib.hid hx
        have HY := Lib.hid hy
        clear hx hy
        by_cases hxy : x = y
        · subst hxy
          go_wp2
          go_quiet (fail)
          go_wp2
          go_roundw
          case rel =>
            refine ⟨k + 1, by omega, by go_num, fun j hj => ?_, below_drewN HB.out nq⟩
            by_cases e : j = k
            · subst e; rw [HX.out, HY.out]
            · exact HP.out j (by omega)
          case measure => simp [intOf]; omega
        · have hne : (x != y) = true := by simp [hxy]
          have hr2 : r = false := by
            rw [← HR.out]
            simp only [decide_eq_false_iff_not]
            intro e; subst e
            have := HX.out.symm.trans HY.out
            exact hxy (Option.some.inj this)
          have HR2 := Lib.hid hr2
          clear hr2
          go_wp2
          go_quiet (fail)
          go_wp2
          go_ret
          exact ⟨ret_eq (by rw [HR2.out]; rfl), below_drewN HB.out nq⟩
      · have hr2 : r = true := by
          rw [← HR.out]
          simp only [decide_eq_true_eq]
          refine List.ext_getElem? fun j => ?_
          by_cases hj : j < A.length
          · exact HP.out j (by omega)
          · rw [List.getElem?_eq_none (by omega), List.getElem?_eq_none (by have := HL.out; omega)]
        have HR2 := Lib.hid hr2
        clear hr2
        go_wp2
        go_ret
        exact ⟨ret_eq (by rw [HR2.out]; rfl), HB.out⟩
  · have hle : ((A.length : Int) != (B.length : Int)) = true := by simp; omega
    have hr2 : r = false := by
      rw [← HR.out]
      simp only [decide_eq_false_iff_not]
      intro e; subst e; exact hlen rfl
    have HR2 := Lib.hid hr2
    clear hr2 hlen
    go_enter Tryz.func35, Tryz.ntmps35
    go_wp2
    go_ret
    exact ⟨ret_eq (by rw [HR2.out]; rfl), Below.refl _ _⟩
set_option maxRecDepth 100000 in
theorem both_is {G G' : Nat → Prop} (ad ad' : Option Addr) (cap cap' : Nat) (A B : List Int) (w : World) (r : Int) (hr : bothErr A B = r) (hl : A.length ≤ 1000000000000000) (hl' : B.length ≤ 1000000000000000) (h : Row w G 1 intCells ad A) (h' : Row w G' 1 intCells ad' B) :
    Calls Tryz.prog 145 #[.slice ad A.length cap, .slice ad' B.length cap'] w fun e w' => e = .returned (errV r) ∧ w = w' := by
  obtain ⟨q, hq⟩ : ∃ q, vecErr A = q := ⟨_, rfl⟩
  have HA := Lib.hid (vector_to ad cap A w q hq hl h)
  by_cases h0 : q = 0
  · subst h0
    have hr2 : vecErr B = r := by rw [← hr]; unfold bothErr; rw [if_neg (by simp [hq])]
    have HB := Lib.hid (vector_to ad' cap' B w r hr2 hl' h')
    clear h h' hq hr hr2
    go_enter Tryz.func145, Tryz.ntmps145
    go_wp2_with fail
    refine HA.out.mono ?_
    rintro e w1 ⟨rfl, rfl⟩
    rw [errV_0]
    go_wp2_with fail
    refine HB.out.mono ?_
    rintro e w1 ⟨rfl, rfl⟩
    go_wp2_with fail
    go_ret
    exact ⟨rfl, rfl⟩
  · have hr2 : q = r := by rw [← hr]; unfold bothErr; rw [hq, if_pos h0]
    rw [← hr2, errV_ne h0]
    clear h h' hq hr hr2 hl hl'
    rw [errV_ne h0] at HA
    go_enter Tryz.func145, Tryz.ntmps145
    go_wp2_with fail
    refine HA.out.mono ?_
    rintro e w1 ⟨rfl, rfl⟩
    go_wp2_with fail
    go_ret
    exact ⟨rfl, rfl⟩
theorem both_ok {G G' : Nat → Prop} (ad ad' : Option Addr) (cap cap' : Nat) (A B : List Int) (w : World) (hr : bothErr A B = 0) (hl : A.length ≤ 1000000000000000) (hl' : B.length ≤ 1000000000000000) (h : Row w G 1 intCells ad A) (h' : Row w G' 1 intCells ad' B) :
    Calls Tryz.prog 145 #[.slice ad A.length cap, .slice ad' B.length cap'] w fun e w' => e = .returned .nilIface ∧ w = w' := both_is ad ad' cap cap' A B w 0 hr hl hl' h h'
theorem both_bad {G G' : Nat → Prop} (ad ad' : Option Addr) (cap cap' : Nat) (A B : List Int) (w : World) (r : Int) (hr : bothErr A B = r) (h0 : r ≠ 0) (hl : A.length ≤ 1000000000000000) (hl' : B.length ≤ 1000000000000000) (h : Row w G 1 intCells ad A) (h' : Row w G' 1 intCells ad' B) :
    Calls Tryz.prog 145 #[.slice ad A.length cap, .slice ad' B.length cap'] w fun e w' => e = .returned (.iface 160 (.int .i64 r)) ∧ w = w' := by
  have := both_is ad ad' cap cap' A B w r hr hl hl' h h'
  rw [errV_ne h0] at this; exact this
set_option maxRecDepth 100000 in
theorem merge_bad {G G' : Nat → Prop} (ad ad' : Option Addr) (cap cap' : Nat) (A B : List Int) (w : World) (r : Int) (hr : bothErr A B = r) (h0 : r ≠ 0) (hl : A.length ≤ 1000000000000000) (hl' : B.length ≤ 1000000000000000) (h : Row w G 1 intCells ad A) (h' : Row w G' 1 intCells ad' B) :
    Calls Tryz.prog 64 #[.slice ad A.length cap, .slice ad' B.length cap'] w fun e w' => e = .returned (.tuple #[.slice none 0 0, .iface 160 (.int .i64 r)]) ∧ w = w' := by
  have HA := Lib.hid (both_bad ad ad' cap cap' A B w r hr h0 hl hl' h h')
  clear h h' hr hl hl' h0
  go_enter Tryz.func64, Tryz.ntmps64
  go_wp2_with fail
  refine HA.out.mono ?_
  rintro e w1 ⟨rfl, rfl⟩
  go_wp2_with fail
  go_ret2
  exact ⟨rfl, rfl⟩
theorem vmax_step {A B : List Int} {k : Nat} {x y : Int} (hx : A[k]? = some x) (hy : B[k]? = some y) (hl : A.length = B.length) :
    ((vmax A B).take k ++ A.drop k)[k]? = some x ∧ ((vmax A B).take k ++ A.drop k).set k (max x y) = (vmax A B).take (k + 1) ++ A.drop (k + 1) := by
  obtain ⟨h1, rfl⟩ := List.getElem?_eq_some_iff.1 hx
  obtain ⟨h2, rfl⟩ := List.getElem?_eq_some_iff.1 hy
  have hv : (vmax A B).length = A.length := by simp [vmax]; omega
  have ht : ((vmax A B).take k).length = k := by simp; omega
  constructor
  · rw [List.getElem?_append_right (by omega), ht]; simp
  · have e1 : A.drop k = A[k] :: A.drop (k + 1) := List.drop_eq_getElem_cons h1
    have e2 : (vmax A B).take (k + 1) = (vmax A B).take k ++ [max A[k] B[k]] := by
      rw [List.take_add_one, List.getElem?_eq_getElem (by omega)]
      simp [vmax]
    rw [List.set_append_right _ _ (by omega), ht, e1, e2, Nat.sub_self, List.set_cons_zero, List.append_assoc]; rfl
set_option maxRecDepth 100000 in
set_option maxHeartbeats 2000000 in
theorem merge_ok {G G' : Nat → Prop} (ad ad' : Option Addr) (cap cap' : Nat) (A B : List Int) (w : World) (hr : bothErr A B = 0) (h : Row w G 1 intCells ad A) (h' : Row w G' 1 intCells ad' B) :
    Calls Tryz.prog 64 #[.slice ad A.length cap, .slice ad' B.length cap'] w fun e w' => ∃ g cp, e = .returned (.tuple #[.slice (some ⟨g, 0, none⟩) 8 cp, .nilIface]) ∧ w'.ownsRow w.heap.size 3 1 (.slice (some ⟨g, 0, none⟩) 8 cp) 8 ((vmax A B).flatMap intCells) ∧ Below w.heap.size w w' := by
  have hA := vecErr_len (bothErr_0 hr).1
  have hB := vecErr_len (bothErr_0 hr).2
  have HA := Lib.hid (both_ok ad ad' cap cap' A B w hr (by omega) (by omega) h h')
  have HC := Lib.hid ((clone_ints ad cap A w (by omega) h).mono fun _ _ h => h.at_ (by omega))
  have H' := Lib.hid h'
  have H8 := Lib.hid hA
  have H8' := Lib.hid hB
  unfold FreshAt at HC
  rw [hA, hB] at HA
  rw [hA] at HC
  clear h h' hr
  rw [hA, hB]
  clear hA hB
  go_enter Tryz.func64, Tryz.ntmps64
  go_wp2_with fail
  refine HA.out.mono ?_
  rintro e w1 ⟨rfl, rfl⟩
  go_wp2_with fail
  refine HC.out.mono ?_
  rintro e w1 ⟨g, cp, rfl, hown, hb1, hs1, hg, hgl⟩
  have HO := Lib.hid hown
  have HB1 := Lib.hid hb1
  clear hown hb1
  go_wp2_with fail
  go_loopw [20] (fun i wr => ∃ k : Nat, k ≤ 8 ∧ i = .int .i64 k ∧ Hid (wr.ownsRow w.heap.size 3 1 (.slice (some ⟨g, 0, none⟩) 8 cp) 8 (((vmax A B).take k ++ A.drop k).flatMap intCells)) ∧ Hid (Below w.heap.size w wr)) (fun i _ => 8 - (intOf i).toNat)
  case atStart => exact ⟨0, Nat.zero_le _, rfl, Lib.hid (by simpa using HO.out), HB1.out⟩
  case round =>
    obtain ⟨k, hk, rfl, HR, HW⟩ := hrel
    by_cases hlt : k < 8
    · obtain ⟨x, hx⟩ : ∃ x, A[k]? = some x := ⟨_, List.getElem?_eq_getElem (by have := H8.out; omega)⟩
      obtain ⟨y, hy⟩ : ∃ y, B[k]? = some y := ⟨_, List.getElem?_eq_getElem (by have := H8'.out; omega)⟩
      obtain ⟨b', off', rfl, -, c0'⟩ := int_at (H'.out.below intCells_ne HW.out) hy
      have HV := Lib.hid (vmax_step hx hy (H8.out.trans H8'.out.symm))
      have k0 : wr.cell? ⟨g, k, none⟩ = some (.int .i64 x) := by
        rw [HR.out.cellAt k (by omega), flat_ints]
        rw [List.getElem?_map, HV.out.1]; rfl
      have k1 : wr.frozen? ⟨g, k, none⟩ = false := HR.out.frozenAt k
      clear hx hy
      have HM := Lib.hid (show (if x < y then y else x) = max x y by split <;> omega)
      go_wp2_with fail
      go_roundw
      case rel =>
        refine ⟨k + 1, by omega, by go_num, Lib.hid ?_, HW.out.setCell (by simp; omega) _⟩
        have hst := HR.out.stored k (.int .i64 (max x y))
        have hfl : (((vmax A B).take (k + 1) ++ A.drop (k + 1))).flatMap intCells = (((vmax A B).take k ++ A.drop k).flatMap intCells).set k (.int .i64 (max x y)) := by
          rw [← HV.out.2, flat_ints, flat_ints, List.map_set]
        rw [hfl, HM.out]
        exact hst.1
      case measure => simp [intOf]; omega
    · have hk8 : k = 8 := by omega
      subst hk8
      have HF := Lib.hid (show (vmax A B).take 8 ++ A.drop 8 = vmax A B by
        rw [List.take_of_length_le (by simp [vmax]; have := H8.out; omega), List.drop_eq_nil_of_le (by have := H8.out; omega), List.append_nil])
      go_wp2_with fail
      go_ret2
      refine ⟨g, cp, rfl, ?_, HW.out⟩
      have := HR.out
      rw [HF.out] at this; exact this
end Go.Proofs.YtlbnafnbjgageaaGreatDoor
