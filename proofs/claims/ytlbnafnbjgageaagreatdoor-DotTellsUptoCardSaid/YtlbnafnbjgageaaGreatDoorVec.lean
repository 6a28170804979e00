/- Vectors, by their contracts. -/
import Derived.Test.YtlbnafnbjgageaaGreatDoorClone
namespace Go.Proofs.YtlbnafnbjgageaaGreatDoor
open Go.RowKit
def vecB (x : Int) : Bool := decide (x < 0) || decide (9999 < x)
def idxV (L : List Int) : Int := if L.any vecB then (L.findIdx vecB : Int) else -1
theorem vec1_is (x : Int) (w : World) (r : Bool) (hr : vecB x = r) : Calls Tryz.prog 141 #[.int .i64 x] w fun e w' => e = .returned (.bool r) ∧ w = w' := by
  subst hr
  by_cases h : x < 0 <;> by_cases k : 9999 < x
  all_goals
    go_enter Tryz.func141, Tryz.ntmps141
    go_wp2
    go_ret
    exact ⟨by simp [vecB, h, k], rfl⟩
set_option maxRecDepth 100000 in
set_option maxHeartbeats 1000000 in
theorem indexVec {G : Nat → Prop} (ad : Option Addr) (cap : Nat) (L : List Int) (w : World) (hl : L.length ≤ 1000000000000000) (h : Row w G 1 intCells ad L) :
    Calls Tryz.prog 220 #[.slice ad L.length cap, .func (.func 141) #[] #[]] w fun e w' => e = .returned (.int .i64 (idxV L)) ∧ w = w' := by
  have H := Lib.hid h
  clear h
  go_enter Tryz.func220, Tryz.ntmps220
  go_wp2
  go_loop [8] (fun i => ∃ k : Nat, k ≤ L.length ∧ i = .int .i64 k ∧ Hid (∀ j x, j < k → L[j]? = some x → vecB x = false)) (fun i => L.length - (intOf i).toNat)
  case atStart => exact ⟨0, Nat.zero_le _, rfl, fun j x hj => absurd hj (by omega)⟩
  case round =>
    obtain ⟨k, hk, rfl, HP⟩ := hrel
    by_cases hlt : k < L.length
    · obtain ⟨x, hx⟩ : ∃ x, L[k]? = some x := ⟨_, List.getElem?_eq_getElem hlt⟩
      obtain ⟨b, off, rfl, -, c0⟩ := int_at H.out hx
      cases hv : vecB x
      · have HX := Lib.hid hx
        have HV := Lib.hid hv
        clear hx hv
        go_wp2_with fail
        refine (vec1_is x _ false HV.out).mono ?_
        rintro e w' ⟨rfl, rfl⟩
        go_wp2_with fail
        go_round
        case rel =>
          refine ⟨k + 1, by omega, by go_num, fun j y hj hy => ?_⟩
          by_cases e : j = k
          · subst e; rw [HX.out] at hy; cases hy; exact HV.out
          · exact HP.out j y (by omega) hy
        case measure => simp [intOf]; omega
      · have hany : L.any vecB = true := List.any_eq_true.2 ⟨x, List.mem_of_getElem? hx, hv⟩
        have hidx : L.findIdx vecB = k := by
          rw [List.findIdx_eq hlt]
          have e : L[k] = x := by rw [List.getElem?_eq_getElem hlt] at hx; exact Option.some.inj hx
          exact ⟨by rw [e]; exact hv, fun j hj => HP.out j _ hj (List.getElem?_eq_getElem (by omega))⟩
        have HF := Lib.hid (show Value.int .i64 (idxV L) = .int .i64 k by unfold idxV; rw [hany, hidx]; rfl)
        have HV := Lib.hid hv
        clear hx hv hany hidx
        go_wp2_with fail
        refine (vec1_is x _ true HV.out).mono ?_
        rintro e w' ⟨rfl, rfl⟩
        go_wp2_with fail
        go_ret
        exact ⟨ret_eq HF.out, rfl⟩
    · have hany : L.any vecB = false := by
        rw [List.any_eq_false]
        intro x hx
        obtain ⟨j, hj, rfl⟩ := List.getElem_of_mem hx
        rw [HP.out j _ (by omega) (List.getElem?_eq_getElem hj)]; simp
      have HF := Lib.hid (show Value.int .i64 (idxV L) = .int .i64 (-1) by unfold idxV; rw [hany]; rfl)
      clear hany
      go_wp2
      go_ret
      exact ⟨ret_eq HF.out, rfl⟩
set_option maxRecDepth 100000 in
theorem containsVec {G : Nat → Prop} (ad : Option Addr) (cap : Nat) (L : List Int) (w : World) (r : Bool) (hr : L.any vecB = r) (hl : L.length ≤ 1000000000000000) (h : Row w G 1 intCells ad L) :
    Calls Tryz.prog 140 #[.slice ad L.length cap, .func (.func 141) #[] #[]] w fun e w' => e = .returned (.bool r) ∧ w = w' := by
  have hi := indexVec ad cap L w hl h
  unfold idxV at hi
  rw [hr] at hi
  obtain ⟨n, hn⟩ : ∃ n, L.findIdx vecB = n := ⟨_, rfl⟩
  rw [hn] at hi
  have HI := Lib.hid hi
  clear hi hn hr
  cases r
  all_goals
    go_enter Tryz.func140, Tryz.ntmps140
    go_wp2_with fail
    refine HI.out.mono ?_
    rintro e w' ⟨rfl, rfl⟩
    go_wp2_with fail
    go_ret
    exact ⟨ret_eq (by simp), rfl⟩
theorem vecErr_any (v : List Int) : vecErr v = if v.length ≠ 8 then 3 else if v.any vecB then 1 else 0 := rfl
set_option maxRecDepth 100000 in
theorem vector_is {G : Nat → Prop} (ad : Option Addr) (cap : Nat) (L : List Int) (w : World) (hl : L.length ≤ 1000000000000000) (h : Row w G 1 intCells ad L) :
    Calls Tryz.prog 59 #[.slice ad L.length cap] w fun e w' => e = .returned (errV (vecErr L)) ∧ w = w' := by
  have H := Lib.hid h
  by_cases h8 : L.length = 8
  · cases hv : L.any vecB
    · have HF := Lib.hid (show errV (vecErr L) = .nilIface by rw [vecErr_any, if_neg (by simp [h8]), hv]; rfl)
      have HV := Lib.hid hv
      have h8' : ((L.length : Int) != 8) = false := by simp [h8]
      clear hv h h8
      go_enter Tryz.func59, Tryz.ntmps59
      go_wp2_with fail
      refine (containsVec ad cap L _ false HV.out hl H.out).mono ?_
      rintro e w' ⟨rfl, rfl⟩
      go_wp2_with fail
      go_ret
      exact ⟨ret_eq HF.out, rfl⟩
    · have HF := Lib.hid (show errV (vecErr L) = .iface 160 (.int .i64 1) by rw [vecErr_any, if_neg (by simp [h8]), hv]; rfl)
      have HV := Lib.hid hv
      have h8' : ((L.length : Int) != 8) = false := by simp [h8]
      clear hv h h8
      go_enter Tryz.func59, Tryz.ntmps59
      go_wp2_with fail
      refine (containsVec ad cap L _ true HV.out hl H.out).mono ?_
      rintro e w' ⟨rfl, rfl⟩
      go_wp2_with fail
      go_ret
      exact ⟨ret_eq HF.out, rfl⟩
  · have HF := Lib.hid (show errV (vecErr L) = .iface 160 (.int .i64 3) by rw [vecErr_any, if_pos h8]; rfl)
    have h8' : ((L.length : Int) != 8) = true := by simp; omega
    clear h h8
    go_enter Tryz.func59, Tryz.ntmps59
    go_wp2_with fail
    go_ret
    exact ⟨ret_eq HF.out, rfl⟩
theorem vecErr_cases (v : List Int) : vecErr v = 0 ∨ vecErr v = 1 ∨ vecErr v = 3 := by
  unfold vecErr; split
  · simp
  · split <;> simp
theorem vector_to {G : Nat → Prop} (ad : Option Addr) (cap : Nat) (L : List Int) (w : World) (r : Int) (hr : vecErr L = r) (hl : L.length ≤ 1000000000000000) (h : Row w G 1 intCells ad L) :
    Calls Tryz.prog 59 #[.slice ad L.length cap] w fun e w' => e = .returned (errV r) ∧ w = w' := by
  subst hr; exact vector_is ad cap L w hl h
theorem vector_ok {G : Nat → Prop} (ad : Option Addr) (cap : Nat) (L : List Int) (w : World) (hr : vecErr L = 0) (hl : L.length ≤ 1000000000000000) (h : Row w G 1 intCells ad L) :
    Calls Tryz.prog 59 #[.slice ad L.length cap] w fun e w' => e = .returned .nilIface ∧ w = w' := vector_to ad cap L w 0 hr hl h
theorem vecErr_len {L : List Int} (h : vecErr L = 0) : L.length = 8 := by
  unfold vecErr at h
  split at h
  · cases h
  · rename_i g; simpa using g
theorem flat_ints (L : List Int) : L.flatMap intCells = L.map (Value.int .i64) := by
  induction L with
  | nil => rfl
  | cons x L ih => rw [List.flatMap_cons, ih]; rfl
end Go.Proofs.YtlbnafnbjgageaaGreatDoor
