/- Plain laws of vectors: read as they were printed; together in whichever order; one against the other. -/
import Derived.Test.YtlbnafnbjgageaaGreatDoorTextLaws
import Derived.Test.YtlbnafnbjgageaaGreatDoorVecCmp
import Derived.Test.YtlbnafnbjgageaaGreatDoorVecParse
namespace Go.Proofs.YtlbnafnbjgageaaGreatDoor
open Go.RowKit
theorem no_dot {n : Int} (h0 : 0 ≤ n) : (46 : UInt8) ∉ Lib.itoa n := by
  obtain ⟨u, rfl⟩ : ∃ u : Nat, n = u := ⟨n.toNat, by omega⟩
  have e : Lib.itoa (u : Int) = Lib.decDigits u := by unfold Lib.itoa; rw [if_neg (by omega)]; simp
  rw [e]
  intro hm
  have := digits_are u 46 hm
  revert this; decide
theorem piece_itoa {n : Int} (h0 : 0 ≤ n) (h1 : n ≤ 9999) : pieceOf (Lib.itoa n) = some n := by
  have hl := itoa_len h0 h1
  unfold pieceOf
  rw [atoi_itoa h0 (by omega)]
  exact if_pos ⟨rfl, h0, by omega⟩
theorem piece_back {s : Str} {n : Int} (h : pieceOf s = some n) : Lib.itoa n = s := by
  unfold pieceOf at h
  split at h
  · split at h
    · rename_i g; cases h; exact g.1
    · cases h
  · cases h
theorem vec_all {A : List Int} (h : vecErr A = 0) : ∀ x ∈ A, 0 ≤ x ∧ x ≤ 9999 := fun x hx => by
  obtain ⟨i, hi, rfl⟩ := List.getElem_of_mem hx
  exact vec_bound h (List.getElem?_eq_getElem hi)
theorem split_print {A : List Int} (h : vecErr A = 0) : Lib.split (printV A) [46] = A.map Lib.itoa := by
  rw [split_cut]
  unfold printV
  refine cut_join 46 _ (fun e => ?_) (fun x hx => ?_)
  · have := congrArg List.length e
    rw [List.length_map, vecErr_len h] at this; cases this
  · obtain ⟨n, hn, rfl⟩ := List.mem_map.1 hx
    exact no_dot (vec_all h n hn).1
/-- What is printed is read as it was. -/
theorem parse_print {A : List Int} (h : vecErr A = 0) : parseErr (printV A) = 0 ∧ valsOf (Lib.split (printV A) [46]) = A := by
  have hv : valsOf (A.map Lib.itoa) = A := by
    unfold valsOf
    rw [List.map_map]
    conv => rhs; rw [← List.map_id A]
    refine List.map_congr_left fun x hx => ?_
    have := vec_all h x hx
    simp [Function.comp, piece_itoa this.1 this.2]
  have ha : allOK (A.map Lib.itoa) = true := by
    unfold allOK
    rw [List.all_map, List.all_eq_true]
    intro x hx
    have := vec_all h x hx
    simp [Function.comp, piece_itoa this.1 this.2]
  unfold parseErr
  rw [split_print h, ha, hv]
  exact ⟨h, rfl⟩
/-- What is read is printed as it was. -/
theorem print_parse {s : Str} (h : parseErr s = 0) : vecErr (valsOf (Lib.split s [46])) = 0 ∧ printV (valsOf (Lib.split s [46])) = s := by
  unfold parseErr at h
  split at h
  · rename_i ha
    refine ⟨h, ?_⟩
    unfold printV valsOf
    rw [List.map_map]
    have : (Lib.split s [46]).map (Lib.itoa ∘ fun x => (pieceOf x).getD 0) = Lib.split s [46] := by
      conv => rhs; rw [← List.map_id (Lib.split s [46])]
      refine List.map_congr_left fun x hx => ?_
      have := List.all_eq_true.1 ha x hx
      obtain ⟨n, hn⟩ := Option.isSome_iff_exists.1 this
      simp [Function.comp, hn, piece_back hn]
    rw [this, split_cut, join_cut]
  · cases h
theorem bothErr_comm {a b : List Int} (h : bothErr a b = 0) : bothErr b a = 0 := by
  obtain ⟨h1, h2⟩ := bothErr_0 h
  unfold bothErr; rw [h2, if_neg (by simp)]; exact h1
theorem both_of {a b : List Int} (h : vecErr a = 0) (k : vecErr b = 0) : bothErr a b = 0 := by unfold bothErr; rw [h, if_neg (by simp)]; exact k
theorem vec_of {A : List Int} (h8 : A.length = 8) (h : ∀ x ∈ A, 0 ≤ x ∧ x ≤ 9999) : vecErr A = 0 := by
  rw [vecErr_any, if_neg (by simp [h8]), if_neg]
  rw [Bool.not_eq_true, List.any_eq_false]
  intro x hx
  have := h x hx
  simp [vecB]; omega
theorem vmax_ok {a b : List Int} (h : vecErr a = 0) (k : vecErr b = 0) : vecErr (vmax a b) = 0 := by
  refine vec_of (by simp [vmax, vecErr_len h, vecErr_len k]) fun x hx => ?_
  unfold vmax at hx
  obtain ⟨i, hi, rfl⟩ := List.getElem_of_mem hx
  have hi' : i < (List.zipWith max a b).length := hi
  rw [List.length_zipWith] at hi'
  rw [List.getElem_zipWith]
  have h1 := vec_all h a[i] (List.getElem_mem _)
  have h2 := vec_all k b[i] (List.getElem_mem _)
  omega
theorem vmax_comm (a b : List Int) : vmax a b = vmax b a := by
  unfold vmax
  rw [List.zipWith_comm]
  congr 1; funext x y; omega
theorem vmax_assoc : ∀ (a b c : List Int), vmax (vmax a b) c = vmax a (vmax b c)
  | [], b, c => by simp [vmax]
  | x :: a, [], c => by simp [vmax]
  | x :: a, y :: b, [] => by simp [vmax]
  | x :: a, y :: b, z :: c => by
    have ih := vmax_assoc a b c
    unfold vmax at *
    simp only [List.zipWith_cons_cons, ih]
    congr 1; omega
theorem vless_max : ∀ (a b : List Int), vless (vmax a b) a = false
  | [], b => by simp [vless, vmax]
  | x :: a, [] => by simp [vless, vmax]
  | x :: a, y :: b => by
    have ih := vless_max a b
    unfold vless vmax at *
    simp only [List.zipWith_cons_cons, List.any_cons, ih, id, Bool.or_false, decide_eq_false_iff_not]
    omega
theorem cmp_max (a b : List Int) : cmpIs a (vmax a b) = true ∧ cmpInt a (vmax a b) ≤ 0 := by
  unfold cmpIs cmpInt
  rw [vless_max]
  cases vless a (vmax a b) <;> simp
theorem cmp_turn (a b : List Int) : cmpIs b a = cmpIs a b ∧ cmpInt b a = -cmpInt a b := by
  unfold cmpIs cmpInt
  cases vless a b <;> cases vless b a <;> simp
theorem cmp_range (a b : List Int) : cmpInt a b = -1 ∨ cmpInt a b = 0 ∨ cmpInt a b = 1 := by
  unfold cmpInt
  cases vless a b <;> cases vless b a <;> simp
end Go.Proofs.YtlbnafnbjgageaaGreatDoor
