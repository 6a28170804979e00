/- Of the reference leafref1, by contracts: one dot, a vector, digits. -/
import Derived.Test.YtlbnafnbjgageaaGreatDoorDot3
import Derived.Test.YtlbnafnbjgageaaGreatDoorTextLaws
namespace Go.Proofs.YtlbnafnbjgageaaGreatDoor
open Go.RowKit
set_option maxRecDepth 100000 in
theorem rdot_is (d : Dot) (w : World) : Calls Tryz.prog 57 #[.agg #[.int .i64 d.who, .int .i64 d.n]] w fun e w' => e = .returned (.int .i64 (dotErr d)) ∧ Below w.heap.size w w' := by
  obtain ⟨a, n⟩ := d
  have hal := (Below.refl w.heap.size w).alloc (Nat.le_refl _) (.cells #[.int .i64 a, .int .i64 n] 27)
  have HB := Lib.hid hal
  clear hal
  by_cases h1 : a < 1
  · have HF := Lib.hid (show Value.int .i64 (dotErr ⟨a, n⟩) = .int .i64 1 by unfold dotErr; rw [if_pos (.inl h1)])
    go_enter Tryz.func57, Tryz.ntmps57
    go_wp2
    go_ret
    exact ⟨ret_eq HF.out, HB.out⟩
  · by_cases h2 : 8 < a
    · have HF := Lib.hid (show Value.int .i64 (dotErr ⟨a, n⟩) = .int .i64 1 by unfold dotErr; rw [if_pos (.inr (.inl h2))])
      go_enter Tryz.func57, Tryz.ntmps57
      go_wp2
      go_ret
      exact ⟨ret_eq HF.out, HB.out⟩
    · by_cases h3 : n < 1
      · have HF := Lib.hid (show Value.int .i64 (dotErr ⟨a, n⟩) = .int .i64 1 by unfold dotErr; rw [if_pos (.inr (.inr (.inl h3)))])
        go_enter Tryz.func57, Tryz.ntmps57
        go_wp2
        go_ret
        exact ⟨ret_eq HF.out, HB.out⟩
      · by_cases h4 : 9999 < n
        · have HF := Lib.hid (show Value.int .i64 (dotErr ⟨a, n⟩) = .int .i64 1 by unfold dotErr; rw [if_pos (.inr (.inr (.inr h4)))])
          go_enter Tryz.func57, Tryz.ntmps57
          go_wp2
          go_ret
          exact ⟨ret_eq HF.out, HB.out⟩
        · have HF := Lib.hid (show Value.int .i64 (dotErr ⟨a, n⟩) = .int .i64 0 by unfold dotErr; rw [if_neg (by rintro (x | x | x | x) <;> simp at x <;> omega)])
          go_enter Tryz.func57, Tryz.ntmps57
          go_wp2
          go_ret
          exact ⟨ret_eq HF.out, HB.out⟩
set_option maxRecDepth 100000 in
set_option maxHeartbeats 1000000 in
theorem rvec_is {G : Nat → Prop} (ad : Option Addr) (cap : Nat) (L : List Int) (w : World) (_hl : L.length ≤ 1000000000000000) (h : Row w G 1 intCells ad L) :
    Calls Tryz.prog 44 #[.slice ad L.length cap] w fun e w' => e = .returned (.int .i64 (vecErr L)) ∧ w = w' := by
  have H := Lib.hid h
  clear h
  by_cases h8 : L.length = 8
  · have h8' : ((L.length : Int) != 8) = false := by simp [h8]
    have H8 := Lib.hid h8
    rw [h8]
    clear h8 h8'
    go_enter Tryz.func44, Tryz.ntmps44
    go_wp2
    go_loop [3] (fun i => ∃ k : Nat, k ≤ 8 ∧ i = .int .i64 k ∧ Hid (∀ j x, j < k → L[j]? = some x → vecB x = false)) (fun i => 8 - (intOf i).toNat)
    case atStart => exact ⟨0, Nat.zero_le _, rfl, fun j x hj => absurd hj (by omega)⟩
    case round =>
      obtain ⟨k, hk, rfl, HP⟩ := hrel
      by_cases hlt : k < 8
      · obtain ⟨x, hx⟩ : ∃ x, L[k]? = some x := ⟨_, List.getElem?_eq_getElem (by have := H8.out; omega)⟩
        obtain ⟨b, off, rfl, -, c0⟩ := int_at H.out hx
        have HX := Lib.hid hx
        by_cases h1 : x < 0
        · have hv : L.any vecB = true := List.any_eq_true.2 ⟨x, List.mem_of_getElem? hx, by simp [vecB, h1]⟩
          have HF := Lib.hid (show Value.int .i64 (vecErr L) = .int .i64 1 by rw [vecErr_any, if_neg (by simp [H8.out]), hv]; rfl)
          clear hx hv
          go_wp2
          go_ret
          exact ⟨ret_eq HF.out, rfl⟩
        · by_cases h2 : 9999 < x
          · have hv : L.any vecB = true := List.any_eq_true.2 ⟨x, List.mem_of_getElem? hx, by simp [vecB, h2]⟩
            have HF := Lib.hid (show Value.int .i64 (vecErr L) = .int .i64 1 by rw [vecErr_any, if_neg (by simp [H8.out]), hv]; rfl)
            clear hx hv
            go_wp2
            go_ret
            exact ⟨ret_eq HF.out, rfl⟩
          · have HV := Lib.hid (show vecB x = false by simp [vecB]; omega)
            clear hx
            go_wp2
            go_round
            case rel =>
              refine ⟨k + 1, by omega, by go_num, fun j y hj hy => ?_⟩
              by_cases e : j = k
              · subst e; rw [HX.out] at hy; cases hy; exact HV.out
              · exact HP.out j y (by omega) hy
            case measure => simp [intOf]; omega
      · have hany : L.any vecB = false := by
          rw [List.any_eq_false]
          intro x hx
          obtain ⟨j, hj, rfl⟩ := List.getElem_of_mem hx
          rw [HP.out j _ (by have := H8.out; omega) (List.getElem?_eq_getElem hj)]; simp
        have HF := Lib.hid (show Value.int .i64 (vecErr L) = .int .i64 0 by rw [vecErr_any, if_neg (by simp [H8.out]), hany]; rfl)
        clear hany
        go_wp2
        go_ret
        exact ⟨ret_eq HF.out, rfl⟩
  · have h8' : ((L.length : Int) != 8) = true := by simp; omega
    have HF := Lib.hid (show Value.int .i64 (vecErr L) = .int .i64 3 by rw [vecErr_any, if_pos h8])
    clear h8
    go_enter Tryz.func44, Tryz.ntmps44
    go_wp2
    go_ret
    exact ⟨ret_eq HF.out, rfl⟩
theorem digits_piece : ∀ d : Fin 10, (⟨#[48, 49, 50, 51, 52, 53, 54, 55, 56, 57]⟩ : ByteArray).extract d.val (d.val + 1) = ⟨(Lib.decDigits d.val).toArray⟩ := by
  intro d
  rw [Lib.decDigits_one d.isLt]
  revert d
  decide +kernel
theorem bytes_append (a b : Txt) : (⟨a.toArray⟩ : ByteArray) ++ ⟨b.toArray⟩ = ⟨(a ++ b).toArray⟩ := by
  apply ByteArray.ext
  simp [ByteArray.data_append]
theorem digits_le (u : Nat) : (Lib.decDigits u).length ≤ u + 1 := by
  rw [Lib.decDigits_length]
  induction u using Nat.strongRecOn with
  | _ u ih =>
    by_cases h : u < 10
    · rw [Lib.nDigits_small h]; omega
    · rw [Lib.nDigits_big h]; have := ih (u / 10) (by omega); omega
set_option maxRecDepth 100000 in
theorem rdigits_is (n : Nat) : ∀ (w : World), n ≤ 9223372036854775807 → Calls Tryz.prog 62 #[.int .i64 n] w fun e w' => e = .returned (.string ⟨(Lib.decDigits n).toArray⟩) ∧ w = w' := by
  induction n using Nat.strongRecOn with
  | _ n ih =>
    intro w hn
    by_cases h : n < 10
    · have hd := Lib.hid (digits_piece ⟨n, h⟩)
      clear ih
      go_enter Tryz.func62, Tryz.ntmps62
      go_wp2
      go_ret
      exact ⟨ret_eq (congrArg Value.string hd.out.symm), rfl⟩
    · have hi := ih (n / 10) (by omega) w (by omega)
      have hd := digits_piece ⟨n % 10, by omega⟩
      have hdec : Lib.decDigits n = Lib.decDigits (n / 10) ++ Lib.decDigits (n % 10) := by
        rw [Lib.decDigits, dif_neg h, Lib.decDigits_one (show n % 10 < 10 by omega)]
      have hm : (n : Int) % 10 = ((n % 10 : Nat) : Int) := by omega
      have hq : (n : Int) / 10 = ((n / 10 : Nat) : Int) := by omega
      simp only at hd
      have hql := digits_le (n / 10)
      have hqn : n / 10 ≤ 922337203685477580 := by omega
      have hm10 : n % 10 < 10 := by omega
      generalize n % 10 = m at *
      generalize n / 10 = q at *
      have HI := Lib.hid hi
      have HD := Lib.hid hd
      have HF := Lib.hid hdec
      clear ih hi hd hdec
      go_enter Tryz.func62, Tryz.ntmps62
      go_wp2_with fail
      refine HI.out.mono ?_
      rintro e w1 ⟨rfl, rfl⟩
      go_wp2_with fail
      go_ret
      refine ⟨ret_eq (congrArg Value.string ?_), rfl⟩
      rw [HF.out, ← bytes_append, ← HD.out]
end Go.Proofs.YtlbnafnbjgageaaGreatDoor
