/- Plain laws of numerals without a needless nought. -/
import Derived.Test.YtlbnafnbjgageaaGreatDoorDotLaw
namespace Go.Proofs.YtlbnafnbjgageaaGreatDoor
open Go.RowKit
def numOf (s : Str) (most : Nat) : Option Nat := if s = [] ∨ most < s.length ∨ (s.head? = some 48 ∧ 1 < s.length) then none else Lib.decFrom 0 s
theorem digit_back {b : UInt8} {d : Nat} (h : Lib.digitVal b = some d) : d < 10 ∧ b = UInt8.ofNat (48 + d) := by
  obtain ⟨h1, h2, rfl⟩ := Lib.digitVal_eq h
  refine ⟨by omega, ?_⟩
  apply UInt8.toNat_inj.1
  simp; omega
theorem head_digits (u : Nat) : 1 ≤ u → (Lib.decDigits u).head? ≠ some 48 := by
  induction u using Nat.strongRecOn with
  | _ u ih =>
    intro h1
    by_cases h : u < 10
    · rw [Lib.decDigits_one h]
      simp only [List.head?_cons, ne_eq, Option.some.injEq]
      intro e
      have := congrArg UInt8.toNat e
      simp at this; omega
    · rw [Lib.decDigits, dif_neg h]
      have hne := digits_ne (u / 10)
      have := ih (u / 10) (by omega) (by omega)
      cases hc : Lib.decDigits (u / 10) with
      | nil => exact absurd hc hne
      | cons b r => rw [hc] at this; simpa using this
theorem dec_back : ∀ (k : Nat) (s : Str) (u : Nat), s.length = k → s ≠ [] → (s.head? = some 48 → s.length ≤ 1) → Lib.decFrom 0 s = some u → Lib.decDigits u = s
  | 0, s, u, hk, hne, _, _ => absurd (List.eq_nil_of_length_eq_zero hk) hne
  | k + 1, s, u, hk, hne, h0, h => by
    rcases List.eq_nil_or_concat s with rfl | ⟨t, b, rfl⟩
    · exact absurd rfl hne
    · rw [List.concat_eq_append] at *
      rw [decFrom_append] at h
      obtain ⟨v, hv, hb⟩ := Option.bind_eq_some_iff.1 h
      obtain ⟨d, hd, rfl⟩ : ∃ d, Lib.digitVal b = some d ∧ u = v * 10 + d := by
        unfold Lib.decFrom at hb
        split at hb
        · rename_i d hd
          simp only [Lib.decFrom, Option.some.injEq] at hb
          exact ⟨d, hd, hb.symm⟩
        · cases hb
      obtain ⟨hd10, rfl⟩ := digit_back hd
      by_cases ht : t = []
      · subst ht
        simp only [Lib.decFrom, Option.some.injEq] at hv
        subst hv
        rw [Nat.zero_mul, Nat.zero_add, Lib.decDigits_one hd10]; rfl
      · have hh : t.head? ≠ some 48 := by
          intro e
          have hl : 1 ≤ t.length := by
            have := List.length_pos_iff.2 ht
            omega
          have h2 : (t ++ [UInt8.ofNat (48 + d)]).head? = some 48 := by
            cases t with
            | nil => exact absurd rfl ht
            | cons x r => simpa using e
          have := h0 h2
          simp at this
          exact ht this
        have iv := dec_back k t v (by simp at hk; exact hk) ht (fun e => absurd e hh) hv
        have hv1 : 1 ≤ v := by
          rcases Nat.eq_zero_or_pos v with e | e
          · subst e
            rw [Lib.decDigits_one (by omega)] at iv
            rw [← iv] at hh
            simp at hh
          · exact e
        rw [Lib.decDigits, dif_neg (by omega), show (v * 10 + d) / 10 = v by omega, show (v * 10 + d) % 10 = d by omega, iv]
theorem numOf_piece (s : Str) : pieceOf s = (numOf s 9).map (fun u => (u : Int)) := by
  unfold numOf
  by_cases hb : s = [] ∨ 9 < s.length ∨ (s.head? = some 48 ∧ 1 < s.length)
  · rw [if_pos hb]
    cases hp : pieceOf s with
    | none => rfl
    | some n =>
      exfalso
      have hi := piece_back hp
      have hn : 0 ≤ n ∧ s.length ≤ 9 := by
        unfold pieceOf at hp
        split at hp
        · split at hp
          · rename_i g; cases hp; exact ⟨g.2.1, g.2.2⟩
          · cases hp
        · cases hp
      obtain ⟨u, rfl⟩ : ∃ u : Nat, n = u := ⟨n.toNat, by omega⟩
      have e : Lib.itoa (u : Int) = Lib.decDigits u := by unfold Lib.itoa; rw [if_neg (by omega)]; simp
      rw [e] at hi
      rcases hb with rfl | hb | ⟨h1, h2⟩
      · exact digits_ne u hi
      · omega
      · rw [← hi] at h1 h2
        by_cases hu : u < 10
        · rw [Lib.decDigits_one hu] at h2; simp at h2
        · exact head_digits u (by omega) h1
  · rw [if_neg hb]
    have h1 : s ≠ [] := fun e => hb (.inl e)
    have h2 : s.length ≤ 9 := by
      rcases Nat.lt_or_ge 9 s.length with e | e
      · exact absurd (.inr (.inl e)) hb
      · exact e
    have h3 : s.head? = some 48 → s.length ≤ 1 := fun e => by
      rcases Nat.lt_or_ge 1 s.length with k | k
      · exact absurd (.inr (.inr ⟨e, k⟩)) hb
      · exact k
    cases hd : Lib.decFrom 0 s with
    | none =>
      cases hp : pieceOf s with
      | none => rfl
      | some n =>
        exfalso
        have hi := piece_back hp
        have hn : 0 ≤ n := by
          unfold pieceOf at hp
          split at hp
          · split at hp
            · rename_i g; cases hp; exact g.2.1
            · cases hp
          · cases hp
        obtain ⟨u, rfl⟩ : ∃ u : Nat, n = u := ⟨n.toNat, by omega⟩
        have e : Lib.itoa (u : Int) = Lib.decDigits u := by unfold Lib.itoa; rw [if_neg (by omega)]; simp
        rw [e] at hi
        rw [← hi, decFrom_digits] at hd
        cases hd
    | some u =>
      have hb2 := dec_back _ s u rfl h1 h3 hd
      have e : Lib.itoa (u : Int) = s := by unfold Lib.itoa; rw [if_neg (by omega)]; simpa using hb2
      unfold pieceOf
      have ha := atoi_itoa (n := u) (by omega) (by rw [e]; omega)
      rw [e] at ha
      rw [ha]
      exact if_pos ⟨e, by omega, h2⟩
end Go.Proofs.YtlbnafnbjgageaaGreatDoor
