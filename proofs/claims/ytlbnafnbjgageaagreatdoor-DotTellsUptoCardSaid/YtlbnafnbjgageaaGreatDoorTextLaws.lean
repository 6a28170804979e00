/- Plain laws: a text cut at a byte and put together again; numerals. -/
import Derived.Test.YtlbnafnbjgageaaGreatDoorWords
import Derived.Lib.SplitLaws
import Derived.Lib.Join
import Derived.Lib.ItoaNum
import Derived.Lib.AtoiTie
import Derived.Lib.AtoiAllCases
namespace Go.Proofs.YtlbnafnbjgageaaGreatDoor
abbrev Txt := List UInt8
def cutAt (c : UInt8) : Txt → List Txt
  | [] => [[]]
  | b :: l => if b = c then [] :: cutAt c l else match cutAt c l with
    | y :: ys => (b :: y) :: ys
    | [] => [[b]]
theorem cutAt_ne (c : UInt8) : ∀ s, cutAt c s ≠ []
  | [] => by simp [cutAt]
  | b :: l => by
    unfold cutAt
    split
    · simp
    · split <;> simp
theorem index_one (b c : UInt8) (l : Txt) : Lib.index (b :: l) [c] = if b = c then 0 else if Lib.index l [c] = -1 then -1 else Lib.index l [c] + 1 := by
  rw [Lib.index]
  by_cases h : b = c
  · subst h; simp [List.isPrefixOf]
  · simp [List.isPrefixOf, h, Ne.symm h]
theorem splitK_cut (c : UInt8) : ∀ s : Txt, Lib.splitK [c] 0 (Lib.count s [c]) s = cutAt c s
  | [] => by
    rw [Lib.count_miss (by simp [Lib.index])]; rfl
  | b :: l => by
    have ih := splitK_cut c l
    by_cases h : b = c
    · subst h
      rw [Lib.count_cons_eq, Nat.add_comm, Lib.splitK, index_one, if_pos rfl]
      simp [cutAt, ih]
    · rw [Lib.count_cons_ne b c l h]
      unfold cutAt
      rw [if_neg h]
      rcases Classical.em (Lib.index l [c] = -1) with hm | hm
      · have h0 : Lib.count l [c] = 0 := Lib.count_miss hm
        rw [h0] at ih ⊢
        rw [← ih]
        simp [Lib.splitK]
      · obtain ⟨i, hi⟩ : ∃ i : Nat, Lib.index l [c] = i := ⟨(Lib.index l [c]).toNat, by have := Lib.index_ge l [c]; omega⟩
        rw [Lib.count_hit (by simp) hi, Nat.add_comm] at ih ⊢
        rw [← ih]
        rw [Lib.splitK, Lib.splitK, index_one, if_neg h, if_neg hm, hi]
        have e1 : ((i : Int) + 1 == -1) = false := by simp; omega
        have e2 : ((i : Int) == -1) = false := by simp
        have e3 : ((i : Int) + 1).toNat = i + 1 := by omega
        simp [e1, e2, e3]
theorem split_cut (s : Txt) (c : UInt8) : Lib.split s [c] = cutAt c s := splitK_cut c s
theorem join_two (x y : Txt) (L : List Txt) (c : UInt8) : Lib.join (x :: y :: L) [c] = x ++ c :: Lib.join (y :: L) [c] := by simp [Lib.join, List.intercalate, List.intersperse]
theorem join_cut (c : UInt8) : ∀ s : Txt, Lib.join (cutAt c s) [c] = s
  | [] => by simp [cutAt, Lib.join_one]
  | b :: l => by
    have ih := join_cut c l
    have hne := cutAt_ne c l
    unfold cutAt
    by_cases h : b = c
    · subst h
      rw [if_pos rfl]
      cases hc : cutAt b l with
      | nil => exact absurd hc hne
      | cons y ys => rw [hc] at ih; rw [join_two, ih, List.nil_append]
    · rw [if_neg h]
      cases hc : cutAt c l with
      | nil => exact absurd hc hne
      | cons y ys =>
        rw [hc] at ih
        cases ys with
        | nil => rw [Lib.join_one] at ih; show Lib.join [b :: y] [c] = _; rw [Lib.join_one, ih]
        | cons z zs => rw [join_two] at ih; show Lib.join ((b :: y) :: z :: zs) [c] = _; rw [join_two, ← ih]; rfl
theorem cut_clean (c : UInt8) : ∀ (x : Txt), c ∉ x → cutAt c x = [x]
  | [], _ => rfl
  | b :: l, h => by
    have hb : b ≠ c := fun e => h (by simp [e])
    unfold cutAt
    rw [if_neg hb, cut_clean c l (fun m => h (List.mem_cons_of_mem _ m))]
theorem cut_more (c : UInt8) (r : Txt) : ∀ (x : Txt), c ∉ x → cutAt c (x ++ c :: r) = x :: cutAt c r
  | [], _ => by simp [cutAt]
  | b :: l, h => by
    have hb : b ≠ c := fun e => h (by simp [e])
    rw [List.cons_append, cutAt, if_neg hb, cut_more c r l (fun m => h (List.mem_cons_of_mem _ m))]
theorem cut_join (c : UInt8) : ∀ (L : List Txt), L ≠ [] → (∀ x ∈ L, c ∉ x) → cutAt c (Lib.join L [c]) = L
  | [], h, _ => absurd rfl h
  | [x], _, h => by rw [Lib.join_one]; exact cut_clean c x (h x (by simp))
  | x :: y :: L, _, h => by
    rw [join_two, cut_more c _ x (h x (by simp)), cut_join c (y :: L) (by simp) (fun z hz => h z (List.mem_cons_of_mem _ hz))]
theorem digit_val {d : Nat} (h : d < 10) : Lib.digitVal (UInt8.ofNat (48 + d)) = some d := by
  unfold Lib.digitVal
  have : (UInt8.ofNat (48 + d)).toNat = 48 + d := by simp; omega
  rw [this, if_pos (by omega)]; simp
theorem decFrom_append : ∀ (a b : Txt) (acc : Nat), Lib.decFrom acc (a ++ b) = (Lib.decFrom acc a).bind fun m => Lib.decFrom m b
  | [], b, acc => rfl
  | x :: a, b, acc => by
    rw [List.cons_append, Lib.decFrom, Lib.decFrom]
    cases Lib.digitVal x with
    | none => rfl
    | some d => exact decFrom_append a b _
theorem decFrom_digits (u : Nat) : Lib.decFrom 0 (Lib.decDigits u) = some u := by
  induction u using Nat.strongRecOn with
  | _ u ih =>
    by_cases h : u < 10
    · rw [Lib.decDigits_one h, Lib.decFrom, digit_val h]; simp [Lib.decFrom]
    · rw [Lib.decDigits, dif_neg h, decFrom_append, ih (u / 10) (by omega)]
      rw [Option.bind_some, Lib.decFrom, digit_val (show u % 10 < 10 by omega)]
      simp only [Lib.decFrom, Option.some.injEq]
      omega
theorem digits_are (u : Nat) : ∀ b ∈ Lib.decDigits u, 48 ≤ b.toNat ∧ b.toNat ≤ 57 := by
  induction u using Nat.strongRecOn with
  | _ u ih =>
    intro b hb
    by_cases h : u < 10
    · rw [Lib.decDigits_one h] at hb
      rw [List.mem_singleton] at hb; subst hb
      have : (UInt8.ofNat (48 + u)).toNat = 48 + u := by simp; omega
      omega
    · rw [Lib.decDigits, dif_neg h] at hb
      rcases List.mem_append.1 hb with hb | hb
      · exact ih (u / 10) (by omega) b hb
      · simp only [List.mem_singleton] at hb; subst hb
        have : (UInt8.ofNat (48 + u % 10)).toNat = 48 + u % 10 := by simp; omega
        omega
theorem digits_ne (u : Nat) : Lib.decDigits u ≠ [] := by
  intro e
  have := Lib.decDigits_length u
  have h2 := Lib.nDigits_pos u
  rw [e] at this; simp at this; omega
theorem atoi_itoa {n : Int} (h0 : 0 ≤ n) (h1 : (Lib.itoa n).length ≤ 18) : Lib.atoiAll (Lib.itoa n) = .ok n := by
  obtain ⟨u, rfl⟩ : ∃ u : Nat, n = u := ⟨n.toNat, by omega⟩
  rw [Lib.atoiAll_short _ h1]
  have e : Lib.itoa (u : Int) = Lib.decDigits u := by unfold Lib.itoa; rw [if_neg (by omega)]; simp
  rw [e]
  have hd := decFrom_digits u
  have ha := digits_are u
  have hn := digits_ne u
  cases hc : Lib.decDigits u with
  | nil => exact absurd hc hn
  | cons b r =>
    rw [hc] at hd ha
    have hb := ha b (by simp)
    unfold Lib.atoi
    have e1 : (b == 45) = false := by
      rw [beq_eq_false_iff_ne]; rintro rfl; revert hb; decide
    have e2 : (b == 43) = false := by
      rw [beq_eq_false_iff_ne]; rintro rfl; revert hb; decide
    simp only [e1, e2]
    unfold Lib.decNat
    simp [hd, Lib.NumEnd.ofOption]
end Go.Proofs.YtlbnafnbjgageaaGreatDoor
