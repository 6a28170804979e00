/- Of the reference leafref1: a number read of a text, a vector read of a text, by their contracts. -/
import Derived.Test.YtlbnafnbjgageaaGreatDoorRefCut
import Derived.Test.YtlbnafnbjgageaaGreatDoorRefNum
import Derived.Test.YtlbnafnbjgageaaGreatDoorNumLaws
namespace Go.Proofs.YtlbnafnbjgageaaGreatDoor
open Go.RowKit
def numTup (s : Str) (most : Nat) : Value := match numOf s most with
  | some u => .tuple #[.int .i64 u, .bool true]
  | none => .tuple #[.int .i64 0, .bool false]
theorem numTup_none {s : Str} {most : Nat} (h : numOf s most = none) : numTup s most = .tuple #[.int .i64 0, .bool false] := by unfold numTup; rw [h]
theorem numTup_some {s : Str} {most u : Nat} (h : numOf s most = some u) : numTup s most = .tuple #[.int .i64 u, .bool true] := by unfold numTup; rw [h]
theorem dec_none {L : Txt} {k : Nat} {b : UInt8} (hb : L[k]? = some b) (hn : Lib.digitVal b = none) : Lib.decFrom 0 L = none := by
  cases h : Lib.decFrom 0 L with
  | none => rfl
  | some n =>
    obtain ⟨d, hd⟩ := Lib.digit_of_decFrom L 0 n h k b hb
    rw [hn] at hd; cases hd
set_option maxRecDepth 100000 in
set_option maxHeartbeats 1000000 in
theorem rnumber_is (s : ByteArray) (most : Nat) (w : World) (hm : most ≤ 17) (hs : s.size ≤ 1000000000) :
    Calls Tryz.prog 146 #[.string s, .int .i64 most] w fun e w' => e = .returned (numTup s.data.toList most) ∧ w = w' := by
  by_cases h0 : s.size = 0
  · have hs0 : s = ⟨#[]⟩ := by
      apply ByteArray.ext
      exact Array.eq_empty_of_size_eq_zero h0
    subst hs0
    have HF := Lib.hid (numTup_none (s := []) (most := most) (by unfold numOf; rw [if_pos (.inl rfl)]))
    clear h0
    go_enter Tryz.func146, Tryz.ntmps146
    go_wp2
    go_ret2
    exact ⟨ret_eq HF.out, rfl⟩
  · have hemp : s.toList.isEmpty = false := by
      rw [← decide_eq_emptyBytes, decide_eq_false_iff_not]
      rintro rfl; exact h0 rfl
    have hl : s.data.toList.length = s.size := by simp
    have hnl : s.data.toList ≠ [] := fun e => h0 (by rw [← hl, e]; rfl)
    by_cases h1 : most < s.size
    · have HF := Lib.hid (numTup_none (s := s.data.toList) (most := most) (by unfold numOf; rw [if_pos (.inr (.inl (by omega)))]))
      clear hnl hl
      go_enter Tryz.func146, Tryz.ntmps146
      go_wp2
      go_ret2
      exact ⟨ret_eq HF.out, rfl⟩
    · have hp0 : 0 < s.size := by omega
      have hh : s.data.toList.head? = some s[0] := by
        rw [List.head?_eq_getElem?, List.getElem?_eq_getElem (by omega), Array.getElem_toList]; rfl
      by_cases h48 : s[0] = 48
      · have hb48 : ((s[0].toNat : Int) == 48) = true := by rw [h48]; rfl
        by_cases h2 : 1 < s.size
        · have HF := Lib.hid (numTup_none (s := s.data.toList) (most := most) (by unfold numOf; rw [if_pos (.inr (.inr ⟨by rw [hh, h48], by omega⟩))]))
          clear hnl hl hh h48
          go_enter Tryz.func146, Tryz.ntmps146
          go_wp2
          go_ret2
          exact ⟨ret_eq HF.out, rfl⟩
        · have HN := Lib.hid (show ¬ (s.data.toList = [] ∨ most < s.data.toList.length ∨ (s.data.toList.head? = some 48 ∧ 1 < s.data.toList.length)) by
            rintro (e | e | ⟨_, e⟩)
            · exact hnl e
            · omega
            · omega)
          clear hnl hl hh h48
          go_enter Tryz.func146, Tryz.ntmps146
          go_wp2
          go_loop [6, 7] (fun n0 i0 => ∃ k u : Nat, k ≤ s.size ∧ n0 = .int .i64 u ∧ i0 = .int .i64 k ∧ Hid (Lib.decFrom 0 (s.data.toList.take k) = some u)) (fun _ i0 => s.size - (intOf i0).toNat)
          case atStart => exact ⟨0, 0, Nat.zero_le _, rfl, rfl, Lib.hid rfl⟩
          case round =>
            obtain ⟨k, u, hk, rfl, rfl, HU⟩ := hrel
            by_cases hlt : k < s.size
            · obtain ⟨x, hx⟩ : ∃ x, s.data.toList[k]? = some x := ⟨_, List.getElem?_eq_getElem (by simpa using hlt)⟩
              have hxd : s[k] = x := by
                have := (List.getElem?_eq_some_iff.1 hx).2
                rw [Array.getElem_toList] at this
                exact this
              have HX := Lib.hid hx
              have hub := Lib.decFrom_take_lt HU.out (by omega)
              by_cases hlo : s[k].toNat < 48
              · have HF := Lib.hid (numTup_none (s := s.data.toList) (most := most) (by unfold numOf; rw [if_neg HN.out]; exact dec_none hx (by unfold Lib.digitVal; rw [← hxd, if_neg (by omega)])))
                clear hx hxd
                go_wp2
                go_ret2
                exact ⟨ret_eq HF.out, rfl⟩
              · by_cases hhi : 57 < s[k].toNat
                · have HF := Lib.hid (numTup_none (s := s.data.toList) (most := most) (by unfold numOf; rw [if_neg HN.out]; exact dec_none hx (by unfold Lib.digitVal; rw [← hxd, if_neg (by omega)])))
                  clear hx hxd
                  go_wp2
                  go_ret2
                  exact ⟨ret_eq HF.out, rfl⟩
                · have HD := Lib.hid (show Lib.digitVal x = some (s[k].toNat - 48) by unfold Lib.digitVal; rw [← hxd, if_pos (by omega)])
                  clear hx hxd
                  go_wp2
                  go_round
                  case rel =>
                    refine ⟨k + 1, u * 10 + (s[k].toNat - 48), by omega, by go_num, by go_num, Lib.hid (Lib.decFrom_take _ _ _ _ _ _ HU.out HX.out HD.out)⟩
                  case measure => simp [intOf]; omega
            · have hks : k = s.size := by omega
              subst hks
              have HF := Lib.hid (numTup_some (s := s.data.toList) (most := most) (u := u) (by
                unfold numOf; rw [if_neg HN.out]
                have := HU.out
                rwa [List.take_of_length_le (by simp)] at this))
              go_wp2
              go_ret2
              exact ⟨ret_eq HF.out, rfl⟩
      · have hb48 : ((s[0].toNat : Int) == 48) = false := by
          rw [beq_eq_false_iff_ne]
          intro e
          exact h48 (UInt8.toNat_inj.1 (by have : s[0].toNat = 48 := by omega
                                           rw [this]; rfl))
        have HN := Lib.hid (show ¬ (s.data.toList = [] ∨ most < s.data.toList.length ∨ (s.data.toList.head? = some 48 ∧ 1 < s.data.toList.length)) by
          rintro (e | e | ⟨e, _⟩)
          · exact hnl e
          · omega
          · rw [hh] at e; exact h48 (Option.some.inj e))
        clear hnl hl hh h48
        go_enter Tryz.func146, Tryz.ntmps146
        go_wp2
        go_loop [6, 7] (fun n0 i0 => ∃ k u : Nat, k ≤ s.size ∧ n0 = .int .i64 u ∧ i0 = .int .i64 k ∧ Hid (Lib.decFrom 0 (s.data.toList.take k) = some u)) (fun _ i0 => s.size - (intOf i0).toNat)
        case atStart => exact ⟨0, 0, Nat.zero_le _, rfl, rfl, Lib.hid rfl⟩
        case round =>
          obtain ⟨k, u, hk, rfl, rfl, HU⟩ := hrel
          by_cases hlt : k < s.size
          · obtain ⟨x, hx⟩ : ∃ x, s.data.toList[k]? = some x := ⟨_, List.getElem?_eq_getElem (by simpa using hlt)⟩
            have hxd : s[k] = x := by
              have := (List.getElem?_eq_some_iff.1 hx).2
              rw [Array.getElem_toList] at this
              exact this
            have HX := Lib.hid hx
            have hub := Lib.decFrom_take_lt HU.out (by omega)
            by_cases hlo : s[k].toNat < 48
            · have HF := Lib.hid (numTup_none (s := s.data.toList) (most := most) (by unfold numOf; rw [if_neg HN.out]; exact dec_none hx (by unfold Lib.digitVal; rw [← hxd, if_neg (by omega)])))
              clear hx hxd
              go_wp2
              go_ret2
              exact ⟨ret_eq HF.out, rfl⟩
            · by_cases hhi : 57 < s[k].toNat
              · have HF := Lib.hid (numTup_none (s := s.data.toList) (most := most) (by unfold numOf; rw [if_neg HN.out]; exact dec_none hx (by unfold Lib.digitVal; rw [← hxd, if_neg (by omega)])))
                clear hx hxd
                go_wp2
                go_ret2
                exact ⟨ret_eq HF.out, rfl⟩
              · have HD := Lib.hid (show Lib.digitVal x = some (s[k].toNat - 48) by unfold Lib.digitVal; rw [← hxd, if_pos (by omega)])
                clear hx hxd
                go_wp2
                go_round
                case rel =>
                  refine ⟨k + 1, u * 10 + (s[k].toNat - 48), by omega, by go_num, by go_num, Lib.hid (Lib.decFrom_take _ _ _ _ _ _ HU.out HX.out HD.out)⟩
                case measure => simp [intOf]; omega
          · have hks : k = s.size := by omega
            subst hks
            have HF := Lib.hid (numTup_some (s := s.data.toList) (most := most) (u := u) (by
              unfold numOf; rw [if_neg HN.out]
              have := HU.out
              rwa [List.take_of_length_le (by simp)] at this))
            go_wp2
            go_ret2
            exact ⟨ret_eq HF.out, rfl⟩
end Go.Proofs.YtlbnafnbjgageaaGreatDoor
