/- Of the reference leafref1: a text cut at each byte c, by its contract. -/
import Derived.Test.YtlbnafnbjgageaaGreatDoorTextLaws
import Derived.Test.YtlbnafnbjgageaaGreatDoorTexts
namespace Go.Proofs.YtlbnafnbjgageaaGreatDoor
open Go.RowKit
theorem cut_step {L : Txt} {c : UInt8} {f k : Nat} (hf : f ≤ k) (hk : L[k]? = some c) (hno : ∀ j, f ≤ j → j < k → L[j]? ≠ some c) :
    cutAt c (L.drop f) = (L.drop f).take (k - f) :: cutAt c (L.drop (k + 1)) := by
  have hlt : k < L.length := (List.getElem?_eq_some_iff.1 hk).1
  have hkv : L[k] = c := (List.getElem?_eq_some_iff.1 hk).2
  have e : L.drop f = (L.drop f).take (k - f) ++ c :: L.drop (k + 1) := by
    conv => lhs; rw [← List.take_append_drop (k - f) (L.drop f)]
    congr 1
    rw [List.drop_drop, show f + (k - f) = k by omega, List.drop_eq_getElem_cons hlt, hkv]
  conv => lhs; rw [e]
  refine cut_more c _ _ fun hm => ?_
  obtain ⟨i, hi, he⟩ := List.getElem_of_mem hm
  have hi2 : i < k - f := by simp at hi; omega
  refine hno (f + i) (by omega) (by omega) ?_
  rw [List.getElem_take, List.getElem_drop] at he
  rw [List.getElem?_eq_getElem (by omega), he]
theorem cut_last {L : Txt} {c : UInt8} {f : Nat} (hno : ∀ j, f ≤ j → j < L.length → L[j]? ≠ some c) : cutAt c (L.drop f) = [L.drop f] := by
  refine cut_clean c _ fun hm => ?_
  obtain ⟨i, hi, he⟩ := List.getElem_of_mem hm
  rw [List.length_drop] at hi
  refine hno (f + i) (by omega) (by omega) ?_
  rw [List.getElem_drop] at he
  rw [List.getElem?_eq_getElem (by omega), he]
theorem text_value (s : ByteArray) (f k : Nat) : Value.string (s.extract f k) = .string ⟨((s.data.toList.drop f).take (k - f)).toArray⟩ := by
  congr 1
  apply ByteArray.ext
  apply Array.ext'
  rw [ByteArray.data_extract]
  simp [List.extract_eq_take_drop]
set_option maxRecDepth 100000 in
set_option maxHeartbeats 1000000 in
theorem rcut_is (s : ByteArray) (c : UInt8) (w : World) (hs : s.size ≤ 1000000000) :
    Calls Tryz.prog 96 #[.string s, .int .u8 c.toNat] w fun e w' => ∃ g cp, e = .returned (.slice (some ⟨g, 0, none⟩) (cutAt c s.data.toList).length cp) ∧ w'.ownsRow w.heap.size 9 1 (.slice (some ⟨g, 0, none⟩) (cutAt c s.data.toList).length cp) (cutAt c s.data.toList).length ((cutAt c s.data.toList).flatMap textCells) ∧ Below w.heap.size w w' := by
  have HT := Lib.hid Tryz.stTexts
  go_enter Tryz.func96, Tryz.ntmps96
  go_wp2
  go_loopw [5, 6, 7] (fun s0 f0 i0 wr => ∃ (k f : Nat) (P : List Str) (sv : Value), sv = s0 ∧ f ≤ k ∧ k ≤ s.size ∧ P.length ≤ k ∧ f0 = .int .i64 f ∧ i0 = .int .i64 k ∧ Hid (wr.ownsRow w.heap.size 9 1 sv P.length (P.flatMap textCells)) ∧ Hid (P ++ cutAt c (s.data.toList.drop f) = cutAt c s.data.toList) ∧ Hid (∀ j, f ≤ j → j < k → s.data.toList[j]? ≠ some c) ∧ Hid (Below w.heap.size w wr)) (fun _ _ i0 _ => s.size - (intOf i0).toNat)
  case atStart => exact ⟨0, 0, [], _, rfl, Nat.le_refl _, Nat.zero_le _, Nat.zero_le _, rfl, rfl, Lib.hid (World.ownsRow_nil _ _ _ _), Lib.hid (by simp), Lib.hid (fun j _ h => absurd h (by omega)), Lib.hid (Below.refl _ _)⟩
  case round =>
    obtain ⟨k, f, P, sv, hsv, hfk, hk, hPk, rfl, rfl, HR, HC, HN, HW⟩ := hrel
    subst hsv
    by_cases hlt : k < s.size
    · obtain ⟨x, hx⟩ : ∃ x, s.data.toList[k]? = some x := ⟨_, List.getElem?_eq_getElem (by simpa using hlt)⟩
      have hxd : s[k] = x := by
        have := (List.getElem?_eq_some_iff.1 hx).2
        rw [Array.getElem_toList] at this
        exact this
      by_cases hxc : x = c
      · subst hxc
        have hne : (((s[k].toNat : Nat) : Int) == ((x.toNat : Nat) : Int)) = true := by rw [hxd, beq_iff_eq]
        have HX := Lib.hid hx
        have HV := Lib.hid (text_value s f k)
        clear hx hxd
        go_wp2_with (at_builtin; refine wpList_push rfl (.tmp 19) (.tmp 24) _ rfl HT.out _ rfl (by simp [Value.oneCell']) _ P.length 1 _ rfl rfl HR.out (by omega) (by decide) HW.out HW.out.size ?_; intro v' w4 hown4 hb4 hsz4)
        go_roundw
        case rel =>
          refine ⟨k + 1, k + 1, P ++ [(s.data.toList.drop f).take (k - f)], _, rfl, Nat.le_refl _, by omega, by simp; omega, by go_num, by go_num, Lib.hid ?_, Lib.hid ?_, Lib.hid (fun j h1 h2 => absurd h2 (by omega)), Lib.hid hb4⟩
          · rw [List.flatMap_append, List.length_append]
            rw [HV.out] at hown4
            exact hown4
          · rw [List.append_assoc, ← HC.out, cut_step hfk HX.out HN.out]; rfl
        case measure => simp [intOf]; omega
      · have hne : (((s[k].toNat : Nat) : Int) == ((c.toNat : Nat) : Int)) = false := by
          rw [hxd, beq_eq_false_iff_ne]
          intro e
          exact hxc (UInt8.toNat_inj.1 (by omega))
        have HX := Lib.hid hx
        have HXC := Lib.hid hxc
        clear hx hxd hxc
        go_wp2
        go_roundw
        case rel =>
          refine ⟨k + 1, f, P, _, rfl, by omega, by omega, by omega, rfl, by go_num, HR, HC, Lib.hid (fun j h1 h2 => ?_), HW⟩
          by_cases e : j = k
          · subst e; rw [HX.out]; intro e; exact HXC.out (Option.some.inj e)
          · exact HN.out j h1 (by omega)
        case measure => simp [intOf]; omega
    · have hks : k = s.size := by omega
      subst hks
      have HV := Lib.hid (text_value s f s.size)
      go_wp2_with (at_builtin; refine wpList_push rfl (.tmp 28) (.tmp 32) _ rfl HT.out _ rfl (by simp [Value.oneCell']) _ P.length 1 _ rfl rfl HR.out (by omega) (by decide) HW.out HW.out.size ?_; intro v' w4 hown4 hb4 hsz4)
      have hfin : cutAt c s.data.toList = P ++ [(s.data.toList.drop f).take (s.size - f)] := by
        rw [← HC.out, cut_last (fun j h1 h2 => HN.out j h1 (by simpa using h2)), List.take_of_length_le (by simp)]
      rw [HV.out] at hown4
      obtain ⟨g, cp, rfl, hg1, hg2⟩ := own_form hown4 (by omega)
      have HF := Lib.hid hfin
      have HO := Lib.hid hown4
      have HB := Lib.hid hb4
      clear hfin hown4 hb4 HV
      go_wp2
      go_ret
      rw [HF.out]
      have hl : (P ++ [(s.data.toList.drop f).take (s.size - f)]).length = P.length + 1 := by simp
      refine ⟨g, cp, by rw [hl]; rfl, ?_, HB.out⟩
      rw [hl, List.flatMap_append]
      exact HO.out
end Go.Proofs.YtlbnafnbjgageaaGreatDoor
