/- Of the reference leafref1: a vector read of a text, by its contract: what dot.Parse reads. -/
import Derived.Test.YtlbnafnbjgageaaGreatDoorRefRead
namespace Go.Proofs.YtlbnafnbjgageaaGreatDoor
open Go.RowKit
def ReadPost (s : Str) (w w' : World) (e : Ending) : Prop :=
  ∃ v, e = .returned (.tuple #[v, .int .i64 (parseErr s)]) ∧ Below w.heap.size w w' ∧ (parseErr s ≠ 0 → v = .slice none 0 0) ∧
    (parseErr s = 0 → ∃ g cp, v = .slice (some ⟨g, 0, none⟩) 8 cp ∧ w'.ownsRow w.heap.size 3 1 (.slice (some ⟨g, 0, none⟩) 8 cp) 8 ((valsOf (Lib.split s [46])).flatMap intCells))
theorem read_bad {s : Str} {w w' : World} {k : Nat} {x : Str} (hx : (Lib.split s [46])[k]? = some x) (h : pieceOf x = none) (hb : Below w.heap.size w w') :
    ReadPost s w w' (.returned (.tuple #[.slice none 0 0, .int .i64 2])) := by
  have hp : parseErr s = 2 := by unfold parseErr; rw [piece_none h hx]; rfl
  exact ⟨_, by rw [hp], hb, fun _ => rfl, fun e => by rw [hp] at e; cases e⟩
set_option maxRecDepth 100000 in
set_option maxHeartbeats 4000000 in
theorem rread_is (s : ByteArray) (w : World) (hs : s.size ≤ 1000000000) :
    Calls Tryz.prog 66 #[.string s] w fun e w' => ReadPost s.data.toList w w' e := by
  have HS := Lib.hid (rcut_is s 46 w hs)
  have HT := Lib.hid Tryz.stInts
  have hsl : s.data.toList.length = s.size := by simp
  go_enter Tryz.func66, Tryz.ntmps66
  go_wp2_with fail
  refine HS.out.mono ?_
  rintro e w1 ⟨gq, cq, rfl, hown, hb1⟩
  have hspl := split_cut s.data.toList 46
  obtain ⟨Q, hQ⟩ : ∃ Q, cutAt 46 s.data.toList = Q := ⟨_, rfl⟩
  rw [hQ] at hown hspl ⊢
  have hql : Q.length ≤ 1000000001 := by have := split_many s.data.toList 46; rw [hspl] at this; omega
  have hpl : ∀ x ∈ Q, x.length ≤ 1000000000 := fun x hx => by
    have := split_piece_len s.data.toList 46 x (by rw [hspl]; exact hx)
    omega
  have HPL := Lib.hid hpl
  have H := Lib.hid (Row.of_own textCells_len hown rfl)
  have HQ := Lib.hid hspl
  have HB1 := Lib.hid hb1
  clear hown hb1 hQ HS hspl hpl hsl
  go_wp2_with fail
  go_loopw [4, 6] (fun s0 i0 wr => ∃ k : Nat, ∃ sv : Value, sv = s0 ∧ k ≤ Q.length ∧ i0 = .int .i64 k ∧ Hid (wr.ownsRow w1.heap.size 3 1 sv k ((valsOf (Q.take k)).flatMap intCells)) ∧ Hid (allOK (Q.take k) = true) ∧ Hid (Below w1.heap.size w1 wr)) (fun _ i0 _ => Q.length - (intOf i0).toNat)
  case atStart => exact ⟨0, _, rfl, Nat.zero_le _, rfl, Lib.hid (World.ownsRow_nil _ _ _ _), Lib.hid rfl, Lib.hid (Below.refl _ _)⟩
  case round =>
    obtain ⟨k, sv, hsv, hk, rfl, HR, HOK, HWr⟩ := hrel
    subst hsv
    by_cases hlt : k < Q.length
    · obtain ⟨x, hx⟩ : ∃ x, Q[k]? = some x := ⟨_, List.getElem?_eq_getElem hlt⟩
      obtain ⟨b, off, hq, -, c0⟩ := text_at (H.out.below textCells_ne HWr.out) hx
      cases hq
      rw [Nat.zero_add] at c0
      have HBW := Lib.hid (bnext HB1.out HWr.out HB1.out.size)
      have HX := Lib.hid hx
      have hxl := HPL.out x (List.mem_of_getElem? hx)
      have hrn := rnumber_is ⟨x.toArray⟩ 9 wr (by omega) (by rw [size_str]; exact hxl)
      clear hx
      cases hn : numOf x 9 with
      | none =>
        have hp : pieceOf x = none := by rw [numOf_piece, hn]; rfl
        have ht : numTup (⟨x.toArray⟩ : ByteArray).data.toList 9 = .tuple #[.int .i64 0, .bool false] := numTup_none hn
        rw [ht] at hrn
        have HP := Lib.hid hp
        have HN := Lib.hid hrn
        clear hp ht hrn hn
        go_wp2_with fail
        refine HN.out.mono ?_
        rintro e w2 ⟨rfl, rfl⟩
        go_wp2_with fail
        go_ret2
        exact read_bad (by rw [HQ.out]; exact HX.out) HP.out HBW.out
      | some u =>
        have hp : pieceOf x = some (u : Int) := by rw [numOf_piece, hn]; rfl
        have ht : numTup (⟨x.toArray⟩ : ByteArray).data.toList 9 = .tuple #[.int .i64 u, .bool true] := numTup_some hn
        rw [ht] at hrn
        have HP := Lib.hid hp
        have HN := Lib.hid hrn
        clear hp ht hrn hn
        go_wp2_with (first | (go_at_call 146; refine HN.out.mono ?_; rintro e w2 ⟨rfl, rfl⟩) | (at_builtin; refine wpList_push rfl (.tmp 28) (.tmp 30) _ rfl HT.out _ rfl (by simp [Value.oneCell']) _ k 1 _ rfl rfl HR.out (by omega) (by decide) HWr.out HWr.out.size ?_; intro v' w4 hown4 hb4 hsz4))
        go_roundw
        case rel =>
          refine ⟨k + 1, _, rfl, by omega, by go_num, Lib.hid ?_, Lib.hid (ok_step HX.out HP.out HOK.out), Lib.hid hb4⟩
          rw [vals_step HX.out HP.out _ rfl, List.flatMap_append]
          exact hown4
        case measure => simp [intOf]; omega
    · have hkq : k = Q.length := by omega
      subst hkq
      have htk : Q.take Q.length = Q := List.take_length
      have HBW := Lib.hid (bnext HB1.out HWr.out HB1.out.size)
      have hpe : parseErr s.data.toList = vecErr (valsOf Q) := by unfold parseErr; rw [HQ.out, if_pos (by have := HOK.out; rwa [htk] at this)]
      have HR' := HR
      rw [htk] at HR'
      have hlen : (valsOf Q).length = Q.length := by simp [valsOf]
      obtain ⟨r, hr⟩ : ∃ r, vecErr (valsOf Q) = r := ⟨_, rfl⟩
      by_cases h0 : r = 0
      · subst h0
        have h8 := vecErr_len hr
        have hown := HR'.out
        rw [show Q.length = 8 by omega] at hown
        obtain ⟨g, cp, rfl, hg1, hg2⟩ := own_form hown (by omega)
        have hro : Row wr (fun b => w1.heap.size ≤ b ∧ b < wr.heap.size) 1 intCells (some ⟨g, 0, none⟩) (valsOf Q) := by
          have := hown
          rw [← h8] at this
          exact Row.of_own (n := 8) intCells_len (by rw [h8] at *; exact this) rfl
        have hv := rvec_is (some ⟨g, 0, none⟩) cp (valsOf Q) wr (by omega) hro
        rw [h8, hr] at hv
        have HV := Lib.hid hv
        have HO := Lib.hid hown
        have HPe := Lib.hid (hpe.trans hr)
        clear hpe hr hro hown hv
        go_wp2_with fail
        refine HV.out.mono ?_
        rintro e w2 ⟨rfl, rfl⟩
        go_wp2_with fail
        go_ret2
        refine ⟨_, by rw [HPe.out]; rfl, HBW.out, fun e => absurd HPe.out e, fun _ => ⟨g, cp, rfl, ?_⟩⟩
        rw [HQ.out]; exact own_mono HO.out HB1.out.size
      · have hro : ∃ ad cp, sv = Value.slice ad (valsOf Q).length cp ∧ Row wr (fun b => w1.heap.size ≤ b ∧ b < wr.heap.size) 1 intCells ad (valsOf Q) := by
          rw [hlen]
          rcases HR'.out.2 with ⟨e1, e2⟩ | ⟨g, cap, cur, e1, _⟩
          · refine ⟨none, 0, by rw [e1, e2], ?_⟩
            have : valsOf Q = [] := List.eq_nil_of_length_eq_zero (by omega)
            rw [this]; exact Row.nil _ _ _ _ _
          · subst e1
            exact ⟨_, cap, rfl, Row.of_own intCells_len (by rw [hlen]; exact HR'.out) rfl⟩
        obtain ⟨ad, cp, rfl, hro⟩ := hro
        have hv := rvec_is ad cp (valsOf Q) wr (by omega) hro
        rw [hr] at hv
        have HV := Lib.hid hv
        have HPe := Lib.hid (hpe.trans hr)
        have hrb : (r != 0) = true := by simp [h0]
        clear hpe hr hro hv hlen htk
        go_wp2_with fail
        refine HV.out.mono ?_
        rintro e w2 ⟨rfl, rfl⟩
        go_wp2_with fail
        go_ret2
        exact ⟨.slice none 0 0, by rw [HPe.out]; rfl, HBW.out, fun _ => rfl, fun e => absurd (HPe.out.symm.trans e) h0⟩
end Go.Proofs.YtlbnafnbjgageaaGreatDoor
