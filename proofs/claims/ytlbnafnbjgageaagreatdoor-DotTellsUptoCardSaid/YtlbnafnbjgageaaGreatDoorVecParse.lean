/- A vector read of a text, by its contract. -/
import Derived.Test.YtlbnafnbjgageaaGreatDoorVecText
import Derived.Lib.AtoiAllCases
namespace Go.Proofs.YtlbnafnbjgageaaGreatDoor
open Go.RowKit
def pieceOf (s : Str) : Option Int :=
  match Lib.atoiAll s with
  | .ok n => if Lib.itoa n = s ∧ 0 ≤ n ∧ s.length ≤ 9 then some n else none
  | _ => none
def allOK (Q : List Str) : Bool := Q.all (fun x => (pieceOf x).isSome)
def valsOf (Q : List Str) : List Int := Q.map (fun x => (pieceOf x).getD 0)
def parseErr (s : Str) : Int := if allOK (Lib.split s [46]) then vecErr (valsOf (Lib.split s [46])) else 2
def ParsePost (s : Str) (w w' : World) (e : Ending) : Prop :=
  ∃ v, e = .returned (.tuple #[v, errV (parseErr s)]) ∧ Below w.heap.size w w' ∧ (parseErr s ≠ 0 → v = .slice none 0 0) ∧
    (parseErr s = 0 → ∃ g cp, v = .slice (some ⟨g, 0, none⟩) 8 cp ∧ w'.ownsRow w.heap.size 3 1 (.slice (some ⟨g, 0, none⟩) 8 cp) 8 ((valsOf (Lib.split s [46])).flatMap intCells))
theorem piece_none {s : Str} (h : pieceOf s = none) {Q : List Str} {k : Nat} (hx : Q[k]? = some s) : allOK Q = false := by
  unfold allOK
  rw [List.all_eq_false]
  exact ⟨s, List.mem_of_getElem? hx, by simp [h]⟩
theorem post_bad {s : Str} {w w' : World} {k : Nat} {x : Str} (hx : (Lib.split s [46])[k]? = some x) (h : pieceOf x = none) (hb : Below w.heap.size w w') :
    ParsePost s w w' (.returned (.tuple #[.slice none 0 0, .iface 160 (.int .i64 2)])) := by
  have hp : parseErr s = 2 := by unfold parseErr; rw [piece_none h hx]; rfl
  exact ⟨_, by rw [hp]; rfl, hb, fun _ => rfl, fun e => by rw [hp] at e; cases e⟩
theorem vals_step {Q : List Str} {k : Nat} {x : Str} {n : Int} (hx : Q[k]? = some x) (h : pieceOf x = some n) (v : List Int) (hv : valsOf (Q.take k) = v) : valsOf (Q.take (k + 1)) = v ++ [n] := by
  subst hv
  unfold valsOf
  rw [List.take_add_one, hx]
  simp [h]
theorem ok_step {Q : List Str} {k : Nat} {x : Str} {n : Int} (hx : Q[k]? = some x) (h : pieceOf x = some n) (hk : allOK (Q.take k) = true) : allOK (Q.take (k + 1)) = true := by
  unfold allOK at *
  rw [List.take_add_one, hx, List.all_append, hk]
  simp [h]
theorem splitK_len (c : UInt8) : ∀ (k : Nat) (s : Str) (x : Str), x ∈ Lib.splitK [c] 0 k s → x.length ≤ s.length
  | 0, s, x, h => by simp [Lib.splitK] at h; subst h; exact Nat.le_refl _
  | k + 1, s, x, h => by
    unfold Lib.splitK at h
    split at h
    · simp at h; subst h; exact Nat.le_refl _
    · rcases List.mem_cons.1 h with rfl | h
      · simp; omega
      · have := splitK_len c k _ x h
        simp at this; omega
theorem split_piece_len (s : Str) (c : UInt8) (x : Str) (h : x ∈ Lib.split s [c]) : x.length ≤ s.length := splitK_len c _ s x h
theorem splitK_many (c : UInt8) : ∀ (k : Nat) (s : Str), (Lib.splitK [c] 0 k s).length ≤ k + 1
  | 0, s => by simp [Lib.splitK]
  | k + 1, s => by
    unfold Lib.splitK
    split
    · simp
    · have := splitK_many c k (s.drop ((Lib.index s [c]).toNat + [c].length))
      simp only [List.length_cons] at this ⊢; omega
theorem split_many (s : Str) (c : UInt8) : (Lib.split s [c]).length ≤ s.length + 1 := by
  have h1 := splitK_many c (Lib.count s [c]) s
  have h2 : Lib.count s [c] ≤ s.length := by rw [Lib.count_one]; exact List.count_le_length
  unfold Lib.split; omega
theorem bytes_ne {a b : Str} (h : a ≠ b) : ((⟨a.toArray⟩ : ByteArray) = ⟨b.toArray⟩) = False := by
  simp only [eq_iff_iff, iff_false]
  intro e
  injection e with e
  exact h (by simpa using congrArg Array.toList e)
set_option maxRecDepth 100000 in
set_option maxHeartbeats 4000000 in
theorem parse_is (s : Str) (w : World) (hT : TextWorld w) (hs : s.length < 4294967281) :
    Calls Tryz.prog 67 #[.string ⟨s.toArray⟩] w fun e w' => ParsePost s w w' e := by
  have HS := Lib.hid (split_is s 46 w hT hs)
  have HW := Lib.hid hT
  have HT := Lib.hid Tryz.stInts
  clear hT
  go_enter Tryz.func67, Tryz.ntmps67
  go_wp2_with fail
  refine HS.out.mono ?_
  rintro e w1 ⟨gq, rfl, hrow, hb1⟩
  obtain ⟨Q, hQ⟩ : ∃ Q, Lib.split s [46] = Q := ⟨_, rfl⟩
  rw [hQ] at hrow ⊢
  have hql : Q.length ≤ 4294967281 := by have := split_many s 46; rw [hQ] at this; omega
  have HQ := Lib.hid hQ
  have H := Lib.hid hrow
  have HB1 := Lib.hid hb1
  clear hrow hb1 hQ HS
  go_wp2_with fail
  go_loopw [13, 4] (fun i s0 wr => ∃ k : Nat, ∃ sv : Value, sv = s0 ∧ k ≤ Q.length ∧ i = .int .i64 k ∧ Hid (wr.ownsRow w1.heap.size 3 1 sv k ((valsOf (Q.take k)).flatMap intCells)) ∧ Hid (allOK (Q.take k) = true) ∧ Hid (Below w1.heap.size w1 wr)) (fun i _ _ => Q.length - (intOf i).toNat)
  case atStart => exact ⟨0, _, rfl, Nat.zero_le _, rfl, Lib.hid (World.ownsRow_nil _ _ _ _), Lib.hid rfl, Lib.hid (Below.refl _ _)⟩
  case round =>
    obtain ⟨k, sv, hsv, hk, rfl, HR, HOK, HWr⟩ := hrel
    subst hsv
    by_cases hlt : k < Q.length
    · obtain ⟨x, hx⟩ : ∃ x, Q[k]? = some x := ⟨_, List.getElem?_eq_getElem hlt⟩
      obtain ⟨b, off, hq, -, c0⟩ := text_at (H.out.below textCells_ne HWr.out) hx
      cases hq
      rw [Nat.zero_add] at c0
      have hbw : Below w.heap.size w wr := bnext HB1.out HWr.out HB1.out.size
      have HBW := Lib.hid hbw
      have HX := Lib.hid hx
      have hxl : x.length ≤ 281474976710656 := by
        have := split_piece_len s 46 x (by rw [HQ.out]; exact List.mem_of_getElem? hx)
        omega
      clear hx hbw
      rcases Classical.em (∃ n, Lib.atoiAll x = .ok n) with ⟨n, ha⟩ | ha
      · obtain ⟨hn0, hn1⟩ := Lib.atoiAll_bounds ha
        have HA := Lib.hid (atoi_ok x n wr hxl ha)
        have HI : Hid (∀ w2, Below wr.heap.size wr w2 → Calls Tryz.prog 143 #[.int .i64 n] w2 fun e w' => e = .returned (.string ⟨(Lib.itoa n).toArray⟩) ∧ Below w2.heap.size w2 w') := fun w2 hb2 => itoa_is n w2 (HW.out.below (bnext HBW.out hb2 HBW.out.size)) hn0 hn1
        by_cases h1 : Lib.itoa n = x
        · rw [h1] at HI
          by_cases h2 : n < 0
          · have HP := Lib.hid (show pieceOf x = none by unfold pieceOf; rw [ha]; simp; omega)
            clear ha
            go_wp2_with fail
            refine HA.out.mono ?_
            rintro e w2 ⟨rfl, hb2⟩
            go_wp2_with fail
            refine (HI.out w2 hb2).mono ?_
            rintro e w3 ⟨rfl, hb3⟩
            have hb23 := bnext (bnext HBW.out hb2 HBW.out.size) hb3 (below_size hb2 HBW.out.size)
            go_wp2_with fail
            go_ret2
            exact post_bad (by rw [HQ.out]; exact HX.out) HP.out hb23
          · by_cases h3 : x.length ≤ 9
            · have HP := Lib.hid (show pieceOf x = some n by unfold pieceOf; rw [ha]; simp only [if_pos (show Lib.itoa n = x ∧ 0 ≤ n ∧ x.length ≤ 9 from ⟨h1, by omega, h3⟩)])
              have h4 : ((x.length : Int) > 9) = False := by simp; omega
              clear ha
              go_wp2_with (first | (go_at_call 148; refine HA.out.mono ?_; rintro e w2 ⟨rfl, hb2⟩) | (go_at_call 143; refine (HI.out w2 hb2).mono ?_; rintro e w3 ⟨rfl, hb3⟩; have hb23 := bnext (bnext HBW.out hb2 HBW.out.size) hb3 (below_size hb2 HBW.out.size); have hbr := bnext hb2 hb3 hb2.size; have hown3 := own_below HR.out hbr; have hbl := bnext HWr.out hbr HWr.out.size) | (at_builtin; refine wpList_push rfl (.tmp 40) (.tmp 42) _ rfl HT.out _ rfl (by simp [Value.oneCell']) _ k 1 _ rfl rfl hown3 (by omega) (by decide) hbl hbl.size ?_; intro v' w4 hown4 hb4 hsz4))
              go_roundw
              case rel =>
                refine ⟨k + 1, _, rfl, by omega, by go_num, Lib.hid ?_, Lib.hid (ok_step HX.out HP.out HOK.out), Lib.hid hb4⟩
                rw [vals_step HX.out HP.out _ rfl, List.flatMap_append]
                exact hown4
              case measure => simp [intOf]; omega
            · have HP := Lib.hid (show pieceOf x = none by unfold pieceOf; rw [ha]; simp [h3])
              have h4 : 9 < x.length := by omega
              clear ha
              go_wp2_with fail
              refine HA.out.mono ?_
              rintro e w2 ⟨rfl, hb2⟩
              go_wp2_with fail
              refine (HI.out w2 hb2).mono ?_
              rintro e w3 ⟨rfl, hb3⟩
              have hb23 := bnext (bnext HBW.out hb2 HBW.out.size) hb3 (below_size hb2 HBW.out.size)
              go_wp2_with fail
              go_ret2
              exact post_bad (by rw [HQ.out]; exact HX.out) HP.out hb23
        · have HP := Lib.hid (show pieceOf x = none by unfold pieceOf; rw [ha]; simp [h1])
          have hne := bytes_ne h1
          clear ha
          go_wp2_with fail
          refine HA.out.mono ?_
          rintro e w2 ⟨rfl, hb2⟩
          go_wp2_with fail
          refine (HI.out w2 hb2).mono ?_
          rintro e w3 ⟨rfl, hb3⟩
          have hb23 := bnext (bnext HBW.out hb2 HBW.out.size) hb3 (below_size hb2 HBW.out.size)
          go_wp2_with fail
          go_ret2
          exact post_bad (by rw [HQ.out]; exact HX.out) HP.out hb23
      · have HP := Lib.hid (show pieceOf x = none by
          unfold pieceOf
          cases e : Lib.atoiAll x with
          | ok n => exact absurd ⟨n, e⟩ ha
          | _ => rfl)
        have HA := Lib.hid (atoi_bad x wr (HW.out.below HBW.out) hxl (fun n e => ha ⟨n, e⟩))
        clear ha
        go_wp2_with fail
        refine HA.out.mono ?_
        rintro e w2 ⟨n, t, p, rfl, hb2⟩
        go_wp2_with fail
        go_ret2
        exact post_bad (by rw [HQ.out]; exact HX.out) HP.out (bnext HBW.out hb2 HBW.out.size)
    · have hkq : k = Q.length := by omega
      subst hkq
      have htk : Q.take Q.length = Q := List.take_length
      have hbw : Below w.heap.size w wr := bnext HB1.out HWr.out HB1.out.size
      have HBW := Lib.hid hbw
      have hpe : parseErr s = vecErr (valsOf Q) := by unfold parseErr; rw [HQ.out, if_pos (by have := HOK.out; rwa [htk] at this)]
      have HR' := HR
      rw [htk] at HR'
      have hlen : (valsOf Q).length = Q.length := by simp [valsOf]
      obtain ⟨r, hr⟩ : ∃ r, vecErr (valsOf Q) = r := ⟨_, rfl⟩
      by_cases h0 : r = 0
      · subst h0
        have h8 := vecErr_len hr
        have hown := HR'.out
        rw [show Q.length = 8 by omega] at hown
        obtain ⟨g, cp, rfl, hg1, hg2⟩ := own_form hown (by omega)
        have hro : Row wr (fun b => w1.heap.size ≤ b ∧ b < wr.heap.size) 1 intCells (some ⟨g, 0, none⟩) (valsOf Q) := by
          have := hown
          rw [← h8] at this
          exact Row.of_own (n := 8) intCells_len (by rw [h8] at *; exact this) rfl
        have HV := Lib.hid (vector_ok (some ⟨g, 0, none⟩) cp (valsOf Q) wr hr (by omega) hro)
        have HO := Lib.hid hown
        rw [h8] at HV
        have HPe := Lib.hid (hpe.trans hr)
        clear hpe hr hro hown hbw
        go_wp2_with fail
        refine HV.out.mono ?_
        rintro e w2 ⟨rfl, rfl⟩
        go_wp2_with fail
        go_ret2
        refine ⟨_, by rw [HPe.out]; rfl, HBW.out, fun e => absurd HPe.out e, fun _ => ⟨g, cp, rfl, ?_⟩⟩
        rw [HQ.out]; exact own_mono HO.out HB1.out.size
      · have hro : ∃ ad cp, sv = Value.slice ad (valsOf Q).length cp ∧ Row wr (fun b => w1.heap.size ≤ b ∧ b < wr.heap.size) 1 intCells ad (valsOf Q) := by
          rw [hlen]
          rcases HR'.out.2 with ⟨e1, e2⟩ | ⟨g, cap, cur, e1, _⟩
          · refine ⟨none, 0, by rw [e1, e2], ?_⟩
            have : valsOf Q = [] := List.eq_nil_of_length_eq_zero (by omega)
            rw [this]; exact Row.nil _ _ _ _ _
          · subst e1
            exact ⟨_, cap, rfl, Row.of_own intCells_len (by rw [hlen]; exact HR'.out) rfl⟩
        obtain ⟨ad, cp, rfl, hro⟩ := hro
        have hv := vector_to ad cp (valsOf Q) wr r hr (by omega) hro
        rw [errV_ne h0] at hv
        have HV := Lib.hid hv
        have HPe := Lib.hid (hpe.trans hr)
        clear hpe hr hro hv hbw hlen htk
        go_wp2_with fail
        refine HV.out.mono ?_
        rintro e w2 ⟨rfl, rfl⟩
        go_wp2_with fail
        go_ret2
        exact ⟨.slice none 0 0, by rw [HPe.out, errV_ne h0]; rfl, HBW.out, fun _ => rfl, fun e => absurd (HPe.out.symm.trans e) h0⟩
end Go.Proofs.YtlbnafnbjgageaaGreatDoor
