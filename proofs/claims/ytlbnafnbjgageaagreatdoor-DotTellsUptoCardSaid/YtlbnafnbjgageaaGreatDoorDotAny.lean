/- Package dot, by contracts that say what comes back be it an error or not. -/
import Derived.Test.YtlbnafnbjgageaaGreatDoorDotWalk0
import Derived.Test.YtlbnafnbjgageaaGreatDoorRefVec
import Derived.Test.YtlbnafnbjgageaaGreatDoorTold3
namespace Go.Proofs.YtlbnafnbjgageaaGreatDoor
open Go.RowKit
def hasV (L : List Int) (d : Dot) : Bool := if readyErr L d = 0 then decide (d.n ≤ L.getD (d.who - 1).toNat 0) else false
theorem has_any {G : Nat → Prop} (ad : Option Addr) (cap : Nat) (L : List Int) (d : Dot) (w : World) (hl : L.length ≤ 1000000000000000) (h : Row w G 1 intCells ad L) :
    Calls Tryz.prog 60 #[.slice ad L.length cap, .agg #[.int .i64 d.who, .int .i64 d.n]] w fun e w' => e = .returned (.tuple #[.bool (hasV L d), errV (readyErr L d)]) ∧ Below w.heap.size w w' := by
  by_cases h0 : readyErr L d = 0
  · have := has_ok ad cap L d w _ h0 rfl h
    unfold hasV
    rw [h0, if_pos rfl]
    exact this
  · have := has_bad ad cap L d w _ rfl h0 hl h
    unfold hasV
    rw [if_neg h0, errV_ne h0]
    exact this
def addV (L : List Int) (d : Dot) : List Int := if addErr L d = 0 then L.set (d.who - 1).toNat d.n else []
theorem add_any (ad : Option Addr) (cap : Nat) (L : List Int) (d : Dot) (w : World) (hl : L.length ≤ 1000000000000000) (h : At w ad L) :
    Calls Tryz.prog 61 #[.slice ad L.length cap, .agg #[.int .i64 d.who, .int .i64 d.n]] w fun e w' => ∃ ad' cp, e = .returned (.tuple #[.slice ad' (addV L d).length cp, errV (addErr L d)]) ∧ At w' ad' (addV L d) ∧ Below w.heap.size w w' := by
  by_cases h0 : addErr L d = 0
  · refine (add_ok ad cap L d w h0 (fun _ hb => hb) h).mono ?_
    rintro e w' ⟨v, rfl, hown, hb, hs⟩
    have hv : addV L d = L.set (d.who - 1).toNat d.n := if_pos h0
    rw [hv]
    have h8 : 0 < (L.set (d.who - 1).toNat d.n).length := by
      have hre : readyErr L d = 0 := by
        unfold addErr at h0
        rcases Classical.em (readyErr L d = 0) with e | e
        · exact e
        · rw [if_pos e] at h0; exact absurd h0 e
      rw [List.length_set, vecErr_len (readyErr_0 hre).1]; omega
    obtain ⟨g, cp, rfl, hg1, hg2⟩ := own_form hown h8
    exact ⟨_, cp, by rw [h0]; rfl, (Row.of_own intCells_len hown rfl).mono fun _ hb => hb.2, hb⟩
  · refine (add_bad ad cap L d w _ rfl h0 hl h).mono ?_
    rintro e w' ⟨rfl, hb⟩
    have hv : addV L d = [] := if_neg h0
    exact ⟨none, 0, by rw [hv, errV_ne h0]; rfl, by rw [hv]; exact Row.nil _ _ _ _ _, hb⟩
def printE (L : List Int) : Str := if vecErr L = 0 then printV L else []
theorem print_any (ad : Option Addr) (cap : Nat) (L : List Int) (w : World) (hl : L.length ≤ 1000000000000000) (hT : TextWorld w) (h : At w ad L) :
    Calls Tryz.prog 63 #[.slice ad L.length cap] w fun e w' => e = .returned (.tuple #[.string ⟨(printE L).toArray⟩, errV (vecErr L)]) ∧ Below w.heap.size w w' := by
  by_cases h0 : vecErr L = 0
  · have := print_ok ad cap L w hT h0 h
    unfold printE
    rw [h0, if_pos rfl]; exact this
  · refine (print_bad ad cap L w _ rfl h0 hl h).mono ?_
    rintro e w' ⟨rfl, rfl⟩
    unfold printE
    rw [if_neg h0, errV_ne h0]
    exact ⟨rfl, Below.refl _ _⟩
def cmpVI (A B : List Int) : Int := if bothErr A B = 0 then cmpInt A B else 0
def cmpVB (A B : List Int) : Bool := if bothErr A B = 0 then cmpIs A B else false
theorem cmp_any (ad ad' : Option Addr) (cap cap' : Nat) (A B : List Int) (w : World) (hl : A.length ≤ 1000000000000000) (hl' : B.length ≤ 1000000000000000) (h : At w ad A) (h' : At w ad' B) :
    Calls Tryz.prog 65 #[.slice ad A.length cap, .slice ad' B.length cap'] w fun e w' => e = .returned (.tuple #[.int .i64 (cmpVI A B), .bool (cmpVB A B), errV (bothErr A B)]) ∧ Below w.heap.size w w' := by
  unfold cmpVI cmpVB
  by_cases h0 : bothErr A B = 0
  · have := compare_ok ad ad' cap cap' A B w h0 h h'
    rw [h0, if_pos rfl, if_pos rfl]; exact this
  · refine (compare_bad ad ad' cap cap' A B w _ rfl h0 hl hl' h h').mono ?_
    rintro e w' ⟨rfl, rfl⟩
    rw [if_neg h0, if_neg h0, errV_ne h0]
    exact ⟨rfl, Below.refl _ _⟩
def parseV (s : Str) : List Int := if parseErr s = 0 then valsOf (Lib.split s [46]) else []
theorem parse_any (s : Str) (w : World) (hT : TextWorld w) (hs : s.length < 4294967281) :
    Calls Tryz.prog 67 #[.string ⟨s.toArray⟩] w fun e w' => ∃ ad cp, e = .returned (.tuple #[.slice ad (parseV s).length cp, errV (parseErr s)]) ∧ At w' ad (parseV s) ∧ Below w.heap.size w w' := by
  refine (parse_is s w hT hs).mono ?_
  rintro e w' ⟨v, rfl, hb, h1, h2⟩
  by_cases h0 : parseErr s = 0
  · obtain ⟨g, cp, rfl, hown⟩ := h2 h0
    have hv : parseV s = valsOf (Lib.split s [46]) := if_pos h0
    have h8 := vecErr_len (print_parse h0).1
    exact ⟨_, cp, by rw [hv, h8], by rw [hv]; exact own8 h8 hown, hb⟩
  · have hv : parseV s = [] := if_neg h0
    exact ⟨none, 0, by rw [h1 h0, hv]; rfl, by rw [hv]; exact Row.nil _ _ _ _ _, hb⟩
theorem read_any (s : Str) (w : World) (hs : s.length ≤ 1000000000) :
    Calls Tryz.prog 66 #[.string ⟨s.toArray⟩] w fun e w' => ∃ ad cp, e = .returned (.tuple #[.slice ad (parseV s).length cp, .int .i64 (parseErr s)]) ∧ At w' ad (parseV s) ∧ Below w.heap.size w w' := by
  refine (rread_is ⟨s.toArray⟩ w (by rw [size_str]; exact hs)).mono ?_
  rintro e w' ⟨v, rfl, hb, h1, h2⟩
  by_cases h0 : parseErr s = 0
  · obtain ⟨g, cp, rfl, hown⟩ := h2 h0
    have hv : parseV s = valsOf (Lib.split s [46]) := if_pos h0
    have h8 := vecErr_len (print_parse h0).1
    exact ⟨_, cp, by rw [hv, h8], by rw [hv]; exact own8 h8 hown, hb⟩
  · have hv : parseV s = [] := if_neg h0
    exact ⟨none, 0, by rw [h1 h0, hv]; rfl, by rw [hv]; exact Row.nil _ _ _ _ _, hb⟩
end Go.Proofs.YtlbnafnbjgageaaGreatDoor
