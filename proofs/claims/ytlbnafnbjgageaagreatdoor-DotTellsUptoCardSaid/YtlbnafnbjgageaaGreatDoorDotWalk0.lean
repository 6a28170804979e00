/- leaflaw1.DotMerges returns true: the walk. -/
import Derived.Test.YtlbnafnbjgageaaGreatDoorDotLaw
namespace Go.Proofs.YtlbnafnbjgageaaGreatDoor
open Go.RowKit
def mergeV (A B : List Int) : List Int := if bothErr A B = 0 then vmax A B else []
theorem mergeV_len (A B : List Int) : (mergeV A B).length ≤ 8 := by
  unfold mergeV
  split
  · rename_i h
    have h1 := vecErr_len (bothErr_0 h).1
    have h2 := vecErr_len (bothErr_0 h).2
    simp [vmax, h1, h2]
  · simp
/-- What comes back of a call, be it an error or not: a row that reads as a list. -/
def MergeAny (A B : List Int) (w w' : World) (e : Ending) : Prop :=
  ∃ ad cp, e = .returned (.tuple #[.slice ad (mergeV A B).length cp, errV (bothErr A B)]) ∧ Row w' (fun b => b < w'.heap.size) 1 intCells ad (mergeV A B) ∧ Below w.heap.size w w'
theorem merge_any {G G' : Nat → Prop} (ad ad' : Option Addr) (cap cap' : Nat) (A B : List Int) (w : World) (hl : A.length ≤ 1000000000000000) (hl' : B.length ≤ 1000000000000000) (h : Row w G 1 intCells ad A) (h' : Row w G' 1 intCells ad' B) :
    Calls Tryz.prog 64 #[.slice ad A.length cap, .slice ad' B.length cap'] w fun e w' => MergeAny A B w w' e := by
  by_cases h0 : bothErr A B = 0
  · refine (merge_ok ad ad' cap cap' A B w h0 h h').mono ?_
    rintro e w' ⟨g, cp, rfl, hown, hb⟩
    have hm : mergeV A B = vmax A B := if_pos h0
    have h8 : (vmax A B).length = 8 := by simp [vmax, vecErr_len (bothErr_0 h0).1, vecErr_len (bothErr_0 h0).2]
    refine ⟨some ⟨g, 0, none⟩, cp, by rw [hm, h8, h0]; rfl, ?_, hb⟩
    rw [hm]
    have hr : Row w' (fun b => w.heap.size ≤ b ∧ b < w'.heap.size) 1 intCells (some ⟨g, 0, none⟩) (vmax A B) := by
      have := hown
      rw [← h8] at this
      exact Row.of_own (n := 8) intCells_len (by rw [h8] at *; exact this) rfl
    exact hr.mono fun _ hb => hb.2
  · refine (merge_bad ad ad' cap cap' A B w _ rfl h0 hl hl' h h').mono ?_
    rintro e w' ⟨rfl, rfl⟩
    have hm : mergeV A B = [] := if_neg h0
    exact ⟨none, 0, by rw [hm, errV_ne h0]; rfl, by rw [hm]; exact Row.nil _ _ _ _ _, Below.refl _ _⟩
/-- What a vector reads at any world that is reached. -/
def At (w : World) (ad : Option Addr) (A : List Int) : Prop := Row w (fun b => b < w.heap.size) 1 intCells ad A
theorem At.next {w w' : World} {ad : Option Addr} {A : List Int} (h : At w ad A) (hb : Below w.heap.size w w') : At w' ad A :=
  (Row.below intCells_ne h hb).mono fun _ hb' => Nat.lt_of_lt_of_le hb' hb.size
theorem row_block {w : World} {g : Nat} {t : TypeId} {fr : Nat × Nat} (xs : List Int) (h : w.heap[g]? = some (.cells (xs.map (Value.int .i64)).toArray t fr)) : At w (some ⟨g, 0, none⟩) xs := by
  intro _
  refine ⟨g, 0, rfl, blk_lt h, fun i x hx j u hu => ?_⟩
  have hj : j = 0 := by
    have := (List.getElem?_eq_some_iff.1 hu).1
    simp [intCells] at this; omega
  subst hj
  have hu' : u = .int .i64 x := by
    simp [intCells] at hu
    rw [← hu]
  subst hu'
  simp only [Nat.mul_one, Nat.zero_add, Nat.add_zero]
  rw [blk_cell h]
  simp [hx]
def factOne : List Int := [1, 0, 0, 0, 0, 0, 0, 0]
def factTwo : List Int := [0, 2, 0, 0, 0, 0, 0, 0]
def FactPost (w w' : World) (e : Ending) : Prop := ∃ g cp, e = .returned (.tuple #[.slice (some ⟨g, 0, none⟩) 8 cp, .nilIface]) ∧ w'.cell? ⟨g, 0, none⟩ = some (.int .i64 1) ∧ w'.cell? ⟨g, 1, none⟩ = some (.int .i64 2) ∧ Below w.heap.size w w'
theorem fact_is (W : World) (x y : Nat) (hx : At W (some ⟨x, 0, none⟩) factOne) (hy : At W (some ⟨y, 0, none⟩) factTwo) :
    Calls Tryz.prog 64 #[.slice (some ⟨x, 0, none⟩) 8 8, .slice (some ⟨y, 0, none⟩) 8 8] W fun e w' => FactPost W w' e := by
  refine (merge_ok (some ⟨x, 0, none⟩) (some ⟨y, 0, none⟩) 8 8 factOne factTwo W (by decide) hx hy).mono ?_
  rintro e w' ⟨g, cp, rfl, hown, hb⟩
  exact ⟨g, cp, rfl, by rw [hown.cellAt 0 (by omega)]; rfl, by rw [hown.cellAt 1 (by omega)]; rfl, hb⟩
theorem print_len {A : List Int} (h : vecErr A = 0) : (printV A).length ≤ 40 := by
  have := join_len 46 (A.map Lib.itoa) (fun z hz => by
    obtain ⟨y, hy, rfl⟩ := List.mem_map.1 hz
    have := vec_all h y hy
    exact itoa_len this.1 this.2)
  rw [List.length_map, vecErr_len h] at this
  exact this
theorem vmax8 {A B : List Int} (h : A.length = 8) (k : B.length = 8) : (vmax A B).length = 8 := by simp [vmax, h, k]
theorem own8 {w w' : World} {g cp : Nat} {L : List Int} (h8 : L.length = 8) (h : w'.ownsRow w.heap.size 3 1 (.slice (some ⟨g, 0, none⟩) 8 cp) 8 (L.flatMap intCells)) : At w' (some ⟨g, 0, none⟩) L := by
  rw [← h8] at h
  exact (Row.of_own (n := 8) intCells_len (by rw [h8] at *; exact h) rfl).mono fun _ hb => hb.2
theorem parse_good (s : Str) (W : World) (hT : TextWorld W) (hs : s.length < 4294967281) (h : parseErr s = 0) :
    Calls Tryz.prog 67 #[.string ⟨s.toArray⟩] W fun e w' => ∃ g cp, e = .returned (.tuple #[.slice (some ⟨g, 0, none⟩) 8 cp, .nilIface]) ∧ At w' (some ⟨g, 0, none⟩) (valsOf (Lib.split s [46])) ∧ Below W.heap.size W w' := by
  refine (parse_is s W hT hs).mono ?_
  rintro e w' ⟨v, rfl, hb, -, h2⟩
  obtain ⟨g, cp, rfl, hown⟩ := h2 h
  exact ⟨g, cp, by rw [h]; rfl, own8 (vecErr_len (print_parse h).1) hown, hb⟩
theorem parse_none (s : Str) (W : World) (hT : TextWorld W) (hs : s.length < 4294967281) (h : parseErr s ≠ 0) :
    Calls Tryz.prog 67 #[.string ⟨s.toArray⟩] W fun e w' => ∃ r, e = .returned (.tuple #[.slice none 0 0, .iface 160 (.int .i64 r)]) ∧ Below W.heap.size W w' := by
  refine (parse_is s W hT hs).mono ?_
  rintro e w' ⟨v, rfl, hb, h1, -⟩
  exact ⟨parseErr s, by rw [h1 h, errV_ne h], hb⟩
theorem print8 (ad : Option Addr) (cap : Nat) (L : List Int) (w : World) (hT : TextWorld w) (hr : vecErr L = 0) (h : At w ad L) :
    Calls Tryz.prog 63 #[.slice ad 8 cap] w fun e w' => e = .returned (.tuple #[.string ⟨(printV L).toArray⟩, .nilIface]) ∧ Below w.heap.size w w' := by
  have := print_ok ad cap L w hT hr h
  rw [vecErr_len hr] at this; exact this
theorem merge8 (ad ad' : Option Addr) (cap cap' : Nat) (A B : List Int) (W : World) (h : bothErr A B = 0) (hA : At W ad A) (hB : At W ad' B) :
    Calls Tryz.prog 64 #[.slice ad 8 cap, .slice ad' 8 cap'] W fun e w' => ∃ g cp, e = .returned (.tuple #[.slice (some ⟨g, 0, none⟩) 8 cp, .nilIface]) ∧ At w' (some ⟨g, 0, none⟩) (vmax A B) ∧ Below W.heap.size W w' := by
  have h1 := vecErr_len (bothErr_0 h).1
  have h2 := vecErr_len (bothErr_0 h).2
  have := merge_ok ad ad' cap cap' A B W h hA hB
  rw [h1, h2] at this
  refine this.mono ?_
  rintro e w' ⟨g, cp, rfl, hown, hb⟩
  exact ⟨g, cp, rfl, own8 (vmax8 h1 h2) hown, hb⟩
theorem same8 (ad ad' : Option Addr) (cap cap' : Nat) (X Y : List Int) (W : World) (e : X = Y) (h8 : X.length = 8) (hA : At W ad X) (hB : At W ad' Y) :
    Calls Tryz.prog 35 #[.slice ad 8 cap, .slice ad' 8 cap'] W fun e w' => e = .returned (.bool true) ∧ Below W.heap.size W w' := by
  subst e
  have := same_ints ad ad' cap cap' X X W true (by simp) (by omega) (by omega) hA hB
  rw [h8] at this; exact this
theorem cmp8 (ad ad' : Option Addr) (cap cap' : Nat) (A B : List Int) (W : World) (h : bothErr A B = 0) (hA : At W ad A) (hB : At W ad' B) :
    Calls Tryz.prog 65 #[.slice ad 8 cap, .slice ad' 8 cap'] W fun e w' => e = .returned (.tuple #[.int .i64 (cmpInt A B), .bool (cmpIs A B), .nilIface]) ∧ Below W.heap.size W w' := by
  have := compare_ok ad ad' cap cap' A B W h hA hB
  rw [vecErr_len (bothErr_0 h).1, vecErr_len (bothErr_0 h).2] at this; exact this
end Go.Proofs.YtlbnafnbjgageaaGreatDoor
