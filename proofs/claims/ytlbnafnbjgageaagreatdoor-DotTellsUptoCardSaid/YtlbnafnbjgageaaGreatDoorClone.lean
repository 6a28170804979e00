/- slices.Clone at each type of elements: the same cells in memory of the call's own. -/
import Derived.Test.YtlbnafnbjgageaaGreatDoorFacts
import Derived.Lib.SliceRun
namespace Go.Proofs.YtlbnafnbjgageaaGreatDoor
open Go.RowKit
/-- What comes back is a row of the call's own that holds L; nothing that was there has turned. -/
def Fresh {α : Type} (w w' : World) (_t e : TypeId) (k : Nat) (enc : α → List Value) (L : List α) (en : Ending) : Prop :=
  ∃ v, en = .returned v ∧ w'.ownsRow w.heap.size e k v L.length (L.flatMap enc) ∧ Below w.heap.size w w' ∧ w.heap.size ≤ w'.heap.size
/-- The same of a list that is not empty: where it lies. -/
def FreshAt {α : Type} (w w' : World) (e : TypeId) (k : Nat) (enc : α → List Value) (L : List α) (en : Ending) : Prop :=
  ∃ g cap, en = .returned (.slice (some ⟨g, 0, none⟩) L.length cap) ∧ w'.ownsRow w.heap.size e k (.slice (some ⟨g, 0, none⟩) L.length cap) L.length (L.flatMap enc) ∧ Below w.heap.size w w' ∧ w.heap.size ≤ w'.heap.size ∧ w.heap.size ≤ g ∧ g < w'.heap.size
theorem Fresh.at_ {α : Type} {w w' : World} {t e : TypeId} {k : Nat} {enc : α → List Value} {L : List α} {en : Ending} (h : Fresh w w' t e k enc L en) (hL : 0 < L.length) : FreshAt w w' e k enc L en := by
  obtain ⟨v, rfl, hown, hb, hs⟩ := h
  obtain ⟨g, cap, rfl, hg, hl⟩ := own_form hown hL
  exact ⟨g, cap, rfl, hown, hb, hs, hg, hl⟩
set_option maxRecDepth 100000 in
theorem clone_ints {G : Nat → Prop} (ad : Option Addr) (cap : Nat) (L : List Int) (w : World) (hl : L.length ≤ 100000000000) (h : Row w G 1 intCells ad L) :
    Calls Tryz.prog 115 #[.slice ad L.length cap] w fun e w' => Fresh w w' 23 3 1 intCells L e := by
  have H := Lib.hid h
  clear h
  have HT := Lib.hid Tryz.stInts
  have hn := fun w n => Lib.run_eql_slice_nil (P := Tryz.prog) w 23 3 ad n cap 0 0 Tryz.underlying23
  rcases ad with _ | ad
  · have hL : L = [] := by
      rcases Classical.em (L = []) with e | e
      · exact e
      · obtain ⟨_, _, e, _⟩ := H.out e
        cases e
    subst hL
    go_enter Tryz.func115, Tryz.ntmps115
    go_wp2
    go_ret
    exact ⟨_, rfl, World.ownsRow_nil _ _ _ _, Below.refl _ _, Nat.le_refl _⟩
  · go_enter Tryz.func115, Tryz.ntmps115
    go_wp2_with (at_builtin; refine wpList_append_row rfl (.tmp 5) (.tmp 6) _ rfl HT.out intCells_len intCells_one _ 0 _ [] _ L rfl rfl (own_empty 1) (H.out.below intCells_ne ((Below.refl _ _).alloc (Nat.le_refl _) _)) (by omega) (by decide) ((Below.refl w.heap.size w).alloc (Nat.le_refl _) _) (by simp) ?_; intro v' w2 hown2 hb2 hsz2)
    go_ret
    exact ⟨_, rfl, by simpa using hown2, hb2, hsz2⟩
set_option maxRecDepth 100000 in
theorem clone_leafs {G : Nat → Prop} (ad : Option Addr) (cap : Nat) (L : List Leaf) (w : World) (hl : L.length ≤ 100000000000) (h : Row w G 3 leafCells ad L) :
    Calls Tryz.prog 113 #[.slice ad L.length cap] w fun e w' => Fresh w w' 49 156 3 leafCells L e := by
  have H := Lib.hid h
  clear h
  have HT := Lib.hid Tryz.stLeafs
  have hn := fun w n => Lib.run_eql_slice_nil (P := Tryz.prog) w 49 156 ad n cap 0 0 Tryz.underlying49
  rcases ad with _ | ad
  · have hL : L = [] := by
      rcases Classical.em (L = []) with e | e
      · exact e
      · obtain ⟨_, _, e, _⟩ := H.out e
        cases e
    subst hL
    go_enter Tryz.func113, Tryz.ntmps113
    go_wp2
    go_ret
    exact ⟨_, rfl, World.ownsRow_nil _ _ _ _, Below.refl _ _, Nat.le_refl _⟩
  · go_enter Tryz.func113, Tryz.ntmps113
    go_wp2_with (at_builtin; refine wpList_append_row rfl (.tmp 5) (.tmp 6) _ rfl HT.out leafCells_len leafCells_one _ 0 _ [] _ L rfl rfl (own_empty 3) (H.out.below leafCells_ne ((Below.refl _ _).alloc (Nat.le_refl _) _)) (by omega) (by decide) ((Below.refl w.heap.size w).alloc (Nat.le_refl _) _) (by simp) ?_; intro v' w2 hown2 hb2 hsz2)
    go_ret
    exact ⟨_, rfl, by simpa using hown2, hb2, hsz2⟩
set_option maxRecDepth 100000 in
theorem clone_marks {G : Nat → Prop} (ad : Option Addr) (cap : Nat) (L : List Mark) (w : World) (hl : L.length ≤ 100000000000) (h : Row w G 3 markCells ad L) :
    Calls Tryz.prog 114 #[.slice ad L.length cap] w fun e w' => Fresh w w' 51 176 3 markCells L e := by
  have H := Lib.hid h
  clear h
  have HT := Lib.hid Tryz.stMarks
  have hn := fun w n => Lib.run_eql_slice_nil (P := Tryz.prog) w 51 176 ad n cap 0 0 Tryz.underlying51
  rcases ad with _ | ad
  · have hL : L = [] := by
      rcases Classical.em (L = []) with e | e
      · exact e
      · obtain ⟨_, _, e, _⟩ := H.out e
        cases e
    subst hL
    go_enter Tryz.func114, Tryz.ntmps114
    go_wp2
    go_ret
    exact ⟨_, rfl, World.ownsRow_nil _ _ _ _, Below.refl _ _, Nat.le_refl _⟩
  · go_enter Tryz.func114, Tryz.ntmps114
    go_wp2_with (at_builtin; refine wpList_append_row rfl (.tmp 5) (.tmp 6) _ rfl HT.out markCells_len markCells_one _ 0 _ [] _ L rfl rfl (own_empty 3) (H.out.below markCells_ne ((Below.refl _ _).alloc (Nat.le_refl _) _)) (by omega) (by decide) ((Below.refl w.heap.size w).alloc (Nat.le_refl _) _) (by simp) ?_; intro v' w2 hown2 hb2 hsz2)
    go_ret
    exact ⟨_, rfl, by simpa using hown2, hb2, hsz2⟩
set_option maxRecDepth 100000 in
theorem clone_dots {G : Nat → Prop} (ad : Option Addr) (cap : Nat) (L : List Dot) (w : World) (hl : L.length ≤ 100000000000) (h : Row w G 2 dotCells ad L) :
    Calls Tryz.prog 118 #[.slice ad L.length cap] w fun e w' => Fresh w w' 28 27 2 dotCells L e := by
  have H := Lib.hid h
  clear h
  have HT := Lib.hid Tryz.stDots
  have hn := fun w n => Lib.run_eql_slice_nil (P := Tryz.prog) w 28 27 ad n cap 0 0 Tryz.underlying28
  rcases ad with _ | ad
  · have hL : L = [] := by
      rcases Classical.em (L = []) with e | e
      · exact e
      · obtain ⟨_, _, e, _⟩ := H.out e
        cases e
    subst hL
    go_enter Tryz.func118, Tryz.ntmps118
    go_wp2
    go_ret
    exact ⟨_, rfl, World.ownsRow_nil _ _ _ _, Below.refl _ _, Nat.le_refl _⟩
  · go_enter Tryz.func118, Tryz.ntmps118
    go_wp2_with (at_builtin; refine wpList_append_row rfl (.tmp 5) (.tmp 6) _ rfl HT.out dotCells_len dotCells_one _ 0 _ [] _ L rfl rfl (own_empty 2) (H.out.below dotCells_ne ((Below.refl _ _).alloc (Nat.le_refl _) _)) (by omega) (by decide) ((Below.refl w.heap.size w).alloc (Nat.le_refl _) _) (by simp) ?_; intro v' w2 hown2 hb2 hsz2)
    go_ret
    exact ⟨_, rfl, by simpa using hown2, hb2, hsz2⟩
end Go.Proofs.YtlbnafnbjgageaaGreatDoor
