/- slices.Clone at each type of elements: the same cells in memory of the call's own. -/
import Derived.Test.YtlbnafnbjgageaaDoorFacts
import Derived.Lib.SliceRun
namespace Go.Proofs.YtlbnafnbjgageaaDoor
open Go.RowKit
/-- What comes back is a row of the call's own that holds L; nothing that was there has turned. -/
def Fresh {α : Type} (w w' : World) (_t e : TypeId) (k : Nat) (enc : α → List Value) (L : List α) (en : Ending) : Prop :=
  ∃ v, en = .returned v ∧ w'.ownsRow w.heap.size e k v L.length (L.flatMap enc) ∧ Below w.heap.size w w' ∧ w.heap.size ≤ w'.heap.size
/-- The same of a list that is not empty: where it lies. -/
def FreshAt {α : Type} (w w' : World) (e : TypeId) (k : Nat) (enc : α → List Value) (L : List α) (en : Ending) : Prop :=
  ∃ g cap, en = .returned (.slice (some ⟨g, 0, none⟩) L.length cap) ∧ w'.ownsRow w.heap.size e k (.slice (some ⟨g, 0, none⟩) L.length cap) L.length (L.flatMap enc) ∧ Below w.heap.size w w' ∧ w.heap.size ≤ w'.heap.size ∧ w.heap.size ≤ g ∧ g < w'.heap.size
theorem Fresh.at_ {α : Type} {w w' : World} {t e : TypeId} {k : Nat} {enc : α → List Value} {L : List α} {en : Ending} (h : Fresh w w' t e k enc L en) (hL : 0 < L.length) : FreshAt w w' e k enc L en := by
  obtain ⟨v, rfl, hown, hb, hs⟩ := h
  obtain ⟨g, cap, rfl, hg, hl⟩ := own_form hown hL
  exact ⟨g, cap, rfl, hown, hb, hs, hg, hl⟩
set_option maxRecDepth 100000 in
theorem clone_ints {G : Nat → Prop} (ad : Option Addr) (cap : Nat) (L : List Int) (w : World) (hl : L.length ≤ 100000000000) (h : Row w G 1 intCells ad L) :
    Calls Tryd.prog 10 #[.slice ad L.length cap] w fun e w' => Fresh w w' 22 3 1 intCells L e := by
  have H := Lib.hid h
  clear h
  have HT := Lib.hid Tryd.stInts
  have hn := fun w n => Lib.run_eql_slice_nil (P := Tryd.prog) w 22 3 ad n cap 0 0 Tryd.underlying22
  rcases ad with _ | ad
  · have hL : L = [] := by
      rcases Classical.em (L = []) with e | e
      · exact e
      · obtain ⟨_, _, e, _⟩ := H.out e
        cases e
    subst hL
    go_enter Tryd.func10, Tryd.ntmps10
    go_wp2
    go_ret
    exact ⟨_, rfl, World.ownsRow_nil _ _ _ _, Below.refl _ _, Nat.le_refl _⟩
  · go_enter Tryd.func10, Tryd.ntmps10
    go_wp2_with (at_builtin; refine wpList_append_row rfl (.tmp 5) (.tmp 6) _ rfl HT.out intCells_len intCells_one _ 0 _ [] _ L rfl rfl (own_empty 1) (H.out.below intCells_ne ((Below.refl _ _).alloc (Nat.le_refl _) _)) (by omega) (by decide) ((Below.refl w.heap.size w).alloc (Nat.le_refl _) _) (by simp) ?_; intro v' w2 hown2 hb2 hsz2)
    go_ret
    exact ⟨_, rfl, by simpa using hown2, hb2, hsz2⟩
end Go.Proofs.YtlbnafnbjgageaaDoor
