/- Vectors as text, by the contracts: Print, Parse. -/
import Derived.Test.YtlbnafnbjgageaaGreatDoorTexts
import Derived.Test.YtlbnafnbjgageaaGreatDoorVecTwo
namespace Go.Proofs.YtlbnafnbjgageaaGreatDoor
open Go.RowKit
def printV (v : List Int) : Str := Lib.join (v.map Lib.itoa) [46]
theorem flat_texts (L : List Str) : L.flatMap textCells = L.map (fun x => Value.string ⟨x.toArray⟩) := by
  induction L with
  | nil => rfl
  | cons x L ih => rw [List.flatMap_cons, ih]; rfl
theorem vec_bound {L : List Int} (h : vecErr L = 0) {k : Nat} {x : Int} (hx : L[k]? = some x) : 0 ≤ x ∧ x ≤ 9999 := by
  rw [vecErr_any] at h
  split at h
  · cases h
  · split at h
    · cases h
    · rename_i g
      have := List.any_eq_false.1 (by simpa using g) x (List.mem_of_getElem? hx)
      simp [vecB] at this
      omega
set_option maxRecDepth 100000 in
theorem print_bad {G : Nat → Prop} (ad : Option Addr) (cap : Nat) (L : List Int) (w : World) (r : Int) (hr : vecErr L = r) (h0 : r ≠ 0) (hl : L.length ≤ 1000000000000000) (h : Row w G 1 intCells ad L) :
    Calls Tryz.prog 63 #[.slice ad L.length cap] w fun e w' => e = .returned (.tuple #[.string ⟨#[]⟩, .iface 160 (.int .i64 r)]) ∧ w = w' := by
  have hv := vector_to ad cap L w r hr hl h
  rw [errV_ne h0] at hv
  have HV := Lib.hid hv
  clear h hr hl h0 hv
  go_enter Tryz.func63, Tryz.ntmps63
  go_wp2_with fail
  refine HV.out.mono ?_
  rintro e w1 ⟨rfl, rfl⟩
  go_wp2_with fail
  go_ret2
  exact ⟨rfl, rfl⟩
theorem itoa_len {n : Int} (h0 : 0 ≤ n) (h1 : n ≤ 9999) : (Lib.itoa n).length ≤ 4 := by
  unfold Lib.itoa
  rw [if_neg (by omega), Lib.decDigits_length]
  rw [Lib.nDigits]
  split
  · omega
  · rw [Lib.nDigits]
    split
    · omega
    · rw [Lib.nDigits]
      split
      · omega
      · rw [Lib.nDigits]
        split
        · omega
        · omega
theorem join_len (c : UInt8) : ∀ L : List Str, (∀ x ∈ L, x.length ≤ 4) → (Lib.join L [c]).length ≤ 5 * L.length
  | [], _ => by simp [Lib.join_nil]
  | [x], h => by rw [Lib.join_one]; have := h x (by simp); simp; omega
  | x :: y :: L, h => by
    have ih := join_len c (y :: L) (fun z hz => h z (List.mem_cons_of_mem _ hz))
    have e : Lib.join (x :: y :: L) [c] = x ++ c :: Lib.join (y :: L) [c] := by simp [Lib.join, List.intercalate, List.intersperse]
    rw [e, List.length_append, List.length_cons]
    have := h x (by simp)
    simp only [List.length_cons] at ih ⊢
    omega
set_option maxRecDepth 100000 in
set_option maxHeartbeats 4000000 in
theorem print_ok {G : Nat → Prop} (ad : Option Addr) (cap : Nat) (L : List Int) (w : World) (hT : TextWorld w) (hr : vecErr L = 0) (h : Row w G 1 intCells ad L) :
    Calls Tryz.prog 63 #[.slice ad L.length cap] w fun e w' => e = .returned (.tuple #[.string ⟨(printV L).toArray⟩, .nilIface]) ∧ Below w.heap.size w w' := by
  have h8 := vecErr_len hr
  have HB := Lib.hid (fun k x (hx : L[k]? = some x) => vec_bound hr hx)
  have HV := Lib.hid (vector_ok ad cap L w hr (by omega) h)
  have HW := Lib.hid hT
  have H := Lib.hid h
  have H8 := Lib.hid h8
  have HT := Lib.hid Tryz.stTexts
  rw [h8] at HV
  clear h hr hT
  rw [h8]
  clear h8
  go_enter Tryz.func63, Tryz.ntmps63
  go_wp2_with fail
  refine HV.out.mono ?_
  rintro e w1 ⟨rfl, rfl⟩
  go_wp2_with fail
  go_loopw [15, 5] (fun i sv wr => ∃ k : Nat, k ≤ 8 ∧ i = .int .i64 k ∧ Hid (wr.ownsRow w.heap.size 9 1 sv k (((L.take k).map Lib.itoa).flatMap textCells)) ∧ Hid (Below w.heap.size w wr)) (fun i _ _ => 8 - (intOf i).toNat)
  case atStart => exact ⟨0, Nat.zero_le _, rfl, Lib.hid (World.ownsRow_nil _ _ _ _), Lib.hid (Below.refl _ _)⟩
  case round =>
    obtain ⟨k, hk, rfl, HR, HWr⟩ := hrel
    rename_i sv wr
    by_cases hlt : k < 8
    · obtain ⟨x, hx⟩ : ∃ x, L[k]? = some x := ⟨_, List.getElem?_eq_getElem (by have := H8.out; omega)⟩
      obtain ⟨b, off, rfl, -, c0⟩ := int_at (H.out.below intCells_ne HWr.out) hx
      obtain ⟨hx0, hx1⟩ := HB.out k x hx
      have HS := Lib.hid (show ((L.take (k + 1)).map Lib.itoa).flatMap textCells = ((L.take k).map Lib.itoa).flatMap textCells ++ textCells (Lib.itoa x) by
        rw [List.take_add_one, hx]; simp)
      have HI := Lib.hid (itoa_is x wr (HW.out.below HWr.out) (by omega) (by omega))
      clear hx
      go_wp2_with (first | (go_at_call 143; refine HI.out.mono ?_; rintro e w1 ⟨rfl, hb1⟩; have hown1 := own_below HR.out hb1; have hbw1 := bnext HWr.out hb1 HWr.out.size) | (at_builtin; refine wpList_push rfl (.tmp 19) (.tmp 22) _ rfl HT.out _ rfl (by simp [Value.oneCell']) _ k 1 _ rfl rfl hown1 (by omega) (by decide) hbw1 hbw1.size ?_; intro v' w2 hown2 hb2 hsz2))
      go_roundw
      case rel =>
        refine ⟨k + 1, by omega, by go_num, Lib.hid ?_, Lib.hid hb2⟩
        rw [HS.out]; exact hown2
      case measure => simp [intOf]; omega
    · have hk8 : k = 8 := by omega
      subst hk8
      have HF := Lib.hid (show L.take 8 = L from List.take_of_length_le (by have := H8.out; omega))
      rw [HF.out] at HR
      have hlm : (L.map Lib.itoa).length = 8 := by rw [List.length_map]; exact H8.out
      obtain ⟨g, cp, rfl, hg1, hg2⟩ := own_form HR.out (by omega)
      have hro : Row wr (fun b => w.heap.size ≤ b ∧ b < wr.heap.size) 1 textCells (some ⟨g, 0, none⟩) (L.map Lib.itoa) := by
        have := HR.out
        rw [← hlm] at this
        exact Row.of_own (n := 8) textCells_len (by rw [hlm] at *; exact this) rfl
      have hcp : 8 ≤ cp := by
        rcases HR.out.2 with ⟨h1, _⟩ | ⟨g', cap', cur', h1, h2, h3, h4, h5, h6, h7⟩
        · cases h1
        · cases h1; omega
      have hj := join_is (some ⟨g, 0, none⟩) cp (L.map Lib.itoa) 46 wr (by omega) (by omega) (by
        have := join_len 46 (L.map Lib.itoa) (fun z hz => by
          obtain ⟨y, hy, rfl⟩ := List.mem_map.1 hz
          obtain ⟨j, hj, rfl⟩ := List.getElem_of_mem hy
          have := HB.out j _ (List.getElem?_eq_getElem hj)
          exact itoa_len this.1 this.2)
        omega) hro
      rw [hlm] at hj
      have HJ := Lib.hid hj
      clear hj hro hlm
      go_wp2_with fail
      refine HJ.out.mono ?_
      rintro e w1 ⟨rfl, hb1⟩
      go_wp2_with fail
      go_ret2
      exact ⟨rfl, bnext HWr.out hb1 HWr.out.size⟩
end Go.Proofs.YtlbnafnbjgageaaGreatDoor
