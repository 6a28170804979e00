/- The library's texts and numbers, in this program's words: what the world must hold, strings.Split at one byte, strconv.Atoi, strconv.Itoa, strings.Join. -/
import Derived.Test.YtlbnafnbjgageaaGreatDoorVec
import Derived.Test.YtlbnafnbjgageaaGreatDoorShelf
import Derived.Lib.SmallJoins
import Derived.Lib.AppendIntMem
import Derived.Lib.AtoiErrMem
namespace Go.Proofs.YtlbnafnbjgageaaGreatDoor
open Go.RowKit
def textCells (x : Str) : List Value := [.string ⟨x.toArray⟩]
theorem textCells_len (x : Str) : (textCells x).length = 1 := rfl
theorem textCells_one (x : Str) : ∀ u ∈ textCells x, u.oneCell' = true := by simp [textCells, Value.oneCell']
theorem textCells_ne (x : Str) : textCells x ≠ [] := by simp [textCells]
theorem Tryz.stTexts : SliceTy Tryz.prog 105 9 (.string ⟨#[]⟩) 1 16 := ⟨Tryz.underlying105, by kernel_rfl, rfl, by decide⟩
theorem text_at {w : World} {G : Nat → Prop} {ad : Option Addr} {k : Nat} {L : List Str} (h : Row w G 1 textCells ad L) {x : Str} (hx : L[k]? = some x) :
    ∃ b off, ad = some ⟨b, off, none⟩ ∧ G b ∧ w.cell? ⟨b, off + k, none⟩ = some (.string ⟨x.toArray⟩) := by
  obtain ⟨b, off, e, g, hc⟩ := h (by rintro rfl; simp at hx)
  exact ⟨b, off, e, g, by have := hc k x hx 0 _ rfl; simpa using this⟩
/-- What the library's own variables hold. -/
structure TextWorld (w : World) : Prop where
  most : ∃ m, w.cell? ⟨1, 0, none⟩ = some (.int .i64 m)
  tab : Lib.TabIs Tryz.prog w "internal/strconv.uint64pow10" .u64 Lib.pow10Tab
  syn : ∃ ev, w.cell? ⟨3, 0, none⟩ = some ev ∧ (ev = .nilIface ∨ ∃ te pe, ev = .iface te pe)
  rng : ∃ ev, w.cell? ⟨4, 0, none⟩ = some ev ∧ (ev = .nilIface ∨ ∃ te pe, ev = .iface te pe)
theorem Tryz.gTab : Tryz.prog.globalNamed "internal/strconv.uint64pow10" = some 5 := by kernel_rfl
theorem TextWorld.below {w w' : World} (h : TextWorld w) (hb : Below w.heap.size w w') : TextWorld w' := by
  obtain ⟨⟨m, h1⟩, h2, ⟨e3, h3, k3⟩, ⟨e4, h4, k4⟩⟩ := h
  exact ⟨⟨m, (hb.cell (p := ⟨1, 0, none⟩) (lt_of_cell h1)).trans h1⟩, Go.Joins.tab_stays Tryz.gTab h2 hb (Nat.le_refl _), ⟨e3, (hb.cell (p := ⟨3, 0, none⟩) (lt_of_cell h3)).trans h3, k3⟩, ⟨e4, (hb.cell (p := ⟨4, 0, none⟩) (lt_of_cell h4)).trans h4, k4⟩⟩
theorem split_is (s : Str) (c : UInt8) (w : World) (hT : TextWorld w) (hs : s.length < 4294967281) :
    Calls Tryz.prog 147 #[.string ⟨s.toArray⟩, .string ⟨#[c]⟩] w fun e w' => ∃ g, e = .returned (.slice (some ⟨g, 0, none⟩) (Lib.split s [c]).length (Lib.split s [c]).length) ∧ Row w' (fun b => b = g) 1 textCells (some ⟨g, 0, none⟩) (Lib.split s [c]) ∧ Below w.heap.size w w' := by
  obtain ⟨m, hm⟩ := hT.most
  have hsz : (⟨s.toArray⟩ : ByteArray).size = s.length := by show s.toArray.size = _; simp
  refine (Tryz.strings_Split ⟨s.toArray⟩ ⟨#[c]⟩ m w (by rw [hsz]; exact hs) hm (Nat.le_refl 1)).mono ?_
  rintro e w' ⟨rfl, rfl⟩
  have hd := Lib.splitB_data ⟨#[c]⟩ 0 (Lib.countB ⟨s.toArray⟩ ⟨#[c]⟩) ⟨s.toArray⟩
  have hl := Lib.splitB_all ⟨#[c]⟩ (Nat.le_refl 1) 0 _ ⟨s.toArray⟩ rfl
  have hq : Lib.split s [c] = (Lib.splitB ⟨#[c]⟩ 0 (Lib.countB ⟨s.toArray⟩ ⟨#[c]⟩) ⟨s.toArray⟩).map (·.data.toList) := by rw [hd]; rfl
  have hlen : (Lib.split s [c]).length = Lib.countB ⟨s.toArray⟩ ⟨#[c]⟩ + 1 := by rw [hq, List.length_map, hl]
  refine ⟨w.heap.size, by rw [hlen], ?_, (Below.refl _ _).alloc (Nat.le_refl _) _⟩
  rw [hq]
  intro _
  refine ⟨w.heap.size, 0, rfl, rfl, fun i x hx j u hu => ?_⟩
  rw [List.getElem?_map] at hx
  obtain ⟨y, hy, rfl⟩ := Option.map_eq_some_iff.1 hx
  have hj : j = 0 := by
    have := (List.getElem?_eq_some_iff.1 hu).1
    simp [textCells] at this; omega
  subst hj
  have hu' : u = .string y := by
    simp [textCells] at hu
    rw [← hu]
  subst hu'
  simp only [Nat.mul_one, Nat.zero_add, Nat.add_zero]
  rw [blk_cell (blk_new w _)]
  simp [hy]
theorem size_str (s : Str) : (⟨s.toArray⟩ : ByteArray).size = s.length := by show s.toArray.size = _; simp
theorem atoi_ok (s : Str) (n : Int) (w : World) (hs : s.length ≤ 281474976710656) (h : Lib.atoiAll s = .ok n) :
    Calls Tryz.prog 148 #[.string ⟨s.toArray⟩] w fun e w' => e = .returned (.tuple #[.int .i64 n, .nilIface]) ∧ Below w.heap.size w w' := by
  refine (Tryz.strconv_Atoi_ok ⟨s.toArray⟩ (by rw [size_str]; omega) n h w).mono ?_
  rintro e w' ⟨rfl, rfl | ⟨t, rfl⟩⟩
  · exact ⟨rfl, Below.refl _ _⟩
  · exact ⟨rfl, Lib.bytesWorld_below _ _ _⟩
theorem atoi_bad (s : Str) (w : World) (hT : TextWorld w) (hs : s.length ≤ 281474976710656) (h : ∀ n, Lib.atoiAll s ≠ .ok n) :
    Calls Tryz.prog 148 #[.string ⟨s.toArray⟩] w fun e w' => ∃ n t p, e = .returned (.tuple #[.int .i64 n, .iface t p]) ∧ Below w.heap.size w w' := by
  obtain ⟨e3, h3, k3⟩ := hT.syn
  obtain ⟨e4, h4, k4⟩ := hT.rng
  cases ha : Lib.atoiAll s
  · exact absurd ha (h _)
  · refine (Tryz.strconv_Atoi_syntax ⟨s.toArray⟩ (by rw [size_str]; omega) ha e3 w h3 k3).mono ?_
    rintro e w' ⟨N, rfl, -, -, hb⟩
    exact ⟨_, _, _, rfl, hb⟩
  · refine (Tryz.strconv_Atoi_range ⟨s.toArray⟩ (by rw [size_str]; omega) ha e4 w h4 k4).mono ?_
    rintro e w' ⟨N, rfl, -, -, hb⟩
    exact ⟨_, _, _, rfl, hb⟩
theorem itoa_is (n : Int) (w : World) (hT : TextWorld w) (h0 : -9223372036854775808 ≤ n) (h1 : n ≤ 9223372036854775807) :
    Calls Tryz.prog 143 #[.int .i64 n] w fun e w' => e = .returned (.string ⟨(Lib.itoa n).toArray⟩) ∧ Below w.heap.size w w' := by
  refine (Tryz.strconv_Itoa n h0 h1 w hT.tab).mono ?_
  rintro e w' ⟨rfl, k, os, rfl⟩
  exact ⟨rfl, Lib.below_grow _ _ (Nat.le_refl _) _ _⟩
theorem join_is {G : Nat → Prop} (ad : Option Addr) (cap : Nat) (L : List Str) (c : UInt8) (w : World) (hcap : L.length ≤ cap) (hl : L.length ≤ 1000000000000) (hsum : (Lib.join L [c]).length ≤ 140737488355328) (h : Row w G 1 textCells ad L) :
    Calls Tryz.prog 144 #[.slice ad L.length cap, .string ⟨#[c]⟩] w fun e w' => e = .returned (.string ⟨(Lib.join L [c]).toArray⟩) ∧ Below w.heap.size w w' := by
  by_cases hL : L = []
  · subst hL
    refine (Tryz.strings_Join_none ad cap ⟨#[c]⟩ w).mono ?_
    rintro e w' ⟨rfl, rfl⟩
    exact ⟨rfl, Below.refl _ _⟩
  · obtain ⟨b, off, rfl, -, hc⟩ := h hL
    have hm : (L.map fun x => (⟨x.toArray⟩ : ByteArray)).map (·.data.toList) = L := by simp [List.map_map, Function.comp_def]
    have hb : b < w.heap.size := by
      obtain ⟨x, hx⟩ : ∃ x, L[0]? = some x := ⟨_, List.getElem?_eq_getElem (List.length_pos_iff.2 hL)⟩
      exact lt_of_cell (hc 0 x hx 0 _ rfl)
    have := Tryz.strings_Join b off cap (L.map fun x => ⟨x.toArray⟩) ⟨#[c]⟩ w (fun j x hx => by
      rw [List.getElem?_map] at hx
      obtain ⟨y, hy, rfl⟩ := Option.map_eq_some_iff.1 hx
      have := hc j y hy 0 _ rfl
      simpa using this) hb (by rw [List.length_map]; omega) (by rw [List.length_map]; exact hcap) (by rw [hm]; exact hsum)
    rw [hm, List.length_map] at this
    exact this
end Go.Proofs.YtlbnafnbjgageaaGreatDoor
