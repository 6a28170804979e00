/- Closed facts of this seat's program, and how its data lie in memory. -/
import Derived.Test.YtlbnafnbjgageaaGreatDoorProg
import Derived.Test.YtlbnafnbjgageaaGreatDoorWords
import Derived.Test.YtlbnafnbjgageaaGreatDoorPlain
namespace Go.Proofs.YtlbnafnbjgageaaGreatDoor
open Go.RowKit
theorem Tryz.stBytes : SliceTy Tryz.prog 163 5 (.int .u8 0) 1 1 := ⟨Tryz.underlying163, by kernel_rfl, rfl, by decide⟩
theorem Tryz.stInts : SliceTy Tryz.prog 23 3 (.int .i64 0) 1 8 := ⟨Tryz.underlying23, by kernel_rfl, rfl, by decide⟩
theorem Tryz.stLeafs : SliceTy Tryz.prog 49 156 (.agg #[.string ⟨#[]⟩, .int .i64 0, .bool false]) 3 32 := ⟨Tryz.underlying49, by kernel_rfl, rfl, by decide⟩
theorem Tryz.stMarks : SliceTy Tryz.prog 51 176 (.agg #[.string ⟨#[]⟩, .int .i64 0, .int .i64 0]) 3 32 := ⟨Tryz.underlying51, by kernel_rfl, rfl, by decide⟩
theorem Tryz.stDots : SliceTy Tryz.prog 28 27 (.agg #[.int .i64 0, .int .i64 0]) 2 16 := ⟨Tryz.underlying28, by kernel_rfl, rfl, by decide⟩
theorem Tryz.stOps : SliceTy Tryz.prog 22 30 (.agg #[.int .i64 0, .int .i64 0, .int .i64 0, .string ⟨#[]⟩, .int .i64 0, .slice none 0 0]) 6 72 := ⟨Tryz.underlying22, by kernel_rfl, rfl, by decide⟩
def leafCells (x : Leaf) : List Value := [.string ⟨x.place.toArray⟩, .int .i64 x.letter, .bool x.struck]
def dotCells (x : Dot) : List Value := [.int .i64 x.who, .int .i64 x.n]
def markCells (x : Mark) : List Value := [.string ⟨x.place.toArray⟩, .int .i64 x.dot.who, .int .i64 x.dot.n]
def intCells (x : Int) : List Value := [.int .i64 x]
theorem leafCells_len (x : Leaf) : (leafCells x).length = 3 := rfl
theorem dotCells_len (x : Dot) : (dotCells x).length = 2 := rfl
theorem markCells_len (x : Mark) : (markCells x).length = 3 := rfl
theorem intCells_len (x : Int) : (intCells x).length = 1 := rfl
theorem leafCells_one (x : Leaf) : ∀ u ∈ leafCells x, u.oneCell' = true := by simp [leafCells, Value.oneCell']
theorem dotCells_one (x : Dot) : ∀ u ∈ dotCells x, u.oneCell' = true := by simp [dotCells, Value.oneCell']
theorem markCells_one (x : Mark) : ∀ u ∈ markCells x, u.oneCell' = true := by simp [markCells, Value.oneCell']
theorem intCells_one (x : Int) : ∀ u ∈ intCells x, u.oneCell' = true := by simp [intCells, Value.oneCell']
theorem leafCells_ne (x : Leaf) : leafCells x ≠ [] := by simp [leafCells]
theorem dotCells_ne (x : Dot) : dotCells x ≠ [] := by simp [dotCells]
theorem markCells_ne (x : Mark) : markCells x ≠ [] := by simp [markCells]
theorem intCells_ne (x : Int) : intCells x ≠ [] := by simp [intCells]
section
variable {w : World} {G : Nat → Prop} {ad : Option Addr} {k : Nat}
theorem leaf_at {L : List Leaf} (h : Row w G 3 leafCells ad L) {x : Leaf} (hx : L[k]? = some x) :
    ∃ b off, ad = some ⟨b, off, none⟩ ∧ G b ∧ w.cell? ⟨b, off + k * 3, none⟩ = some (.string ⟨x.place.toArray⟩) ∧ w.cell? ⟨b, off + k * 3 + 1, none⟩ = some (.int .i64 x.letter) ∧ w.cell? ⟨b, off + k * 3 + 2, none⟩ = some (.bool x.struck) := by
  obtain ⟨b, off, e, g, hc⟩ := h (by rintro rfl; simp at hx)
  exact ⟨b, off, e, g, hc k x hx 0 _ rfl, hc k x hx 1 _ rfl, hc k x hx 2 _ rfl⟩
theorem mark_at {L : List Mark} (h : Row w G 3 markCells ad L) {x : Mark} (hx : L[k]? = some x) :
    ∃ b off, ad = some ⟨b, off, none⟩ ∧ G b ∧ w.cell? ⟨b, off + k * 3, none⟩ = some (.string ⟨x.place.toArray⟩) ∧ w.cell? ⟨b, off + k * 3 + 1, none⟩ = some (.int .i64 x.dot.who) ∧ w.cell? ⟨b, off + k * 3 + 2, none⟩ = some (.int .i64 x.dot.n) := by
  obtain ⟨b, off, e, g, hc⟩ := h (by rintro rfl; simp at hx)
  exact ⟨b, off, e, g, hc k x hx 0 _ rfl, hc k x hx 1 _ rfl, hc k x hx 2 _ rfl⟩
theorem dot_at {L : List Dot} (h : Row w G 2 dotCells ad L) {x : Dot} (hx : L[k]? = some x) :
    ∃ b off, ad = some ⟨b, off, none⟩ ∧ G b ∧ w.cell? ⟨b, off + k * 2, none⟩ = some (.int .i64 x.who) ∧ w.cell? ⟨b, off + k * 2 + 1, none⟩ = some (.int .i64 x.n) := by
  obtain ⟨b, off, e, g, hc⟩ := h (by rintro rfl; simp at hx)
  exact ⟨b, off, e, g, hc k x hx 0 _ rfl, hc k x hx 1 _ rfl⟩
theorem int_at {L : List Int} (h : Row w G 1 intCells ad L) {x : Int} (hx : L[k]? = some x) :
    ∃ b off, ad = some ⟨b, off, none⟩ ∧ G b ∧ w.cell? ⟨b, off + k, none⟩ = some (.int .i64 x) := by
  obtain ⟨b, off, e, g, hc⟩ := h (by rintro rfl; simp at hx)
  exact ⟨b, off, e, g, by have := hc k x hx 0 _ rfl; simpa using this⟩
end
/-- An error by its number: 0 is nil. -/
def errV (e : Int) : Value := if e = 0 then .nilIface else .iface 160 (.int .i64 e)
theorem errV_0 : errV 0 = .nilIface := rfl
theorem errV_ne {e : Int} (h : e ≠ 0) : errV e = .iface 160 (.int .i64 e) := if_neg h
theorem errV_at {e r : Int} (h : e = r) : errV e = errV r := by rw [h]
end Go.Proofs.YtlbnafnbjgageaaGreatDoor
