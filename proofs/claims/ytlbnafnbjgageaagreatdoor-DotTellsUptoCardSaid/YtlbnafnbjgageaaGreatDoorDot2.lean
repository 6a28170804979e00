/- Package dot, by its contracts: what a vector knows, and one more. -/
import Derived.Test.YtlbnafnbjgageaaGreatDoorDot
import Derived.Test.YtlbnafnbjgageaaGreatDoorClone
import Derived.Deep.QuietTactic
import Derived.BigQuiet
namespace Go.Proofs.YtlbnafnbjgageaaGreatDoor
open Go.RowKit
def readyErr (v : List Int) (d : Dot) : Int := if vecErr v ≠ 0 then vecErr v else dotErr d
set_option maxRecDepth 100000 in
theorem dready_is {G : Nat → Prop} (ad : Option Addr) (cap : Nat) (L : List Int) (d : Dot) (w : World) (hl : L.length ≤ 1000000000000000) (h : Row w G 1 intCells ad L) :
    Calls Tryz.prog 142 #[.slice ad L.length cap, .agg #[.int .i64 d.who, .int .i64 d.n]] w fun e w' => e = .returned (errV (readyErr L d)) ∧ Below w.heap.size w w' := by
  have H := Lib.hid h
  have hH2 := h.below intCells_ne ((Below.refl w.heap.size w).alloc (Nat.le_refl _) (.cells #[.int .i64 d.who, .int .i64 d.n] 27))
  have H2 := Lib.hid hH2
  obtain ⟨r, hr⟩ : ∃ r, vecErr L = r := ⟨_, rfl⟩
  by_cases h0 : r = 0
  · subst h0
    obtain ⟨q, hq⟩ : ∃ q, dotErr d = q := ⟨_, rfl⟩
    have HF := Lib.hid (show errV (readyErr L d) = errV q by unfold readyErr; rw [hr, if_neg (by simp), hq])
    have HR := Lib.hid hr
    have HQ := Lib.hid hq
    clear h hr hq hH2
    go_enter Tryz.func142, Tryz.ntmps142
    go_wp2_with fail
    refine (vector_ok ad cap L _ HR.out hl H2.out).mono ?_
    rintro e w1 ⟨rfl, rfl⟩
    go_wp2_with fail
    refine (dot_check_to d _ q HQ.out).mono ?_
    rintro e w2 ⟨rfl, hb2⟩
    go_wp2_with fail
    go_ret
    exact ⟨ret_eq HF.out, past_alloc hb2 (by simp)⟩
  · have HF := Lib.hid (show errV (readyErr L d) = .iface 160 (.int .i64 r) by unfold readyErr; rw [hr, if_pos h0, errV_ne h0])
    have hv := vector_to ad cap L (w.alloc (.cells #[.int .i64 d.who, .int .i64 d.n] 27)) r hr hl hH2
    rw [errV_ne h0] at hv
    have HV := Lib.hid hv
    clear h hr hH2 hv
    go_enter Tryz.func142, Tryz.ntmps142
    go_wp2_with fail
    refine HV.out.mono ?_
    rintro e w1 ⟨rfl, rfl⟩
    go_wp2_with fail
    go_ret
    exact ⟨ret_eq HF.out, (Below.refl _ _).alloc (Nat.le_refl _) _⟩
theorem dready_to {G : Nat → Prop} (ad : Option Addr) (cap : Nat) (L : List Int) (d : Dot) (w : World) (r : Int) (hr : readyErr L d = r) (hl : L.length ≤ 1000000000000000) (h : Row w G 1 intCells ad L) :
    Calls Tryz.prog 142 #[.slice ad L.length cap, .agg #[.int .i64 d.who, .int .i64 d.n]] w fun e w' => e = .returned (errV r) ∧ Below w.heap.size w w' := by
  subst hr; exact dready_is ad cap L d w hl h
theorem dready_ok {G : Nat → Prop} (ad : Option Addr) (cap : Nat) (L : List Int) (d : Dot) (w : World) (hr : readyErr L d = 0) (hl : L.length ≤ 1000000000000000) (h : Row w G 1 intCells ad L) :
    Calls Tryz.prog 142 #[.slice ad L.length cap, .agg #[.int .i64 d.who, .int .i64 d.n]] w fun e w' => e = .returned .nilIface ∧ Below w.heap.size w w' := dready_to ad cap L d w 0 hr hl h
theorem readyErr_0 {L : List Int} {d : Dot} (h : readyErr L d = 0) : vecErr L = 0 ∧ dotErr d = 0 := by
  unfold readyErr at h
  split at h
  · contradiction
  · rename_i g; exact ⟨by simpa using g, h⟩
theorem dotErr_n {d : Dot} (h : dotErr d = 0) : 1 ≤ d.n ∧ d.n ≤ 9999 := by
  unfold dotErr at h
  split at h
  · cases h
  · omega
theorem dotErr_who {d : Dot} (h : dotErr d = 0) : ∃ i : Nat, i < 8 ∧ d.who = (i : Int) + 1 := by
  unfold dotErr at h
  split at h
  · cases h
  · exact ⟨(d.who - 1).toNat, by omega, by omega⟩
set_option maxRecDepth 100000 in
set_option maxHeartbeats 1000000 in
theorem has_bad {G : Nat → Prop} (ad : Option Addr) (cap : Nat) (L : List Int) (d : Dot) (w : World) (r : Int) (hr : readyErr L d = r) (h0 : r ≠ 0) (hl : L.length ≤ 1000000000000000) (h : Row w G 1 intCells ad L) :
    Calls Tryz.prog 60 #[.slice ad L.length cap, .agg #[.int .i64 d.who, .int .i64 d.n]] w fun e w' => e = .returned (.tuple #[.bool false, .iface 160 (.int .i64 r)]) ∧ Below w.heap.size w w' := by
  have hv := dready_to ad cap L d (w.alloc (.cells #[.int .i64 d.who, .int .i64 d.n] 27)) r hr hl (h.below intCells_ne ((Below.refl w.heap.size w).alloc (Nat.le_refl _) (.cells #[.int .i64 d.who, .int .i64 d.n] 27)))
  rw [errV_ne h0] at hv
  have HV := Lib.hid hv
  clear h hr hv
  go_enter Tryz.func60, Tryz.ntmps60
  go_wp2_with fail
  refine HV.out.mono ?_
  rintro e w1 ⟨rfl, hb1⟩
  go_wp2_with fail
  go_ret2
  exact ⟨rfl, past_alloc hb1 (by simp)⟩
set_option maxRecDepth 100000 in
set_option maxHeartbeats 1000000 in
theorem has_ok {G : Nat → Prop} (ad : Option Addr) (cap : Nat) (L : List Int) (d : Dot) (w : World) (r : Bool) (hr : readyErr L d = 0) (hres : decide (d.n ≤ L.getD (d.who - 1).toNat 0) = r) (h : Row w G 1 intCells ad L) :
    Calls Tryz.prog 60 #[.slice ad L.length cap, .agg #[.int .i64 d.who, .int .i64 d.n]] w fun e w' => e = .returned (.tuple #[.bool r, .nilIface]) ∧ Below w.heap.size w w' := by
  have h8 := vecErr_len (readyErr_0 hr).1
  obtain ⟨i, hi, hwho⟩ := dotErr_who (readyErr_0 hr).2
  have hal := (Below.refl w.heap.size w).alloc (Nat.le_refl _) (.cells #[.int .i64 d.who, .int .i64 d.n] 27)
  have hv := dready_ok ad cap L d (w.alloc (.cells #[.int .i64 d.who, .int .i64 d.n] 27)) hr (by omega) (h.below intCells_ne hal)
  obtain ⟨x, hx⟩ : ∃ x, L[i]? = some x := ⟨_, List.getElem?_eq_getElem (by omega)⟩
  obtain ⟨b, off, rfl, -, c0⟩ := int_at h hx
  obtain ⟨who, n⟩ := d
  simp only at hwho
  subst hwho
  have hxr : decide (n ≤ x) = r := by
    rw [← hres]
    simp [List.getD_eq_getElem?_getD, hx]
  have hlen : (L.length : Int) = 8 := by omega
  have HV := Lib.hid hv
  have hlt := lt_of_cell c0
  clear h hr hv hx hres
  rw [h8] at *
  go_enter Tryz.func60, Tryz.ntmps60
  go_wp2_with fail
  refine HV.out.mono ?_
  rintro e w1 ⟨rfl, hb1⟩
  have c1 : w1.cell? ⟨b, off + i, none⟩ = some (.int .i64 x) := ((past_alloc hb1 (by simp)).cell (p := ⟨b, off + i, none⟩) hlt).trans c0
  have d0 : w1.cell? ⟨w.heap.size, 0, none⟩ = some (.int .i64 ((i : Int) + 1)) := (hb1.cell (p := ⟨w.heap.size, 0, none⟩) (by simp)).trans (by simp)
  have d1 : w1.cell? ⟨w.heap.size, 1, none⟩ = some (.int .i64 n) := (hb1.cell (p := ⟨w.heap.size, 1, none⟩) (by simp)).trans (by simp)
  go_wp2_with fail
  go_quiet (fail)
  go_wp2_with fail
  go_ret2
  exact ⟨rfl, below_drewN (past_alloc hb1 (by simp)) nq⟩

def addErr (L : List Int) (d : Dot) : Int :=
  if readyErr L d ≠ 0 then readyErr L d
  else if d.n ≤ L.getD (d.who - 1).toNat 0 then 7
  else if L.getD (d.who - 1).toNat 0 < d.n - 1 then 6 else 0
set_option maxRecDepth 100000 in
set_option maxHeartbeats 1000000 in
theorem add_bad {G : Nat → Prop} (ad : Option Addr) (cap : Nat) (L : List Int) (d : Dot) (w : World) (r : Int) (hr : addErr L d = r) (h0 : r ≠ 0) (hl : L.length ≤ 1000000000000000) (h : Row w G 1 intCells ad L) :
    Calls Tryz.prog 61 #[.slice ad L.length cap, .agg #[.int .i64 d.who, .int .i64 d.n]] w fun e w' => e = .returned (.tuple #[.slice none 0 0, .iface 160 (.int .i64 r)]) ∧ Below w.heap.size w w' := by
  have hal := (Below.refl w.heap.size w).alloc (Nat.le_refl _) (.cells #[.int .i64 d.who, .int .i64 d.n] 27)
  by_cases hre : readyErr L d = 0
  · have h8 := vecErr_len (readyErr_0 hre).1
    obtain ⟨i, hi, hwho⟩ := dotErr_who (readyErr_0 hre).2
    have hv := dready_ok ad cap L d (w.alloc (.cells #[.int .i64 d.who, .int .i64 d.n] 27)) hre (by omega) (h.below intCells_ne hal)
    obtain ⟨x, hx⟩ : ∃ x, L[i]? = some x := ⟨_, List.getElem?_eq_getElem (by omega)⟩
    obtain ⟨b, off, rfl, -, c0⟩ := int_at h hx
    obtain ⟨hn1, hn2⟩ := dotErr_n (readyErr_0 hre).2
    obtain ⟨who, n⟩ := d
    simp only at hwho hn1 hn2
    subst hwho
    have hgx : L.getD ((i : Int) + 1 - 1).toNat 0 = x := by simp [List.getD_eq_getElem?_getD, hx]
    unfold addErr at hr
    rw [if_neg (by simp [hre])] at hr
    simp only [hgx] at hr
    have hlen : (L.length : Int) = 8 := by omega
    have HV := Lib.hid hv
    have hlt := lt_of_cell c0
    clear h hv hx hre hgx
    rw [h8] at *
    by_cases h1 : n ≤ x
    · rw [if_pos h1] at hr
      subst hr
      go_enter Tryz.func61, Tryz.ntmps61
      go_wp2_with fail
      refine HV.out.mono ?_
      rintro e w1 ⟨rfl, hb1⟩
      have c1 : w1.cell? ⟨b, off + i, none⟩ = some (.int .i64 x) := ((past_alloc hb1 (by simp)).cell (p := ⟨b, off + i, none⟩) hlt).trans c0
      have d0 : w1.cell? ⟨w.heap.size, 0, none⟩ = some (.int .i64 ((i : Int) + 1)) := (hb1.cell (p := ⟨w.heap.size, 0, none⟩) (by simp)).trans (by simp)
      have d1 : w1.cell? ⟨w.heap.size, 1, none⟩ = some (.int .i64 n) := (hb1.cell (p := ⟨w.heap.size, 1, none⟩) (by simp)).trans (by simp)
      go_wp2_with fail
      go_ret2
      exact ⟨rfl, past_alloc hb1 (by simp)⟩
    · rw [if_neg h1] at hr
      by_cases h2 : x < n - 1
      · rw [if_pos h2] at hr
        subst hr
        go_enter Tryz.func61, Tryz.ntmps61
        go_wp2_with fail
        refine HV.out.mono ?_
        rintro e w1 ⟨rfl, hb1⟩
        have c1 : w1.cell? ⟨b, off + i, none⟩ = some (.int .i64 x) := ((past_alloc hb1 (by simp)).cell (p := ⟨b, off + i, none⟩) hlt).trans c0
        have d0 : w1.cell? ⟨w.heap.size, 0, none⟩ = some (.int .i64 ((i : Int) + 1)) := (hb1.cell (p := ⟨w.heap.size, 0, none⟩) (by simp)).trans (by simp)
        have d1 : w1.cell? ⟨w.heap.size, 1, none⟩ = some (.int .i64 n) := (hb1.cell (p := ⟨w.heap.size, 1, none⟩) (by simp)).trans (by simp)
        go_wp2_with fail
        go_ret2
        exact ⟨rfl, past_alloc hb1 (by simp)⟩
      · rw [if_neg h2] at hr
        exact absurd hr.symm h0
  · have hr' : readyErr L d = r := by
      unfold addErr at hr
      rw [if_pos hre] at hr; exact hr
    have hv := dready_to ad cap L d (w.alloc (.cells #[.int .i64 d.who, .int .i64 d.n] 27)) r hr' hl (h.below intCells_ne hal)
    rw [errV_ne h0] at hv
    have HV := Lib.hid hv
    clear h hr hv hre hr' hal
    go_enter Tryz.func61, Tryz.ntmps61
    go_wp2_with fail
    refine HV.out.mono ?_
    rintro e w1 ⟨rfl, hb1⟩
    go_wp2_with fail
    go_ret2
    exact ⟨rfl, past_alloc hb1 (by simp)⟩
set_option maxRecDepth 100000 in
set_option maxHeartbeats 1000000 in
theorem add_ok {G : Nat → Prop} (ad : Option Addr) (cap : Nat) (L : List Int) (d : Dot) (w : World) (hr : addErr L d = 0) (hG : ∀ b, G b → b < w.heap.size) (h : Row w G 1 intCells ad L) :
    Calls Tryz.prog 61 #[.slice ad L.length cap, .agg #[.int .i64 d.who, .int .i64 d.n]] w fun e w' => ∃ v, e = .returned (.tuple #[v, .nilIface]) ∧ w'.ownsRow w.heap.size 3 1 v (L.set (d.who - 1).toNat d.n).length ((L.set (d.who - 1).toNat d.n).flatMap intCells) ∧ Below w.heap.size w w' ∧ w.heap.size ≤ w'.heap.size := by
  have hal := (Below.refl w.heap.size w).alloc (Nat.le_refl _) (.cells #[.int .i64 d.who, .int .i64 d.n] 27)
  have hre : readyErr L d = 0 := by
    unfold addErr at hr
    rcases Classical.em (readyErr L d = 0) with e | e
    · exact e
    · rw [if_pos e] at hr; exact absurd hr e
  have h8 := vecErr_len (readyErr_0 hre).1
  obtain ⟨i, hi, hwho⟩ := dotErr_who (readyErr_0 hre).2
  have hv := dready_ok ad cap L d (w.alloc (.cells #[.int .i64 d.who, .int .i64 d.n] 27)) hre (by omega) (h.below intCells_ne hal)
  obtain ⟨x, hx⟩ : ∃ x, L[i]? = some x := ⟨_, List.getElem?_eq_getElem (by omega)⟩
  obtain ⟨b, off, rfl, -, c0⟩ := int_at h hx
  obtain ⟨hn1, hn2⟩ := dotErr_n (readyErr_0 hre).2
  obtain ⟨who, n⟩ := d
  simp only at hwho hn1 hn2
  subst hwho
  have hgx : L.getD ((i : Int) + 1 - 1).toNat 0 = x := by simp [List.getD_eq_getElem?_getD, hx]
  unfold addErr at hr
  rw [if_neg (by simp [hre])] at hr
  simp only [hgx] at hr
  have hlen : (L.length : Int) = 8 := by omega
  rw [h8] at hv
  have HV := Lib.hid hv
  have HR := Lib.hid h
  have HX := Lib.hid hx
  have hlt := lt_of_cell c0
  have h1 : x < n := by
    rcases Classical.em (n ≤ x) with e | e
    · rw [if_pos e] at hr; cases hr
    · omega
  have h2 : n - 1 ≤ x := by
    rw [if_neg (by omega)] at hr
    rcases Classical.em (x < n - 1) with e | e
    · rw [if_pos e] at hr; cases hr
    · omega
  have hidx : ((i : Int) + 1 - 1).toNat = i := by omega
  have HI := Lib.hid hidx
  clear h hv hx hre hgx hr hidx
  have H8 := Lib.hid h8
  have HC : Hid (∀ W : World, Below w.heap.size w W → w.heap.size ≤ W.heap.size → Calls Tryz.prog 115 #[.slice (some ⟨b, off, none⟩) 8 cap] W fun e w' => ∃ g cap, e = .returned (.slice (some ⟨g, 0, none⟩) 8 cap) ∧ w'.ownsRow W.heap.size 3 1 (.slice (some ⟨g, 0, none⟩) 8 cap) 8 (L.flatMap intCells) ∧ Below W.heap.size W w' ∧ W.heap.size ≤ w'.heap.size ∧ W.heap.size ≤ g ∧ g < w'.heap.size) := fun W hW _ => by
    have := (clone_ints (some ⟨b, off, none⟩) cap L W (by omega) (HR.out.under intCells_ne hW hG)).mono fun _ _ h => h.at_ (by omega)
    unfold FreshAt at this
    rw [h8] at this; exact this
  rw [h8]
  clear h8 hlen
  go_enter Tryz.func61, Tryz.ntmps61
  go_wp2_with fail
  refine HV.out.mono ?_
  rintro e w1 ⟨rfl, hb1⟩
  have c1 : w1.cell? ⟨b, off + i, none⟩ = some (.int .i64 x) := ((past_alloc hb1 (by simp)).cell (p := ⟨b, off + i, none⟩) hlt).trans c0
  have d0 : w1.cell? ⟨w.heap.size, 0, none⟩ = some (.int .i64 ((i : Int) + 1)) := (hb1.cell (p := ⟨w.heap.size, 0, none⟩) (by simp)).trans (by simp)
  have d1 : w1.cell? ⟨w.heap.size, 1, none⟩ = some (.int .i64 n) := (hb1.cell (p := ⟨w.heap.size, 1, none⟩) (by simp)).trans (by simp)
  have hbw := past_alloc hb1 (by simp)
  have hs1 : w.heap.size < w1.heap.size := by have := hb1.size; simp at this; omega
  go_wp2_with fail
  refine (HC.out _ hbw (by omega)).mono ?_
  rintro e w2 ⟨g, cp, rfl, hown', hb2, hs2, hg, hgl⟩
  have k0 : w2.cell? ⟨g, i, none⟩ = some (.int .i64 x) := by
    rw [hown'.cellAt i (by omega), flat_ints]
    simp [HX.out]
  have k1 : w2.frozen? ⟨g, i, none⟩ = false := hown'.frozenAt i
  have e0 : w2.cell? ⟨w.heap.size, 0, none⟩ = some (.int .i64 ((i : Int) + 1)) := (hb2.cell (p := ⟨w.heap.size, 0, none⟩) (by simpa using hs1)).trans d0
  have e1 : w2.cell? ⟨w.heap.size, 1, none⟩ = some (.int .i64 n) := (hb2.cell (p := ⟨w.heap.size, 1, none⟩) (by simpa using hs1)).trans d1
  have HO := Lib.hid hown'
  have HB2 := Lib.hid hb2
  clear hown' hb2
  go_wp2_with fail
  go_ret2
  have hst := HO.out.stored i (.int .i64 n)
  refine ⟨.slice (some ⟨g, 0, none⟩) 8 cp, rfl, ?_, (hbw.trans (HB2.out.mono (by omega))).setCell (by simp; omega) _, by simp; omega⟩
  simp only [HI.out, List.length_set, H8.out]
  have hfl : (L.set i n).flatMap intCells = (L.flatMap intCells).set i (.int .i64 n) := by rw [flat_ints, flat_ints, List.map_set]
  rw [hfl]
  exact own_mono hst.1 (show w.heap.size ≤ w1.heap.size by omega)
end Go.Proofs.YtlbnafnbjgageaaGreatDoor
