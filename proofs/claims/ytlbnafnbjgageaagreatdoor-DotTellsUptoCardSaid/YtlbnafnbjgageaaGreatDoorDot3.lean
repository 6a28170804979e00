/- Package dot, by its contracts: the order of dots, and dots that rise. -/
import Derived.Test.YtlbnafnbjgageaaGreatDoorDot2
import Derived.StillTailTactics
import Derived.IntWalk
namespace Go.Proofs.YtlbnafnbjgageaaGreatDoor
open Go.RowKit
theorem isNaN_is (a : Int) (w : World) : Calls Tryz.prog 286 #[.int .i64 a] w fun e w' => e = .returned (.bool false) ∧ w = w' := by
  have h : (a != a) = false := by simp
  go_enter Tryz.func286, Tryz.ntmps286
  go_wp2
  go_ret
  exact ⟨rfl, rfl⟩
def cmpI (a b : Int) : Int := if a < b then -1 else if b < a then 1 else 0
theorem compare_is (a b : Int) (w : World) : Calls Tryz.prog 235 #[.int .i64 a, .int .i64 b] w fun e w' => e = .returned (.int .i64 (cmpI a b)) ∧ w = w' := by
  have enter : ∀ r : Int, cmpI a b = r → (a < b ∧ r = -1 ∨ ¬ a < b ∧ b < a ∧ r = 1 ∨ ¬ a < b ∧ ¬ b < a ∧ r = 0) := by
    intro r hr; unfold cmpI at hr
    split at hr
    · exact .inl ⟨by assumption, hr.symm⟩
    · split at hr
      · exact .inr (.inl ⟨by assumption, by assumption, hr.symm⟩)
      · exact .inr (.inr ⟨by assumption, by assumption, hr.symm⟩)
  obtain ⟨r, hr⟩ : ∃ r, cmpI a b = r := ⟨_, rfl⟩
  rw [hr]
  rcases enter r hr with ⟨h1, rfl⟩ | ⟨h1, h2, rfl⟩ | ⟨h1, h2, rfl⟩
  all_goals
    clear enter hr
    go_enter Tryz.func235, Tryz.ntmps235
    go_wp2_with (first | (go_at_call 286; refine (isNaN_is _ _).mono ?_; rintro e w' ⟨rfl, rfl⟩))
    go_ret
    exact ⟨rfl, rfl⟩
def orI (a b : Int) : Int := if a ≠ 0 then a else b
set_option maxRecDepth 100000 in
theorem or_is (a b : Int) (g : Nat) (w : World) (c0 : w.cell? ⟨g, 0, none⟩ = some (.int .i64 a)) (c1 : w.cell? ⟨g, 1, none⟩ = some (.int .i64 b)) : Calls Tryz.prog 234 #[.slice (some ⟨g, 0, none⟩) 2 2] w fun e w' => e = .returned (.int .i64 (orI a b)) ∧ w = w' := by
  by_cases h : a = 0
  · have hf : (a != 0) = false := by simp [h]
    by_cases k : b = 0
    · have kf : (b != 0) = false := by simp [k]
      have HF := Lib.hid (show Value.int .i64 (orI a b) = .int .i64 0 by simp [orI, h, k])
      clear h k
      go_enter Tryz.func234, Tryz.ntmps234
      go_wp2
      refine wp_loop_rounds 3 ?_
      rw [rounds_succ]
      go_wp2
      rw [rounds_succ]
      go_wp2
      rw [rounds_succ]
      go_wp2
      go_ret
      exact ⟨ret_eq HF.out, rfl⟩
    · have kf : (b != 0) = true := by simp [k]
      have HF := Lib.hid (show Value.int .i64 (orI a b) = .int .i64 b by simp [orI, h])
      clear h k
      go_enter Tryz.func234, Tryz.ntmps234
      go_wp2
      refine wp_loop_rounds 3 ?_
      rw [rounds_succ]
      go_wp2
      rw [rounds_succ]
      go_wp2
      go_ret
      exact ⟨ret_eq HF.out, rfl⟩
  · have hf : (a != 0) = true := by simp [h]
    have HF := Lib.hid (show Value.int .i64 (orI a b) = .int .i64 a by simp [orI, h])
    clear h
    go_enter Tryz.func234, Tryz.ntmps234
    go_wp2
    refine wp_loop_rounds 3 ?_
    rw [rounds_succ]
    go_wp2
    go_ret
    exact ⟨ret_eq HF.out, rfl⟩
def orderI (a b : Dot) : Int := orI (cmpI a.who b.who) (cmpI a.n b.n)
set_option maxRecDepth 100000 in
set_option maxHeartbeats 1000000 in
theorem order_is (a b : Dot) (w : World) : Calls Tryz.prog 163 #[.agg #[.int .i64 a.who, .int .i64 a.n], .agg #[.int .i64 b.who, .int .i64 b.n]] w fun e w' => e = .returned (.int .i64 (orderI a b)) ∧ Below w.heap.size w w' := by
  obtain ⟨a1, a2⟩ := a
  obtain ⟨b1, b2⟩ := b
  obtain ⟨r1, hr1⟩ : ∃ r, cmpI a1 b1 = r := ⟨_, rfl⟩
  obtain ⟨r2, hr2⟩ : ∃ r, cmpI a2 b2 = r := ⟨_, rfl⟩
  have HC1 : Hid (∀ W, Calls Tryz.prog 235 #[.int .i64 a1, .int .i64 b1] W fun e w' => e = .returned (.int .i64 r1) ∧ w' = W) := fun W => hr1 ▸ (compare_is a1 b1 W).mono fun _ _ h => ⟨h.1, h.2.symm⟩
  have HC2 : Hid (∀ W, Calls Tryz.prog 235 #[.int .i64 a2, .int .i64 b2] W fun e w' => e = .returned (.int .i64 r2) ∧ w' = W) := fun W => hr2 ▸ (compare_is a2 b2 W).mono fun _ _ h => ⟨h.1, h.2.symm⟩
  have HF := Lib.hid (show Value.int .i64 (orderI ⟨a1, a2⟩ ⟨b1, b2⟩) = .int .i64 (orI r1 r2) by simp [orderI, hr1, hr2])
  clear hr1 hr2
  go_enter Tryz.func163, Tryz.ntmps163
  go_wp2_with fail
  have c0 : ((w.alloc (.cells #[.int .i64 a1, .int .i64 a2] 27)).alloc (.cells #[.int .i64 b1, .int .i64 b2] 27)).cell? ⟨w.heap.size, 0, none⟩ = some (.int .i64 a1) := by simp
  have c1 : ((w.alloc (.cells #[.int .i64 a1, .int .i64 a2] 27)).alloc (.cells #[.int .i64 b1, .int .i64 b2] 27)).cell? ⟨w.heap.size, 1, none⟩ = some (.int .i64 a2) := by simp
  have c2 : ((w.alloc (.cells #[.int .i64 a1, .int .i64 a2] 27)).alloc (.cells #[.int .i64 b1, .int .i64 b2] 27)).cell? ⟨w.heap.size + 1, 0, none⟩ = some (.int .i64 b1) := by simp
  have c3 : ((w.alloc (.cells #[.int .i64 a1, .int .i64 a2] 27)).alloc (.cells #[.int .i64 b1, .int .i64 b2] 27)).cell? ⟨w.heap.size + 1, 1, none⟩ = some (.int .i64 b2) := by simp
  have hb : Below w.heap.size w ((w.alloc (.cells #[.int .i64 a1, .int .i64 a2] 27)).alloc (.cells #[.int .i64 b1, .int .i64 b2] 27)) := ((Below.refl _ _).alloc (Nat.le_refl _) _).alloc (by simp) _
  have hs : w.heap.size + 2 = ((w.alloc (.cells #[.int .i64 a1, .int .i64 a2] 27)).alloc (.cells #[.int .i64 b1, .int .i64 b2] 27)).heap.size := by simp
  generalize (w.alloc (.cells #[.int .i64 a1, .int .i64 a2] 27)).alloc (.cells #[.int .i64 b1, .int .i64 b2] 27) = W at *
  have HS := Lib.hid hs
  clear hs
  refine wp_region_still_tail 10 (by kernel_rfl) (by kernel_rfl) ?_
  change wpStill _ _ W.drew _ _ _
  simp only [List.take_succ_cons, List.take_zero, List.drop_succ_cons, List.drop_zero]
  still_step
  still_step
  still_step
  still_step
  still_call (HC1.out _)
  still_step
  still_step
  still_step
  still_step
  still_call (HC2.out _)
  refine wpStill_nil ?_
  change wpList _ _ _ _ _ W.drew
  have k0 : (W.alloc (.cells #[.int .i64 r1, .int .i64 r2] 3)).cell? ⟨W.heap.size, 0, none⟩ = some (.int .i64 r1) := by rw [blk_cell (blk_new W _)]; rfl
  have k1 : (W.alloc (.cells #[.int .i64 r1, .int .i64 r2] 3)).cell? ⟨W.heap.size, 1, none⟩ = some (.int .i64 r2) := by rw [blk_cell (blk_new W _)]; rfl
  go_wp2_with fail
  refine (or_is r1 r2 _ _ (by exact k0) (by exact k1)).mono ?_
  rintro e w2 ⟨rfl, rfl⟩
  go_wp2_with fail
  go_ret
  exact ⟨ret_eq HF.out, (hb.alloc (by have := HS.out; omega) _).drew⟩
theorem orderI_neg (a b : Dot) : orderI a b < 0 ↔ dotLess a b = true := by
  rw [dotLess_iff]
  unfold orderI orI cmpI
  by_cases h1 : a.who < b.who
  · simp [h1]
  · by_cases h2 : b.who < a.who
    · simp [h1, h2]; omega
    · have e : a.who = b.who := by omega
      simp [e]
      by_cases h3 : a.n < b.n
      · simp [h3]
      · by_cases h4 : b.n < a.n <;> simp [h3, h4]
theorem firstErr_at {α : Type} {f : α → Int} : ∀ {L : List α} {k : Nat} {x : α}, L[k]? = some x → (∀ j y, j < k → L[j]? = some y → f y = 0) → f x ≠ 0 → firstErr f L = f x
  | [], _, _, h, _, _ => by simp at h
  | y :: L, 0, x, h, _, hx => by simp at h; subst h; rw [firstErr, if_neg hx]
  | y :: L, k + 1, x, h, hj, hx => by
    rw [firstErr, if_pos (hj 0 y (by omega) rfl)]
    exact firstErr_at (by simpa using h) (fun j z hjk hz => hj (j + 1) z (by omega) (by simpa using hz)) hx
theorem firstErr_all {α : Type} {f : α → Int} : ∀ {L : List α}, (∀ (j : Nat) y, L[j]? = some y → f y = 0) → firstErr f L = 0
  | [], _ => rfl
  | y :: L, h => by rw [firstErr, if_pos (h 0 y rfl)]; exact firstErr_all fun j z hz => h (j + 1) z (by simpa using hz)
theorem steps_all {α : Type} {r : α → α → Bool} : ∀ {L : List α}, (∀ (j : Nat) x y, L[j]? = some x → L[j + 1]? = some y → r x y = true) → steps r L = true
  | [], _ => rfl
  | [_], _ => rfl
  | x :: y :: l, h => by
    rw [steps, h 0 x y rfl rfl, steps_all fun j a b ha hb => h (j + 1) a b (by simpa using ha) (by simpa using hb)]; rfl
theorem steps_not {α : Type} {r : α → α → Bool} : ∀ {L : List α} {j : Nat} {x y : α}, L[j]? = some x → L[j + 1]? = some y → r x y = false → steps r L = false
  | [], j, _, _, h, _, _ => by simp at h
  | [_], 0, _, _, _, h, _ => by simp at h
  | [_], j + 1, _, _, h, _, _ => by simp at h
  | a :: b :: l, 0, x, y, h1, h2, h => by simp at h1 h2; subst h1; subst h2; rw [steps, h]; rfl
  | a :: b :: l, j + 1, x, y, h1, h2, h => by
    rw [steps, steps_not (L := b :: l) (j := j) (by simpa using h1) (by simpa using h2) h]; simp
def riseV (L : List Dot) : Value := errV (riseErr L)
set_option maxRecDepth 100000 in
set_option maxHeartbeats 2000000 in
theorem rise_is {G : Nat → Prop} (ad : Option Addr) (cap : Nat) (L : List Dot) (w : World) (hl : L.length ≤ 1000000000000000) (hG : ∀ b, G b → b < w.heap.size) (h : Row w G 2 dotCells ad L) :
    Calls Tryz.prog 200 #[.slice ad L.length cap] w fun e w' => e = .returned (riseV L) ∧ Below w.heap.size w w' := by
  have H := Lib.hid h
  clear h
  go_enter Tryz.func200, Tryz.ntmps200
  go_wp2
  go_loopw [9] (fun i wr => ∃ k : Nat, k ≤ L.length ∧ i = .int .i64 k ∧ Hid (∀ j x, j < k → L[j]? = some x → dotErr x = 0) ∧ Below w.heap.size w wr ∧ w.heap.size ≤ wr.heap.size) (fun i _ => L.length - (intOf i).toNat)
  case atStart => exact ⟨0, Nat.zero_le _, rfl, fun j x hj => absurd hj (by omega), Below.refl _ _, Nat.le_refl _⟩
  case round =>
    obtain ⟨k, hk, rfl, HP, hb, hsz⟩ := hrel
    by_cases hlt : k < L.length
    · obtain ⟨x, hx⟩ : ∃ x, L[k]? = some x := ⟨_, List.getElem?_eq_getElem hlt⟩
      obtain ⟨b, off, rfl, -, c0, c1⟩ := dot_at (H.out.under dotCells_ne hb hG) hx
      by_cases hv : dotErr x = 0
      · have HX := Lib.hid hx
        have HV := Lib.hid hv
        clear hx hv
        go_wp2_with fail
        refine (dot_check_ok x _ HV.out).mono ?_
        rintro e w1 ⟨rfl, hb1⟩
        go_wp2_with fail
        go_roundw
        case rel =>
          have h1 := past_alloc hb1 (by simp)
          refine ⟨k + 1, by omega, by go_num, fun j y hj hy => ?_, bnext hb h1 hsz, below_size h1 hsz⟩
          by_cases e : j = k
          · subst e; rw [HX.out] at hy; cases hy; exact HV.out
          · exact HP.out j y (by omega) hy
        case measure => simp [intOf]; omega
      · have hfe := firstErr_at hx HP.out hv
        have HF := Lib.hid (show riseV L = .iface 160 (.int .i64 1) by unfold riseV riseErr; rw [hfe, if_pos hv, (dotErr_01 x).resolve_left hv]; rfl)
        have HV := Lib.hid hv
        clear hx hv hfe
        go_wp2_with fail
        refine (dot_check_bad x _ HV.out).mono ?_
        rintro e w1 ⟨rfl, hb1⟩
        go_wp2_with fail
        go_ret
        exact ⟨ret_eq HF.out, bnext hb (past_alloc hb1 (by simp)) hsz⟩
    · have hfe : firstErr dotErr L = 0 := firstErr_all fun j y hy => HP.out j y (by have := (List.getElem?_eq_some_iff.1 hy).1; omega) hy
      have HE := Lib.hid hfe
      clear hfe
      obtain ⟨wo, rfl⟩ : ∃ wo : World, wo = wr := ⟨_, rfl⟩
      go_wp2
      go_loopw [6] (fun i wr => ∃ k : Nat, 1 ≤ k ∧ (k ≤ L.length ∨ k = 1) ∧ i = .int .i64 k ∧ Hid (∀ j x y, j + 1 < k → L[j]? = some x → L[j + 1]? = some y → dotLess x y = true) ∧ Below w.heap.size w wr ∧ w.heap.size ≤ wr.heap.size) (fun i _ => L.length - (intOf i).toNat)
      case atStart => exact ⟨1, Nat.le_refl _, .inr rfl, rfl, fun j x y hj => absurd hj (by omega), hb, hsz⟩
      case round =>
        obtain ⟨q, hq1, hq2, rfl, HQ, hb', hsz'⟩ := hrel
        by_cases hlt2 : q < L.length
        · obtain ⟨p, rfl⟩ : ∃ p, q = p + 1 := ⟨q - 1, by omega⟩
          obtain ⟨x, hx⟩ : ∃ x, L[p]? = some x := ⟨_, List.getElem?_eq_getElem (by omega)⟩
          obtain ⟨y, hy⟩ : ∃ y, L[p + 1]? = some y := ⟨_, List.getElem?_eq_getElem (by omega)⟩
          obtain ⟨b, off, rfl, -, c0, c1⟩ := dot_at (H.out.under dotCells_ne hb' hG) hx
          obtain ⟨b', off', e, -, d0, d1⟩ := dot_at (H.out.under dotCells_ne hb' hG) hy
          cases e
          obtain ⟨r, hr⟩ : ∃ r, orderI x y = r := ⟨_, rfl⟩
          have HO : Hid (∀ W, Calls Tryz.prog 163 #[.agg #[.int .i64 x.who, .int .i64 x.n], .agg #[.int .i64 y.who, .int .i64 y.n]] W fun e w' => e = .returned (.int .i64 r) ∧ Below W.heap.size W w') := fun W => hr ▸ order_is x y W
          have hrd : r < 0 ↔ dotLess x y = true := hr ▸ orderI_neg x y
          have HX := Lib.hid hx
          have HY := Lib.hid hy
          have HR := Lib.hid hrd
          clear hx hy hr hrd
          go_wp2_with fail
          refine wp_region_still_tail 9 (by kernel_rfl) (by kernel_rfl) ?_
          change wpStill _ _ wr.drew _ _ _
          simp only [List.take_succ_cons, List.take_zero, List.drop_succ_cons, List.drop_zero]
          have hw1 : IntKind.i64.wrap (p : Int) = p := IntWalk.i64_in _ (by omega)
          have hw2 : (0 : Int) ≤ p + 1 := by omega
          have hw3 : ((p : Int) + 1).toNat = p + 1 := by omega
          have hw4 : (p : Int) < L.length := by omega
          have hw5 : (p : Int) + 1 < L.length := by omega
          repeat still_step
          refine wpStill_nil ?_
          clear hw1 hw2 hw3 hw4 hw5
          change wpList _ _ _ _ _ wr.drew
          have hbd : Below w.heap.size w wr.drew := hb'.drew
          have hsd : w.heap.size ≤ wr.drew.heap.size := hsz'
          generalize wr.drew = wd at *
          by_cases hneg : r < 0
          · go_wp2_with fail
            refine (HO.out _).mono ?_
            rintro e w2 ⟨rfl, hb2⟩
            go_wp2_with fail
            go_roundw
            case rel =>
              refine ⟨p + 1 + 1, by omega, by omega, by go_num, fun j x' y' hj hx' hy' => ?_, bnext hbd hb2 hsd, below_size hb2 hsd⟩
              by_cases e : j = p
              · subst e; rw [HX.out] at hx'; rw [HY.out] at hy'; cases hx'; cases hy'; exact HR.out.1 hneg
              · exact HQ.out j x' y' (by omega) hx' hy'
            case measure => simp [intOf]; omega
          · have hst : steps dotLess L = false := steps_not HX.out HY.out (by
              cases e : dotLess x y
              · rfl
              · exact absurd (HR.out.2 e) hneg)
            have HF := Lib.hid (show riseV L = .iface 160 (.int .i64 7) by unfold riseV riseErr; rw [HE.out, if_neg (by simp), hst]; rfl)
            clear hst
            go_wp2_with fail
            refine (HO.out _).mono ?_
            rintro e w2 ⟨rfl, hb2⟩
            go_wp2_with fail
            go_ret
            exact ⟨ret_eq HF.out, bnext hbd hb2 hsd⟩
        · have hst : steps dotLess L = true := steps_all fun j x y hx hy => HQ.out j x y (by have := (List.getElem?_eq_some_iff.1 hy).1; omega) hx hy
          have HF := Lib.hid (show riseV L = .nilIface by unfold riseV riseErr; rw [HE.out, if_neg (by simp), hst]; rfl)
          clear hst
          go_wp2
          go_ret
          exact ⟨ret_eq HF.out, hb'⟩
end Go.Proofs.YtlbnafnbjgageaaGreatDoor
