/- leaflaw1.DotTells returns true: the walk. -/
import Derived.Test.YtlbnafnbjgageaaGreatDoorDotAny
import Derived.Deep.CutRange
import Derived.Deep.CutBlock
import Derived.Deep.LoopGhost
import Derived.WalkKit
namespace Go.Proofs.YtlbnafnbjgageaaGreatDoor
open Go.RowKit
theorem bdrew {B : Nat} {a w : World} (h : Below B a w) (n : Nat) : Below B a (w.drewN n) := h.trans ⟨rfl, rfl, rfl, Nat.le_refl _, fun _ _ => rfl⟩
theorem join_snoc (c : UInt8) (y : Str) : ∀ L : List Str, L ≠ [] → Lib.join (L ++ [y]) [c] = Lib.join L [c] ++ c :: y
  | [], h => absurd rfl h
  | [x], _ => by rw [List.singleton_append, join_two, Lib.join_one, Lib.join_one]
  | x :: z :: L, _ => by
    have ih := join_snoc c y (z :: L) (by simp)
    rw [List.cons_append, List.cons_append, join_two, join_two, ← List.cons_append, ih]; simp
theorem vmax_snoc {A B : List Int} {k : Nat} {x y : Int} (hx : A[k]? = some x) (hy : B[k]? = some y) : (vmax A B).take (k + 1) = (vmax A B).take k ++ [max x y] := by
  rw [List.take_add_one]
  unfold vmax
  rw [List.getElem?_zipWith, hx, hy]; rfl
theorem text_step {A : List Int} {k u : Nat} (hx : A[k]? = some (u : Int)) : Lib.join ((A.take (k + 1)).map Lib.itoa) [46] = (if k = 0 then Lib.decDigits u else (Lib.join ((A.take k).map Lib.itoa) [46] ++ [46]) ++ Lib.decDigits u) := by
  have e : Lib.itoa (u : Int) = Lib.decDigits u := by unfold Lib.itoa; rw [if_neg (by omega)]; simp
  rw [List.take_add_one, hx, List.map_append]
  simp only [Option.toList_some, List.map_cons, List.map_nil, e]
  split
  · rename_i h0; subst h0; simp [Lib.join_one]
  · rename_i h0
    have hne : (A.take k).map Lib.itoa ≠ [] := by
      intro hc
      have := congrArg List.length hc
      have hl := (List.getElem?_eq_some_iff.1 hx).1
      rw [List.length_map, List.length_take] at this; simp only [List.length_nil] at this; omega
    rw [join_snoc 46 _ _ hne]; simp
theorem err_any (e : Int) (w : World) (hE : ErrWorld w) : Calls Tryz.prog 30 #[errV e, .int .i64 e] w fun en w' => en = .returned (.bool true) ∧ Below w.heap.size w w' := same_err e e true (by simp) w hE
set_option maxRecDepth 100000 in
set_option maxHeartbeats 8000000 in
theorem dotTells_walk (ada adb : Option Addr) (ca cb : Nat) (A B : List Int) (who n : Int) (s : Str) (w0 : World) (hs : s.length ≤ 1048576) (hT0 : TextWorld w0) (hE0 : ErrWorld w0)
    (ha0 : At w0 ada A) (hb0 : At w0 adb B) (hA : A.length ≤ 10000000) (hB : B.length ≤ 10000000) :
    Calls Tryz.prog 7 #[.slice ada A.length ca, .slice adb B.length cb, .agg #[.int .i64 who, .int .i64 n], .string ⟨s.toArray⟩] w0 fun e w' => e = .returned (.bool true) ∧ Below w0.heap.size w0 w' := by
  obtain ⟨w, hw⟩ : ∃ w, w0.alloc (.cells #[.int .i64 who, .int .i64 n] 27) = w := ⟨_, rfl⟩
  have hb00 : Below w0.heap.size w0 w := by rw [← hw]; exact (Below.refl _ _).alloc (Nat.le_refl _) _
  have hE := hE0.below hb00
  have hT := hT0.below hb00
  have ha := ha0.next hb00
  have hb := hb0.next hb00
  have HT : Hid (∀ W, Below w.heap.size w W → TextWorld W) := fun W hW => hT.below hW
  have HE : Hid (∀ e W, Below w.heap.size w W → Calls Tryz.prog 30 #[errV e, .int .i64 e] W fun en w' => en = .returned (.bool true) ∧ Below W.heap.size W w') := fun e W hW => err_any e W (hE.below hW)
  have HA : Hid (∀ W, Below w.heap.size w W → At W ada A) := fun W hW => ha.next hW
  have HB : Hid (∀ W, Below w.heap.size w W → At W adb B) := fun W hW => hb.next hW
  have h0 : w.cell? ⟨w0.heap.size, 0, none⟩ = some (.int .i64 who) := by rw [← hw]; simp
  have h1 : w.cell? ⟨w0.heap.size, 1, none⟩ = some (.int .i64 n) := by rw [← hw]; simp
  have HD : Hid (∀ W, Below w.heap.size w W → W.cell? ⟨w0.heap.size, 0, none⟩ = some (.int .i64 who) ∧ W.cell? ⟨w0.heap.size, 1, none⟩ = some (.int .i64 n)) := fun W hW => ⟨(hW.cell (p := ⟨w0.heap.size, 0, none⟩) (lt_of_cell h0)).trans h0, (hW.cell (p := ⟨w0.heap.size, 1, none⟩) (lt_of_cell h1)).trans h1⟩
  have HRD := Lib.hid (rdot_is ⟨who, n⟩)
  have HCD := Lib.hid (dot_check ⟨who, n⟩)
  have HRV := Lib.hid (fun W (hW : Below w.heap.size w W) => rvec_is ada ca A W (by omega) (ha.next hW))
  have HVV := Lib.hid (fun W (hW : Below w.heap.size w W) => vector_is ada ca A W (by omega) (ha.next hW))
  have HW0 := Lib.hid hb00
  have HR0 : Hid (Below w.heap.size w w) := Lib.hid (Below.refl _ _)
  obtain ⟨ev, hev⟩ : ∃ x, dotErr ⟨who, n⟩ = x := ⟨_, rfl⟩
  obtain ⟨fv, hfv⟩ : ∃ x, vecErr A = x := ⟨_, rfl⟩
  rw [hev] at HRD HCD
  rw [hfv] at HRV HVV
  have HEV := Lib.hid hev
  have HFV := Lib.hid hfv
  obtain ⟨gv, hgv⟩ : ∃ x, readyErr A ⟨who, n⟩ = x := ⟨_, rfl⟩
  have HG1 : Hid (fv = 0 → gv = ev) := fun e => by rw [← hgv, ← hev]; unfold readyErr; rw [hfv, e, if_neg (by simp)]
  have HG2 : Hid (fv ≠ 0 → gv = fv) := fun e => by rw [← hgv, ← hfv]; unfold readyErr; rw [hfv, if_pos e]
  obtain ⟨hv, hhv⟩ : ∃ x, hasV A ⟨who, n⟩ = x := ⟨_, rfl⟩
  have HHas := Lib.hid (fun W (hW : Below w.heap.size w W) => has_any ada ca A ⟨who, n⟩ W (by omega) (ha.next hW))
  rw [hgv, hhv] at HHas
  have HGV := Lib.hid hgv
  obtain ⟨av, hav⟩ : ∃ x, addErr A ⟨who, n⟩ = x := ⟨_, rfl⟩
  obtain ⟨Wl, hwl⟩ : ∃ x, addV A ⟨who, n⟩ = x := ⟨_, rfl⟩
  have HAdd := Lib.hid (fun W (hW : Below w.heap.size w W) => add_any ada ca A ⟨who, n⟩ W (by omega) (ha.next hW))
  rw [hav, hwl] at HAdd
  have HAV := Lib.hid hav
  have HWL := Lib.hid hwl
  have HPr := Lib.hid (fun W (hW : Below w.heap.size w W) => print_any ada ca A W (by omega) (hT.below hW) (ha.next hW))
  rw [hfv] at HPr
  obtain ⟨bv, hbv⟩ : ∃ x, bothErr A B = x := ⟨_, rfl⟩
  have HBV := Lib.hid hbv
  have HRe := Lib.hid (fun W (_ : Below w.heap.size w W) => read_any s W (by omega))
  have HPa := Lib.hid (fun W (hW : Below w.heap.size w W) => parse_any s W (hT.below hW) (by omega))
  have HLP : Hid ((parseV s).length ≤ 8) := by
    refine Lib.hid ?_
    unfold parseV
    split
    · rename_i h; rw [vecErr_len (print_parse h).1]; omega
    · simp
  have HCm := Lib.hid (fun W (hW : Below w.heap.size w W) => cmp_any ada adb ca cb A B W (by omega) (by omega) (ha.next hW) (hb.next hW))
  rw [hbv] at HCm
  have HMe := Lib.hid (fun W (hW : Below w.heap.size w W) => merge_any ada adb ca cb A B W (by omega) (by omega) (ha.next hW) (hb.next hW))
  unfold MergeAny at HMe
  rw [hbv] at HMe
  have HRB := Lib.hid (fun W (hW : Below w.heap.size w W) => rvec_is adb cb B W (by omega) (hb.next hW))
  have HLW : Hid (Wl.length ≤ 10000000) := by
    refine Lib.hid ?_
    rw [← hwl]; unfold addV
    split
    · rw [List.length_set]; exact hA
    · simp
  have HHV := Lib.hid hhv
  clear hT0 hE0 ha0 hb0 hb00 hE hT ha hb hev hfv hgv hhv hav hwl hbv
  go_enter Tryz.func7, Tryz.ntmps7
  go_wp2_with fail
  clear hw h0 h1
  refine (HRD.out _).mono ?_
  rintro e w1 ⟨rfl, hbn⟩
  have HW1 := Lib.hid (bnext HR0.out hbn (Nat.le_refl _))
  clear hbn
  obtain ⟨d0, d1⟩ := HD.out w1 HW1.out
  go_wp2_with fail
  refine (HCD.out _).mono ?_
  rintro e w2 ⟨rfl, hbn⟩
  have HW2 := Lib.hid (bnext HW1.out hbn HW1.out.size)
  clear hbn d0 d1
  go_wp2_with fail
  refine (HE.out ev w2 HW2.out).mono ?_
  rintro e w3 ⟨rfl, hbn⟩
  have HW3 := Lib.hid (bnext HW2.out hbn HW2.out.size)
  clear hbn
  go_wp2_with fail
  refine (HRV.out w3 HW3.out).mono ?_
  rintro e w4 ⟨rfl, rfl⟩
  go_wp2_with fail
  refine (HVV.out _ HW3.out).mono ?_
  rintro e w5 ⟨rfl, rfl⟩
  go_wp2_with fail
  refine (HE.out fv w3 HW3.out).mono ?_
  rintro e w4 ⟨rfl, hbn⟩
  have HW4 := Lib.hid (bnext HW3.out hbn HW3.out.size)
  clear hbn
  go_upto_if 53 with fail
  go_cut [13] from 53 to 54 (fun g wx => g = .int .i64 gv ∧ wx = w4)
  case first =>
    by_cases hf : fv = 0
    · have he := HG1.out hf
      subst hf
      subst he
      go_wp2_with fail
      go_meet
      exact ⟨rfl, rfl⟩
    · have he := HG2.out hf
      subst he
      go_wp2_with fail
      go_meet
      exact ⟨rfl, rfl⟩
  case rest =>
    obtain ⟨rfl, rfl⟩ := hcut
    go_upto_region 8 with fail
    go_cut [14] from 55 to 67 (fun h wx => h = .bool hv ∧ Hid (Below w.heap.size w wx))
    case first =>
      by_cases hg : gv = 0
      · subst hg
        have h8 := vecErr_len (readyErr_0 HGV.out).1
        obtain ⟨i, hi, hwho⟩ := dotErr_who (readyErr_0 HGV.out).2
        simp only at hwho
        subst hwho
        obtain ⟨x, hx⟩ : ∃ x, A[i]? = some x := ⟨_, List.getElem?_eq_getElem (by omega)⟩
        obtain ⟨b, off, rfl, -, c0⟩ := int_at (HA.out _ HW4.out) hx
        obtain ⟨d0, d1⟩ := HD.out _ HW4.out
        have hxr : decide (n ≤ x) = hv := by
          have := HHV.out
          unfold hasV at this
          rw [HGV.out, if_pos rfl] at this
          rw [← this]
          simp [List.getD_eq_getElem?_getD, hx]
        have hlen : (A.length : Int) = 8 := by omega
        clear hx
        go_wp2_with fail
        go_quiet (fail)
        go_wp2_with fail
        go_meet
        exact ⟨by rw [← hxr], Lib.hid (bdrew HW4.out _)⟩
      · have hvf : hv = false := by rw [← HHV.out]; unfold hasV; rw [HGV.out, if_neg hg]
        subst hvf
        have hgb : (gv == 0) = false := by simp [hg]
        go_wp2_with fail
        go_quiet (fail)
        go_wp2_with fail
        go_meet
        exact ⟨rfl, Lib.hid (bdrew HW4.out _)⟩
    case rest =>
      obtain ⟨rfl, HW5⟩ := hcut
      rename_i wy _
      obtain ⟨d0, d1⟩ := HD.out _ HW5.out
      go_wp2_with fail
      refine (HHas.out _ HW5.out).mono ?_
      rintro e w6 ⟨rfl, hbn⟩
      have HW6 := Lib.hid (bnext HW5.out hbn HW5.out.size)
      clear hbn d0 d1
      go_wp2_with fail
      refine (HE.out gv w6 HW6.out).mono ?_
      rintro e w7 ⟨rfl, hbn⟩
      have HW7 := Lib.hid (bnext HW6.out hbn HW6.out.size)
      clear hbn
      go_upto_region 12 with fail
      go_cut [81] from 77 to 80 (fun c wx => c = .bool (decide (gv = 0) && hv) ∧ wx = w7)
      case first =>
        by_cases hg : gv = 0
        · subst hg
          go_wp2_with fail
          go_meet
          exact ⟨by simp, rfl⟩
        · have hgb : (gv == 0) = false := by simp [hg]
          have hgd : decide (gv = 0) = false := by simp [hg]
          go_wp2_with fail
          go_meet
          exact ⟨by simp [hg], rfl⟩
      case rest =>
        obtain ⟨rfl, rfl⟩ := hcut
        obtain ⟨cb, hcb⟩ : ∃ cb, (decide (gv = 0) && hv) = cb := ⟨_, rfl⟩
        rw [hcb]
        have HCb := Lib.hid hcb.symm
        clear hcb
        go_upto_if 81 with fail
        go_cut [13, 18] from 82 to 107 (fun g l wx => ∃ ad cp, g = .int .i64 av ∧ l = .slice ad Wl.length cp ∧ Hid (At wx ad Wl) ∧ Hid (Below w.heap.size w wx))
        case first =>
          by_cases hg : gv = 0
          · subst hg
            have h8 := vecErr_len (readyErr_0 HGV.out).1
            obtain ⟨i, hi, hwho⟩ := dotErr_who (readyErr_0 HGV.out).2
            obtain ⟨hn1, hn2⟩ := dotErr_n (readyErr_0 HGV.out).2
            simp only at hwho hn1 hn2
            subst hwho
            obtain ⟨x, hx⟩ : ∃ x, A[i]? = some x := ⟨_, List.getElem?_eq_getElem (by omega)⟩
            obtain ⟨b, off, rfl, -, c0⟩ := int_at (HA.out _ HW7.out) hx
            obtain ⟨d0, d1⟩ := HD.out _ HW7.out
            have hgx : A.getD ((i : Int) + 1 - 1).toNat 0 = x := by simp [List.getD_eq_getElem?_getD, hx]
            have hxr : decide (n ≤ x) = hv := by
              have := HHV.out
              unfold hasV at this
              rw [HGV.out, if_pos rfl] at this
              rw [← this, hgx]
            have hae : av = if n ≤ x then 7 else if x < n - 1 then 6 else 0 := by
              rw [← HAV.out]; unfold addErr
              rw [if_neg (by simp [HGV.out]), hgx]
            have hwe : Wl = if av = 0 then A.set i n else [] := by
              rw [← HWL.out]; unfold addV
              rw [HAV.out, show ((i : Int) + 1 - 1).toNat = i by omega]
            have HX := Lib.hid hx
            have hil : i < A.length := by omega
            have H8 := Lib.hid h8
            clear hx hgx h8
            by_cases h1 : n ≤ x
            · have h7 : av = 7 := by rw [hae, if_pos h1]
              have hW : Wl = [] := by rw [hwe, h7]; rfl
              have hvt : hv = true := by rw [← hxr]; simp [h1]
              subst hvt
              subst hW
              rw [h7] at *
              have hcb : cb = true := by rw [HCb.out]; rfl
              subst hcb
              clear hxr hae hwe
              go_wp2_with fail
              go_meet
              exact ⟨none, 0, rfl, rfl, Lib.hid (Row.nil _ _ _ _ _), HW7⟩
            · have hvt : hv = false := by rw [← hxr]; simp [h1]
              subst hvt
              have hcb : cb = false := by rw [HCb.out]; rfl
              subst hcb
              by_cases h2 : x < n - 1
              · have h7 : av = 6 := by rw [hae, if_neg h1, if_pos h2]
                have hW : Wl = [] := by rw [hwe, h7]; rfl
                subst h7
                subst hW
                clear hxr hae hwe
                go_wp2_with fail
                go_quiet (fail)
                go_wp2_with fail
                go_meet
                exact ⟨none, 0, rfl, rfl, Lib.hid (Row.nil _ _ _ _ _), Lib.hid (bdrew HW7.out _)⟩
              · have h7 : av = 0 := by rw [hae, if_neg h1, if_neg h2]
                have hW : Wl = A.set i n := by rw [hwe, h7]; rfl
                subst h7
                clear hxr hae hwe
                go_wp2_with fail
                go_quiet (fail)
                have HWq := Lib.hid (bdrew HW7.out nq)
                have HTi := Lib.hid Tryz.stInts
                have hrq := HA.out _ HWq.out
                have HRq := Lib.hid hrq
                obtain ⟨wq, hwq⟩ : ∃ wq, wc.drewN nq = wq := ⟨_, rfl⟩
                rw [hwq] at HWq HRq ⊢
                clear hrq hwq d0 d1 c0
                go_wp2_with (at_builtin; refine wpList_append_row rfl (.tmp 98) (.tmp 99) _ rfl HTi.out intCells_len intCells_one _ 0 _ [] _ A rfl rfl (World.ownsRow_nil _ _ _ _) HRq.out (by omega) (by decide) (Below.refl wq.heap.size wq) (Nat.le_refl _) ?_; intro v' w8 hown8 hb8 hsz8; rw [Nat.zero_add, List.nil_append] at hown8; obtain ⟨gq, cq, rfl, hg1, hg2⟩ := own_form hown8 (by omega); have k0 : w8.cell? ⟨gq, i, none⟩ = some (.int .i64 x) := (by rw [hown8.cellAt i (by omega), flat_ints, List.getElem?_map, HX.out]; rfl); have k1 : w8.frozen? ⟨gq, i, none⟩ = false := hown8.frozenAt i; have HO8 := Lib.hid hown8; have HW8 := Lib.hid (bnext HWq.out hb8 HWq.out.size); obtain ⟨d0, d1⟩ := HD.out w8 HW8.out; clear hown8 hb8)
                go_meet
                have hst := HO8.out.stored i (.int .i64 n)
                have hfl : (A.set i n).flatMap intCells = (A.flatMap intCells).set i (.int .i64 n) := by rw [flat_ints, flat_ints, List.map_set]
                have hls : (A.set i n).length = A.length := List.length_set
                refine ⟨some ⟨gq, 0, none⟩, cq, rfl, by rw [hW, hls], Lib.hid ?_, Lib.hid (HW8.out.setCell (by have := HWq.out.size; simp; omega) _)⟩
                rw [hW]
                refine (Row.of_own (base := wq.heap.size) (e := 3) (n := A.length) (c := cq) intCells_len ?_ rfl).mono fun _ h => h.2
                rw [hfl, hls]
                exact hst.1
          · have h7 : av = gv := by rw [← HAV.out]; unfold addErr; rw [if_pos (by rw [HGV.out]; exact hg), HGV.out]
            have hW : Wl = [] := by rw [← HWL.out]; unfold addV; rw [HAV.out, h7, if_neg hg]
            have hvf : hv = false := by rw [← HHV.out]; unfold hasV; rw [HGV.out, if_neg hg]
            subst h7
            subst hW
            subst hvf
            have hcb : cb = false := by rw [HCb.out]; simp
            subst hcb
            have hgb : (av == 0) = false := by simp [hg]
            go_wp2_with fail
            go_quiet (fail)
            go_wp2_with fail
            go_meet
            exact ⟨none, 0, rfl, rfl, Lib.hid (Row.nil _ _ _ _ _), Lib.hid (bdrew HW7.out _)⟩
        case rest =>
          obtain ⟨adw, cpw, rfl, rfl, HAw, HW8⟩ := hcut
          obtain ⟨d0, d1⟩ := HD.out _ HW8.out
          go_wp2_with fail
          refine (HAdd.out _ HW8.out).mono ?_
          rintro e w9 ⟨adx, cpx, rfl, hx9, hbn⟩
          have HW9 := Lib.hid (bnext HW8.out hbn HW8.out.size)
          have HA9 := Lib.hid (HAw.out.next hbn)
          have HX9 := Lib.hid hx9
          clear hbn d0 d1 hx9
          go_wp2_with fail
          refine (HE.out av w9 HW9.out).mono ?_
          rintro e w10 ⟨rfl, hbn⟩
          have HW10 := Lib.hid (bnext HW9.out hbn HW9.out.size)
          have HSi := Lib.hid (same_ints adx adw cpx cpw Wl Wl w10 true (by simp) (by have := HLW.out; omega) (by have := HLW.out; omega) (HX9.out.next hbn) (HA9.out.next hbn))
          clear hbn HX9 HA9
          go_wp2_with fail
          refine HSi.out.mono ?_
          rintro e w11 ⟨rfl, hbn⟩
          have HW11 := Lib.hid (bnext HW10.out hbn HW10.out.size)
          clear hbn HSi
          go_upto_block 0 with fail
          go_cut [22, 23, 24] from 120 to 141 (fun t _ _ wx => t = .string ⟨(printE A).toArray⟩ ∧ Hid (Below w.heap.size w wx))
          case first =>
            go_wp2_with fail
            go_loopw [22, 23, 24] (fun t0 i0 _ wr => ∃ (k : Nat) (t : Str), k ≤ A.length ∧ i0 = .int .i64 k ∧ t0 = .string ⟨t.toArray⟩ ∧ t.length ≤ 10001 * k ∧ Hid (fv = 0 → t = Lib.join ((A.take k).map Lib.itoa) [46]) ∧ Hid (fv ≠ 0 → k = 0 ∧ t = []) ∧ Hid (Below w.heap.size w wr)) (fun _ i0 _ _ => A.length - (intOf i0).toNat)
            case atStart => exact ⟨0, [], Nat.zero_le _, rfl, rfl, by simp, Lib.hid (fun _ => by simp [Lib.join_nil]), Lib.hid (fun _ => ⟨rfl, rfl⟩), HW11⟩
            case round =>
              obtain ⟨k, t, hk, rfl, rfl, htl, HT0, HT1, HWr⟩ := hrel
              by_cases hf : fv = 0
              · have hf' := hf
                subst hf
                by_cases hlt : k < A.length
                · have h8 := vecErr_len HFV.out
                  obtain ⟨x, hx⟩ : ∃ x, A[k]? = some x := ⟨_, List.getElem?_eq_getElem hlt⟩
                  obtain ⟨hx0, hx1⟩ := vec_bound HFV.out hx
                  obtain ⟨u, rfl⟩ : ∃ u : Nat, x = u := ⟨x.toNat, by omega⟩
                  obtain ⟨b, off, rfl, -, c0⟩ := int_at (HA.out wr HWr.out) hx
                  have HR := Lib.hid (rdigits_is u wr (by omega))
                  have HS := Lib.hid (text_step hx)
                  have hdl := digits_le u
                  clear hx h8
                  by_cases hk0 : k = 0
                  · subst hk0
                    have ht0 : t = [] := by rw [HT0.out (by trivial)]; simp [Lib.join_nil]
                    subst ht0
                    rw [Nat.add_zero] at c0
                    go_wp2_with fail
                    refine HR.out.mono ?_
                    rintro e w12 ⟨rfl, rfl⟩
                    go_wp2_with fail
                    go_roundw
                    case rel =>
                      refine ⟨1, Lib.decDigits u, by omega, rfl, ?_, by omega, Lib.hid (fun _ => by rw [HS.out]; simp), Lib.hid (fun h => absurd rfl h), HWr⟩
                      have := bytes_append [] (Lib.decDigits u)
                      simpa using this
                    case measure => simp [intOf]; omega
                  · go_wp2_with fail
                    refine HR.out.mono ?_
                    rintro e w12 ⟨rfl, rfl⟩
                    go_wp2_with fail
                    go_roundw
                    case rel =>
                      refine ⟨k + 1, (t ++ [46]) ++ Lib.decDigits u, by omega, by go_num, by rw [← bytes_append, ← bytes_append], by simp only [List.length_append, List.length_singleton]; omega, Lib.hid (fun _ => ?_), Lib.hid (fun h => absurd rfl h), HWr⟩
                      rw [HS.out, if_neg hk0, HT0.out (by trivial)]
                    case measure => simp [intOf]; omega
                · go_wp2_with fail
                  go_meet
                  refine ⟨?_, HWr⟩
                  have hkA : k = A.length := by omega
                  have hpe : printE A = printV A := by unfold printE; rw [HFV.out, if_pos rfl]
                  rw [hpe, HT0.out (by trivial), hkA, List.take_length]; rfl
              · have hfb : (fv == 0) = false := by simp [hf]
                obtain ⟨rfl, rfl⟩ := HT1.out hf
                have hpe : printE A = [] := by unfold printE; rw [HFV.out, if_neg hf]
                by_cases hlt : 0 < A.length
                · go_wp2_with fail
                  go_meet
                  exact ⟨by rw [hpe], HWr⟩
                · go_wp2_with fail
                  go_meet
                  exact ⟨by rw [hpe], HWr⟩
          case rest =>
            obtain ⟨rfl, HW12⟩ := hcut
            go_wp2_with fail
            refine (HPr.out _ HW12.out).mono ?_
            rintro e w13 ⟨rfl, hbn⟩
            have HW13 := Lib.hid (bnext HW12.out hbn HW12.out.size)
            clear hbn
            go_wp2_with fail
            refine (HE.out fv w13 HW13.out).mono ?_
            rintro e w14 ⟨rfl, hbn⟩
            have HW14 := Lib.hid (bnext HW13.out hbn HW13.out.size)
            clear hbn
            go_upto_if 151 with fail
            go_cut [11] from 151 to 153 (fun f wx => f = .int .i64 bv ∧ wx = w14)
            case first =>
              by_cases hf : fv = 0
              · have hB2 : vecErr B = bv := by rw [← HBV.out]; unfold bothErr; rw [HFV.out, if_neg (by simp [hf])]
                have hrb := HRB.out w14 HW14.out
                rw [hB2] at hrb
                have HRb := Lib.hid hrb
                subst hf
                clear hB2 hrb
                go_wp2_with fail
                refine HRb.out.mono ?_
                rintro e w15 ⟨rfl, rfl⟩
                go_wp2_with fail
                go_meet
                exact ⟨rfl, rfl⟩
              · have hB2 : bv = fv := by rw [← HBV.out]; unfold bothErr; rw [HFV.out, if_pos hf]
                subst hB2
                go_wp2_with fail
                go_meet
                exact ⟨rfl, rfl⟩
            case rest =>
              obtain ⟨rfl, rfl⟩ := hcut
              go_upto_block 2 with fail
              go_cut [18, 27, 28, 29, 30] from 154 to 191 (fun l p q _ _ wx => ∃ ad cp, l = .slice ad (mergeV A B).length cp ∧ p = .bool (decide (bv = 0) && vless A B) ∧ q = .bool (decide (bv = 0) && vless B A) ∧ Hid (At wx ad (mergeV A B)) ∧ Hid (Below w.heap.size w wx))
              case first =>
                go_wp2_with fail
                have HTi := Lib.hid Tryz.stInts
                go_loopw [18, 27, 28, 29, 30] (fun l p0 q0 i0 _ wr => ∃ (k : Nat) (p q : Bool), k ≤ 8 ∧ i0 = .int .i64 k ∧ p0 = .bool p ∧ q0 = .bool q ∧ Hid (bv ≠ 0 → k = 0 ∧ p = false ∧ q = false ∧ l = .slice none 0 0) ∧ Hid (bv = 0 → vless (A.take k) (B.take k) = p ∧ vless (B.take k) (A.take k) = q) ∧ Hid (wr.ownsRow wc.heap.size 3 1 l k (((vmax A B).take k).flatMap intCells)) ∧ Hid (Below wc.heap.size wc wr)) (fun _ _ _ i0 _ _ => 8 - (intOf i0).toNat)
                case atStart => exact ⟨0, false, false, Nat.zero_le _, rfl, rfl, rfl, Lib.hid (fun _ => ⟨rfl, rfl, rfl, rfl⟩), Lib.hid (fun _ => by simp [vless]), Lib.hid (World.ownsRow_nil _ _ _ _), Lib.hid (Below.refl _ _)⟩
                case round =>
                  obtain ⟨k, p, q, hk, rfl, rfl, rfl, HN, HP, HR, HWr⟩ := hrel
                  have HWw := Lib.hid (bnext HW14.out HWr.out HW14.out.size)
                  by_cases hf : bv = 0
                  · subst hf
                    have HLA := Lib.hid (vecErr_len (bothErr_0 HBV.out).1)
                    have HLB := Lib.hid (vecErr_len (bothErr_0 HBV.out).2)
                    by_cases hlt : k < 8
                    · have hkA : k < A.length := by have := HLA.out; omega
                      have hkB : k < B.length := by have := HLB.out; omega
                      obtain ⟨x, hx⟩ : ∃ x, A[k]? = some x := ⟨_, List.getElem?_eq_getElem hkA⟩
                      obtain ⟨y, hy⟩ : ∃ y, B[k]? = some y := ⟨_, List.getElem?_eq_getElem hkB⟩
                      obtain ⟨b, off, rfl, -, c0⟩ := int_at (HA.out wr HWw.out) hx
                      obtain ⟨b', off', rfl, -, c0'⟩ := int_at (HB.out wr HWw.out) hy
                      have HV := Lib.hid (vless_step hx hy)
                      have HV' := Lib.hid (vless_step hy hx)
                      have HM := Lib.hid (vmax_snoc hx hy)
                      clear hx hy
                      by_cases hxy : x < y
                      · skip
                        have HMx := Lib.hid (show max x y = y by omega)
                        cases q
                        all_goals
                          go_wp2_with fail
                          go_quiet (fail)
                          have HOq := Lib.hid (own_below HR.out (bdrew (Below.refl wr.heap.size wr) nq))
                          have HWq := Lib.hid (bdrew HWr.out nq)
                          obtain ⟨wq, hwq⟩ : ∃ wq, wr.drewN nq = wq := ⟨_, rfl⟩
                          rw [hwq] at HWq HOq ⊢
                          clear hwq c0 c0'
                          go_wp2_with (at_builtin; refine wpList_push rfl (.tmp 188) (.tmp 190) _ rfl HTi.out _ rfl (by simp [Value.oneCell']) _ k 1 _ rfl rfl HOq.out (by omega) (by decide) HWq.out HWq.out.size ?_; intro v' w4 hown4 hb4 hsz4)
                          go_roundw
                          case rel =>
                            refine ⟨k + 1, _, _, by omega, by go_num, rfl, rfl, Lib.hid (fun h => (by first | exact absurd rfl h | exact h.elim | exact absurd trivial h | simp at h)), Lib.hid (fun _ => ?_), Lib.hid ?_, Lib.hid hb4⟩
                            · rw [HV.out, HV'.out, (HP.out (by trivial)).1, (HP.out (by trivial)).2]
                              simp [hxy] <;> (intro h; omega)
                            · rw [HM.out, HMx.out, List.flatMap_append]
                              exact hown4
                          case measure => simp [intOf]; omega
                      · have HMx := Lib.hid (show max x y = x by omega)
                        cases q
                        all_goals
                          go_wp2_with fail
                          go_quiet (fail)
                          have HOq := Lib.hid (own_below HR.out (bdrew (Below.refl wr.heap.size wr) nq))
                          have HWq := Lib.hid (bdrew HWr.out nq)
                          obtain ⟨wq, hwq⟩ : ∃ wq, wr.drewN nq = wq := ⟨_, rfl⟩
                          rw [hwq] at HWq HOq ⊢
                          clear hwq c0 c0'
                          go_wp2_with (at_builtin; refine wpList_push rfl (.tmp 188) (.tmp 190) _ rfl HTi.out _ rfl (by simp [Value.oneCell']) _ k 1 _ rfl rfl HOq.out (by omega) (by decide) HWq.out HWq.out.size ?_; intro v' w4 hown4 hb4 hsz4)
                          go_roundw
                          case rel =>
                            refine ⟨k + 1, _, _, by omega, by go_num, rfl, rfl, Lib.hid (fun h => (by first | exact absurd rfl h | exact h.elim | exact absurd trivial h | simp at h)), Lib.hid (fun _ => ?_), Lib.hid ?_, Lib.hid hb4⟩
                            · rw [HV.out, HV'.out, (HP.out (by trivial)).1, (HP.out (by trivial)).2]
                              have h2 : ¬ x < y := by omega
                              simp [h2]
                            · rw [HM.out, HMx.out, List.flatMap_append]
                              exact hown4
                          case measure => simp [intOf]; omega
                    · have hk8 : k = 8 := by omega
                      subst hk8
                      have hp : vless A B = p := by have := (HP.out rfl).1; rwa [List.take_of_length_le (by have := HLA.out; omega), List.take_of_length_le (by have := HLB.out; omega)] at this
                      have hq : vless B A = q := by have := (HP.out rfl).2; rwa [List.take_of_length_le (by have := HLB.out; omega), List.take_of_length_le (by have := HLA.out; omega)] at this
                      have HPp := Lib.hid hp
                      have HQq := Lib.hid hq
                      clear hp hq
                      go_wp2_with fail
                      go_meet
                      have hm : mergeV A B = vmax A B := if_pos HBV.out
                      have hml : (vmax A B).length = 8 := by have := HLA.out; have := HLB.out; simp [vmax]; omega
                      have hown := HR.out
                      rw [List.take_of_length_le (by omega)] at hown
                      obtain ⟨g, cp, rfl, hg1, hg2⟩ := own_form hown (by omega)
                      refine ⟨some ⟨g, 0, none⟩, cp, by rw [hm, hml], by rw [HPp.out]; simp, by rw [HQq.out]; simp, Lib.hid ?_, HWw⟩
                      rw [hm]
                      rw [← hml] at hown
                      exact (Row.of_own intCells_len hown rfl).mono fun _ h => h.2
                  · have hfb : (bv == 0) = false := by simp [hf]
                    obtain ⟨rfl, rfl, rfl, rfl⟩ := HN.out hf
                    go_wp2_with fail
                    go_meet
                    have hm : mergeV A B = [] := by unfold mergeV; rw [HBV.out, if_neg hf]
                    exact ⟨none, 0, by rw [hm]; rfl, by simp [hf], by simp [hf], Lib.hid (by rw [hm]; exact Row.nil _ _ _ _ _), HWw⟩
              case rest =>
                obtain ⟨adm, cpm, rfl, rfl, rfl, HAm, HW15⟩ := hcut
                obtain ⟨pb, hpb⟩ : ∃ x, (decide (bv = 0) && vless A B) = x := ⟨_, rfl⟩
                obtain ⟨qb, hqb⟩ : ∃ x, (decide (bv = 0) && vless B A) = x := ⟨_, rfl⟩
                rw [hpb, hqb]
                have HPB := Lib.hid hpb
                have HQB := Lib.hid hqb
                clear hpb hqb
                go_wp2_with fail
                refine (HMe.out _ HW15.out).mono ?_
                rintro e w16 ⟨adz, cpz, rfl, hz, hbn⟩
                have HW16 := Lib.hid (bnext HW15.out hbn HW15.out.size)
                have HA16 := Lib.hid (HAm.out.next hbn)
                have HZ16 : Hid (At w16 adz (mergeV A B)) := Lib.hid hz
                clear hbn hz
                go_wp2_with fail
                refine (HE.out bv w16 HW16.out).mono ?_
                rintro e w17 ⟨rfl, hbn⟩
                have HW17 := Lib.hid (bnext HW16.out hbn HW16.out.size)
                have HSi := Lib.hid (same_ints adz adm cpz cpm (mergeV A B) (mergeV A B) w17 true (by simp) (by have := mergeV_len A B; omega) (by have := mergeV_len A B; omega) (HZ16.out.next hbn) (HA16.out.next hbn))
                clear hbn HZ16 HA16
                go_wp2_with fail
                refine HSi.out.mono ?_
                rintro e w18 ⟨rfl, hbn⟩
                have HW18 := Lib.hid (bnext HW17.out hbn HW17.out.size)
                clear hbn HSi
                have HCI : Hid (cmpVI A B = if pb && !qb then -1 else if qb && !pb then 1 else 0) := by
                  refine Lib.hid ?_
                  rw [← HPB.out, ← HQB.out]
                  unfold cmpVI cmpInt
                  rw [HBV.out]
                  by_cases h : bv = 0
                  · subst h; cases vless A B <;> cases vless B A <;> rfl
                  · simp [h]
                have HCB : Hid (cmpVB A B = (decide (bv = 0) && !(pb && qb))) := by
                  refine Lib.hid ?_
                  rw [← HPB.out, ← HQB.out]
                  unfold cmpVB cmpIs
                  rw [HBV.out]
                  by_cases h : bv = 0
                  · subst h; cases vless A B <;> cases vless B A <;> rfl
                  · simp [h]
                go_upto_region 50 with fail
                cases pb <;> cases qb
                all_goals
                  have hci := HCI.out
                  have hcbt := HCB.out
                  simp only [Bool.not_true, Bool.not_false, Bool.and_true, Bool.and_false, if_true, if_false, Bool.false_eq_true] at hci hcbt
                  rw [hci, hcbt] at HCm
                  clear hci hcbt
                  go_wp2_with fail
                  refine (HCm.out _ HW18.out).mono ?_
                  rintro e w19 ⟨rfl, hbn⟩
                  have HW19 := Lib.hid (bnext HW18.out hbn HW18.out.size)
                  clear hbn
                  go_wp2_with fail
                  refine (HE.out bv w19 HW19.out).mono ?_
                  rintro e w20 ⟨rfl, hbn⟩
                  have HW20 := Lib.hid (bnext HW19.out hbn HW19.out.size)
                  clear hbn
                  go_wp2_with fail
                  refine (HRe.out _ HW20.out).mono ?_
                  rintro e w21 ⟨ads, cps, rfl, hs1, hbn⟩
                  have HW21 := Lib.hid (bnext HW20.out hbn HW20.out.size)
                  have HS21 : Hid (At w21 ads (parseV s)) := Lib.hid hs1
                  clear hbn hs1
                  go_wp2_with fail
                  refine (HPa.out _ HW21.out).mono ?_
                  rintro e w22 ⟨adt, cpt, rfl, ht1, hbn⟩
                  have HW22 := Lib.hid (bnext HW21.out hbn HW21.out.size)
                  have HS22 : Hid (At w22 ads (parseV s)) := Lib.hid (HS21.out.next hbn)
                  have HT22 : Hid (At w22 adt (parseV s)) := Lib.hid ht1
                  clear hbn ht1 HS21
                  go_wp2_with fail
                  refine (HE.out (parseErr s) w22 HW22.out).mono ?_
                  rintro e w23 ⟨rfl, hbn⟩
                  have HW23 := Lib.hid (bnext HW22.out hbn HW22.out.size)
                  have HSj := Lib.hid (same_ints adt ads cpt cps (parseV s) (parseV s) w23 true (by simp) (by have := HLP.out; omega) (by have := HLP.out; omega) (HT22.out.next hbn) (HS22.out.next hbn))
                  clear hbn HS22 HT22
                  go_wp2_with fail
                  refine HSj.out.mono ?_
                  rintro e w24 ⟨rfl, hbn⟩
                  have HW24 := Lib.hid (bnext HW23.out hbn HW23.out.size)
                  clear hbn HSj
                  go_upto_region 60 with fail
                  by_cases hf : bv = 0
                  · subst hf
                    go_wp2_with fail
                    go_ret
                    exact ⟨rfl, bnext HW0.out HW24.out HW0.out.size⟩
                  · have hfb : (bv == 0) = false := by simp [hf]
                    have hfd : decide (bv = 0) = false := by simp [hf]
                    go_wp2_with fail
                    go_ret
                    exact ⟨rfl, bnext HW0.out HW24.out HW0.out.size⟩
end Go.Proofs.YtlbnafnbjgageaaGreatDoor
