/- leaflaw1.DotMerges returns true: one of its walks. -/
import Derived.Test.YtlbnafnbjgageaaDoorDotWalk0
namespace Go.Proofs.YtlbnafnbjgageaaDoor
open Go.RowKit
set_option maxRecDepth 100000 in
set_option maxHeartbeats 8000000 in
theorem walk4 (ada adb adc : Option Addr) (ca cb cc : Nat) (A B C : List Int) (s : Str) (w : World) (hs : s.length ≤ 1048576) (hT : TextWorld w)
    (ha : At w ada A) (hb : At w adb B) (hc : At w adc C) (hA : A.length ≤ 1000000000000000) (hB : B.length ≤ 1000000000000000) (hC : C.length ≤ 1000000000000000) (hp : parseErr s = 0) (hv : vecErr A = 0) (hn : bothErr A B ≠ 0) :
    Calls Tryd.prog 3 #[.slice ada A.length ca, .slice adb B.length cb, .slice adc C.length cc, .string ⟨s.toArray⟩] w fun e w' => e = .returned (.bool true) ∧ Below w.heap.size w w' := by
  have HT : Hid (∀ W, Below w.heap.size w W → TextWorld W) := fun W hW => hT.below hW
  have HA : Hid (∀ W, Below w.heap.size w W → At W ada A) := fun W hW => ha.next hW
  have HB : Hid (∀ W, Below w.heap.size w W → At W adb B) := fun W hW => hb.next hW
  have HC : Hid (∀ W, Below w.heap.size w W → At W adc C) := fun W hW => hc.next hW
  have hA8 := vecErr_len hv
  have HP := Lib.hid (print_parse hp)
  have HQ := Lib.hid (fun W hW => parse_good s W (hT.below hW) (by omega) hp)
  have HPa := Lib.hid (fun W (hW : Below w.heap.size w W) => print_ok ada ca A W (hT.below hW) hv (ha.next hW))
  have HQa := Lib.hid (fun W (hW : Below w.heap.size w W) => parse_good (printV A) W (hT.below hW) (by have := print_len hv; omega) (parse_print hv).1)
  rw [(parse_print hv).2] at HQa
  have HM1 := Lib.hid (fun W (hW : Below w.heap.size w W) => merge_bad ada adb ca cb A B W _ rfl hn hA hB (ha.next hW) (hb.next hW))
  have HM2 := Lib.hid (fun W (hW : Below w.heap.size w W) => merge_any adb ada cb ca B A W hB hA (hb.next hW) (ha.next hW))
  have HM3 := Lib.hid (fun W (hW : Below w.heap.size w W) => merge_any none adc 0 cc [] C W (by simp) hC (Row.nil W (fun _ => True) 1 intCells none) (hc.next hW))
  rw [List.length_nil] at HM3
  have HM4 := Lib.hid (fun W (hW : Below w.heap.size w W) => merge_any adb adc cb cc B C W hB hC (hb.next hW) (hc.next hW))
  have HM5 := Lib.hid (fun W (hW : Below w.heap.size w W) ad cp (hu : At W ad (mergeV B C)) => merge_any ada ad ca cp A (mergeV B C) W hA (by have := mergeV_len B C; omega) (ha.next hW) hu)
  have HSame := Lib.hid (fun W ad ad' cp cp' (X Y : List Int) (e : X = Y) (h8 : X.length = 8) (h : At W ad X) (h' : At W ad' Y) => same8 ad ad' cp cp' X Y W e h8 h h')
  have H8hA8 := Lib.hid hA8
  rw [hA8]
  rw [hA8] at HPa
  rw [hA8] at HM1
  rw [hA8] at HM2
  rw [hA8] at HM5
  clear hT ha hb hc hp hv hn hA8
  go_enter Tryd.func3, Tryd.ntmps3
  go_wp2_with fail
  generalize hW1 : World.alloc (World.alloc w _) _ = W1
  have hb1 : Below w.heap.size w W1 := by rw [← hW1]; exact ((Below.refl _ _).alloc (Nat.le_refl _) _).alloc (by simp) _
  have hx1 : At W1 (some ⟨w.heap.size, 0, none⟩) factOne := by
    rw [← hW1]; exact row_block factOne (blk_alloc (blk_new w _) _)
  have hy1 : At W1 (some ⟨w.heap.size + 1, 0, none⟩) factTwo := by
    rw [← hW1]
    have := blk_new (w.alloc (.cells (factOne.map (Value.int .i64)).toArray 3)) (.cells (factTwo.map (Value.int .i64)).toArray 3)
    rw [show (w.alloc (.cells (factOne.map (Value.int .i64)).toArray 3)).heap.size = w.heap.size + 1 by simp] at this
    exact row_block factTwo this
  refine (fact_is W1 _ _ hx1 hy1).mono ?_
  rintro e w1 ⟨g, cp, rfl, f0, f1, hb2⟩
  have hbw := bnext hb1 hb2 hb1.size
  have HW := Lib.hid hbw
  clear hbw hb1 hb2 hx1 hy1 hW1
  go_wp2_with fail
  refine (HQ.out w1 HW.out).mono ?_
  rintro e w2 ⟨gx, cx, rfl, hx, hbn⟩
  have HW2 := Lib.hid (bnext HW.out hbn HW.out.size)
  clear hbn
  have HX := Lib.hid hx
  clear hx
  go_wp2_with fail
  refine (print8 (some ⟨gx, 0, none⟩) cx _ w2 (HT.out w2 HW2.out) HP.out.1 HX.out).mono ?_
  rintro e w3 ⟨rfl, hbn⟩
  have HW3 := Lib.hid (bnext HW2.out hbn HW2.out.size)
  clear hbn
  rw [HP.out.2]
  go_wp2_with fail
  refine (HPa.out w3 HW3.out).mono ?_
  rintro e w4 ⟨rfl, hbn⟩
  have HW4 := Lib.hid (bnext HW3.out hbn HW3.out.size)
  clear hbn
  go_wp2_with fail
  refine (HQa.out w4 HW4.out).mono ?_
  rintro e w5 ⟨gy, cy, rfl, hy, hbn⟩
  have HW5 := Lib.hid (bnext HW4.out hbn HW4.out.size)
  clear hbn
  go_wp2_with fail
  refine (HSame.out w5 _ _ cy ca A A rfl H8hA8.out hy (HA.out w5 HW5.out)).mono ?_
  rintro e w6 ⟨rfl, hbn⟩
  have HW6 := Lib.hid (bnext HW5.out hbn HW5.out.size)
  clear hbn
  go_wp2_with fail
  refine (HM1.out w6 HW6.out).mono ?_
  rintro e w7 ⟨rfl, rfl⟩
  go_wp2_with fail
  refine (HM2.out w6 HW6.out).mono ?_
  rintro e w7 ⟨ad2, cp2, rfl, -, hbn⟩
  have HW7 := Lib.hid (bnext HW6.out hbn HW6.out.size)
  clear hbn
  go_wp2_with fail
  refine (HM3.out w7 HW7.out).mono ?_
  rintro e w8 ⟨ad3, cp3, rfl, -, hbn⟩
  have HW8 := Lib.hid (bnext HW7.out hbn HW7.out.size)
  clear hbn
  go_wp2_with fail
  refine (HM4.out w8 HW8.out).mono ?_
  rintro e w9 ⟨ad4, cp4, rfl, hu, hbn⟩
  have HW9 := Lib.hid (bnext HW8.out hbn HW8.out.size)
  clear hbn
  go_wp2_with fail
  refine (HM5.out w9 HW9.out ad4 cp4 hu).mono ?_
  rintro e w10 ⟨ad5, cp5, rfl, -, hbn⟩
  have HW10 := Lib.hid (bnext HW9.out hbn HW9.out.size)
  clear hbn
  go_wp2_with fail
  go_ret
  exact ⟨rfl, HW10.out⟩
end Go.Proofs.YtlbnafnbjgageaaDoor
