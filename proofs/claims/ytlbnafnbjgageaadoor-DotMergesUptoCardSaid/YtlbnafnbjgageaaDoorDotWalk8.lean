/- leaflaw1.DotMerges returns true: one of its walks. -/
import Derived.Test.YtlbnafnbjgageaaDoorDotWalk0
namespace Go.Proofs.YtlbnafnbjgageaaDoor
open Go.RowKit
set_option maxRecDepth 100000 in
set_option maxHeartbeats 8000000 in
theorem walk8 (ada adb adc : Option Addr) (ca cb cc : Nat) (A B C : List Int) (s : Str) (w : World) (hs : s.length ≤ 1048576) (hT : TextWorld w)
    (ha : At w ada A) (hb : At w adb B) (hc : At w adc C) (hA : A.length ≤ 1000000000000000) (hB : B.length ≤ 1000000000000000) (hC : C.length ≤ 1000000000000000) (hp : parseErr s = 0) (hn : bothErr A B = 0) (hm : vecErr C = 0) :
    Calls Tryd.prog 3 #[.slice ada A.length ca, .slice adb B.length cb, .slice adc C.length cc, .string ⟨s.toArray⟩] w fun e w' => e = .returned (.bool true) ∧ Below w.heap.size w w' := by
  have HT : Hid (∀ W, Below w.heap.size w W → TextWorld W) := fun W hW => hT.below hW
  have HA : Hid (∀ W, Below w.heap.size w W → At W ada A) := fun W hW => ha.next hW
  have HB : Hid (∀ W, Below w.heap.size w W → At W adb B) := fun W hW => hb.next hW
  have HC : Hid (∀ W, Below w.heap.size w W → At W adc C) := fun W hW => hc.next hW
  have hv := (bothErr_0 hn).1
  have hvb := (bothErr_0 hn).2
  have hA8 := vecErr_len hv
  have hB8 := vecErr_len hvb
  have hC8 := vecErr_len hm
  have HP := Lib.hid (print_parse hp)
  have HQ := Lib.hid (fun W hW => parse_good s W (hT.below hW) (by omega) hp)
  have HPa := Lib.hid (fun W (hW : Below w.heap.size w W) => print_ok ada ca A W (hT.below hW) hv (ha.next hW))
  have HQa := Lib.hid (fun W (hW : Below w.heap.size w W) => parse_good (printV A) W (hT.below hW) (by have := print_len hv; omega) (parse_print hv).1)
  rw [(parse_print hv).2] at HQa
  have HM1 := Lib.hid (fun W (hW : Below w.heap.size w W) => merge8 ada adb ca cb A B W hn (ha.next hW) (hb.next hW))
  have HM2 := Lib.hid (fun W (hW : Below w.heap.size w W) => merge8 adb ada cb ca B A W (bothErr_comm hn) (hb.next hW) (ha.next hW))
  have hvx := vmax_ok hv hvb
  have hvu := vmax_ok hvb hm
  have HM3 := Lib.hid (fun W (hW : Below w.heap.size w W) g cp (hx : At W (some ⟨g, 0, none⟩) (vmax A B)) => merge8 (some ⟨g, 0, none⟩) adc cp cc (vmax A B) C W (both_of hvx hm) hx (hc.next hW))
  have HM4 := Lib.hid (fun W (hW : Below w.heap.size w W) => merge8 adb adc cb cc B C W (both_of hvb hm) (hb.next hW) (hc.next hW))
  have HM5 := Lib.hid (fun W (hW : Below w.heap.size w W) g cp (hu : At W (some ⟨g, 0, none⟩) (vmax B C)) => merge8 ada (some ⟨g, 0, none⟩) ca cp A (vmax B C) W (both_of hv hvu) (ha.next hW) hu)
  have HC1 := Lib.hid (fun W (hW : Below w.heap.size w W) g cp (hx : At W (some ⟨g, 0, none⟩) (vmax A B)) => cmp8 ada (some ⟨g, 0, none⟩) ca cp A (vmax A B) W (both_of hv hvx) (ha.next hW) hx)
  have HC2 := Lib.hid (fun W (hW : Below w.heap.size w W) => cmp8 adb ada cb ca B A W (both_of hvb hv) (hb.next hW) (ha.next hW))
  have HC3 := Lib.hid (fun W (hW : Below w.heap.size w W) => cmp8 ada adb ca cb A B W (both_of hv hvb) (ha.next hW) (hb.next hW))
  have hcm := cmp_max A B
  have hct := cmp_turn A B
  have hcr := cmp_range A B
  obtain ⟨k1, hk1⟩ : ∃ k, cmpInt A (vmax A B) = k := ⟨_, rfl⟩
  obtain ⟨n1, hn1⟩ : ∃ k, cmpInt A B = k := ⟨_, rfl⟩
  obtain ⟨b1, hb1⟩ : ∃ k, cmpIs A B = k := ⟨_, rfl⟩
  rw [hcm.1, hk1] at HC1
  rw [hct.1, hct.2, hn1, hb1] at HC2
  rw [hn1, hb1] at HC3
  have hk1 := hk1 ▸ hcm.2
  rw [hn1] at hcr
  clear hcm hct hn1 hb1 hvx hvu
  have HSame := Lib.hid (fun W ad ad' cp cp' (X Y : List Int) (e : X = Y) (h8 : X.length = 8) (h : At W ad X) (h' : At W ad' Y) => same8 ad ad' cp cp' X Y W e h8 h h')
  have H8hA8 := Lib.hid hA8
  have H8hB8 := Lib.hid hB8
  have H8hC8 := Lib.hid hC8
  rw [hA8]
  rw [hB8]
  rw [hC8]
  rw [hA8] at HPa
  clear hT ha hb hc hp hv hn hm hvb hA8 hB8 hC8
  go_enter Tryd.func3, Tryd.ntmps3
  go_wp2_with fail
  generalize hW1 : World.alloc (World.alloc w _) _ = W1
  have hb1 : Below w.heap.size w W1 := by rw [← hW1]; exact ((Below.refl _ _).alloc (Nat.le_refl _) _).alloc (by simp) _
  have hx1 : At W1 (some ⟨w.heap.size, 0, none⟩) factOne := by
    rw [← hW1]; exact row_block factOne (blk_alloc (blk_new w _) _)
  have hy1 : At W1 (some ⟨w.heap.size + 1, 0, none⟩) factTwo := by
    rw [← hW1]
    have := blk_new (w.alloc (.cells (factOne.map (Value.int .i64)).toArray 3)) (.cells (factTwo.map (Value.int .i64)).toArray 3)
    rw [show (w.alloc (.cells (factOne.map (Value.int .i64)).toArray 3)).heap.size = w.heap.size + 1 by simp] at this
    exact row_block factTwo this
  refine (fact_is W1 _ _ hx1 hy1).mono ?_
  rintro e w1 ⟨g, cp, rfl, f0, f1, hb2⟩
  have hbw := bnext hb1 hb2 hb1.size
  have HW := Lib.hid hbw
  clear hbw hb1 hb2 hx1 hy1 hW1
  go_wp2_with fail
  refine (HQ.out w1 HW.out).mono ?_
  rintro e w2 ⟨gx, cx, rfl, hx, hbn⟩
  have HW2 := Lib.hid (bnext HW.out hbn HW.out.size)
  clear hbn
  have HX := Lib.hid hx
  clear hx
  go_wp2_with fail
  refine (print8 (some ⟨gx, 0, none⟩) cx _ w2 (HT.out w2 HW2.out) HP.out.1 HX.out).mono ?_
  rintro e w3 ⟨rfl, hbn⟩
  have HW3 := Lib.hid (bnext HW2.out hbn HW2.out.size)
  clear hbn
  rw [HP.out.2]
  go_wp2_with fail
  refine (HPa.out w3 HW3.out).mono ?_
  rintro e w4 ⟨rfl, hbn⟩
  have HW4 := Lib.hid (bnext HW3.out hbn HW3.out.size)
  clear hbn
  go_wp2_with fail
  refine (HQa.out w4 HW4.out).mono ?_
  rintro e w5 ⟨gy, cy, rfl, hy, hbn⟩
  have HW5 := Lib.hid (bnext HW4.out hbn HW4.out.size)
  clear hbn
  go_wp2_with fail
  refine (HSame.out w5 _ _ cy ca A A rfl H8hA8.out hy (HA.out w5 HW5.out)).mono ?_
  rintro e w6 ⟨rfl, hbn⟩
  have HW6 := Lib.hid (bnext HW5.out hbn HW5.out.size)
  clear hbn
  go_wp2_with fail
  refine (HM1.out w6 HW6.out).mono ?_
  rintro e w7 ⟨g1, cp1, rfl, hx, hbn⟩
  have HW7 := Lib.hid (bnext HW6.out hbn HW6.out.size)
  clear hbn
  have HX1 := Lib.hid hx
  clear hx
  go_wp2_with fail
  refine (HM2.out w7 HW7.out).mono ?_
  rintro e w8 ⟨g2, cp2, rfl, hy, hbn⟩
  have HW8 := Lib.hid (bnext HW7.out hbn HW7.out.size)
  replace HX1 := Lib.hid (HX1.out.next hbn)
  clear hbn
  have HY1 := Lib.hid hy
  clear hy
  go_wp2_with fail
  refine (HM3.out w8 HW8.out g1 cp1 HX1.out).mono ?_
  rintro e w9 ⟨g3, cp3, rfl, hz, hbn⟩
  have HW9 := Lib.hid (bnext HW8.out hbn HW8.out.size)
  replace HX1 := Lib.hid (HX1.out.next hbn)
  replace HY1 := Lib.hid (HY1.out.next hbn)
  clear hbn
  have HZ1 := Lib.hid hz
  clear hz
  go_wp2_with fail
  refine (HM4.out w9 HW9.out).mono ?_
  rintro e w10 ⟨g4, cp4, rfl, hu, hbn⟩
  have HW10 := Lib.hid (bnext HW9.out hbn HW9.out.size)
  replace HX1 := Lib.hid (HX1.out.next hbn)
  replace HY1 := Lib.hid (HY1.out.next hbn)
  replace HZ1 := Lib.hid (HZ1.out.next hbn)
  clear hbn
  have HU1 := Lib.hid hu
  clear hu
  go_wp2_with fail
  refine (HM5.out w10 HW10.out g4 cp4 HU1.out).mono ?_
  rintro e w11 ⟨g5, cp5, rfl, hv, hbn⟩
  have HW11 := Lib.hid (bnext HW10.out hbn HW10.out.size)
  replace HX1 := Lib.hid (HX1.out.next hbn)
  replace HY1 := Lib.hid (HY1.out.next hbn)
  replace HZ1 := Lib.hid (HZ1.out.next hbn)
  clear hbn
  have HV1 := Lib.hid hv
  clear hv
  go_wp2_with fail
  refine (HSame.out w11 _ _ cp1 cp2 _ _ (vmax_comm A B) (vmax8 H8hA8.out H8hB8.out) HX1.out HY1.out).mono ?_
  rintro e w12 ⟨rfl, hbn⟩
  have HW12 := Lib.hid (bnext HW11.out hbn HW11.out.size)
  replace HX1 := Lib.hid (HX1.out.next hbn)
  replace HZ1 := Lib.hid (HZ1.out.next hbn)
  replace HV1 := Lib.hid (HV1.out.next hbn)
  clear hbn
  go_wp2_with fail
  refine (HSame.out w12 _ _ cp3 cp5 _ _ (vmax_assoc A B C) (vmax8 (vmax8 H8hA8.out H8hB8.out) H8hC8.out) HZ1.out HV1.out).mono ?_
  rintro e w13 ⟨rfl, hbn⟩
  have HW13 := Lib.hid (bnext HW12.out hbn HW12.out.size)
  replace HX1 := Lib.hid (HX1.out.next hbn)
  clear hbn
  go_wp2_with fail
  refine (HC1.out w13 HW13.out g1 cp1 HX1.out).mono ?_
  rintro e w14 ⟨rfl, hbn⟩
  have HW14 := Lib.hid (bnext HW13.out hbn HW13.out.size)
  clear hbn
  go_wp2_with fail
  refine (HC2.out w14 HW14.out).mono ?_
  rintro e w15 ⟨rfl, hbn⟩
  have HW15 := Lib.hid (bnext HW14.out hbn HW14.out.size)
  clear hbn
  go_wp2_with fail
  refine (HC3.out w15 HW15.out).mono ?_
  rintro e w16 ⟨rfl, hbn⟩
  have HW16 := Lib.hid (bnext HW15.out hbn HW15.out.size)
  clear hbn
  rcases hcr with rfl | rfl | rfl <;> cases b1
  all_goals
    go_wp2_with fail
    go_ret
    exact ⟨rfl, HW16.out⟩
end Go.Proofs.YtlbnafnbjgageaaDoor
