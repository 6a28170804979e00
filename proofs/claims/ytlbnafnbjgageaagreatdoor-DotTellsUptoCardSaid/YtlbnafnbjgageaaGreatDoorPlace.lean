/- Package place, by its contracts. -/
import Derived.Test.YtlbnafnbjgageaaGreatDoorFacts
namespace Go.Proofs.YtlbnafnbjgageaaGreatDoor
open Go.RowKit
theorem author_is (n : Int) (w : World) (r : Bool) (hr : (decide (1 ≤ n) && decide (n ≤ 8)) = r) : Calls Tryz.prog 119 #[.int .i64 n] w fun e w' => e = .returned (.bool r) ∧ w = w' := by
  subst hr
  by_cases h : 1 ≤ n <;> by_cases k : n ≤ 8
  all_goals
    go_enter Tryz.func119, Tryz.ntmps119
    go_wp2
    go_ret
    exact ⟨by simp [h, k], rfl⟩
theorem az_get (s : ByteArray) (k : Nat) (hk : k < s.size) (h : s.data.toList.all isAZ = true) : 97 ≤ (s.data[k].toNat : Int) ∧ (s.data[k].toNat : Int) ≤ 122 := by
  have := List.all_eq_true.1 h s.data[k] (by simp)
  simp [isAZ, UInt8.le_iff_toNat_le] at this
  omega
theorem az_not (s : ByteArray) (k : Nat) (hk : k < s.size) (h : (s.data[k].toNat : Int) < 97 ∨ 122 < (s.data[k].toNat : Int)) : s.data.toList.all isAZ = false := by
  rw [← Bool.not_eq_true]
  intro hh
  have := az_get s k hk hh
  omega
theorem az_all (s : ByteArray) (k : Nat) (hk : s.size ≤ k) (h : ∀ j, j < k → ∀ hj : j < s.size, isAZ s.data[j] = true) : s.data.toList.all isAZ = true := by
  rw [List.all_eq_true]
  intro c hc
  obtain ⟨j, hj, rfl⟩ := List.getElem_of_mem hc
  have hj' : j < s.size := by simpa using hj
  simpa using h j (by omega) hj'
theorem placeErr_end (s : ByteArray) (h12 : ¬ 12 < s.size) (hall : s.data.toList.all isAZ = true) :
    placeErr s.data.toList = if h : 2 ≤ s.size then (if s[s.size - 1].toNat < 98 ∨ 105 < s[s.size - 1].toNat ∨ s[s.size - 2].toNat = 97 then 2 else 0) else 2 := by
  unfold placeErr
  have e : s.data.toList.length = s.size := by simp
  rw [e, if_neg h12, hall]
  simp only [Bool.not_true, Bool.false_eq_true, if_false]
  by_cases h : 2 ≤ s.size
  · rw [dif_pos h]
    have e1 : s.data.toList.getD (s.size - 1) 0 = s[s.size - 1] := by
      rw [List.getD_eq_getElem?_getD, List.getElem?_eq_getElem (by simp; omega)]; simp; rfl
    have e2 : s.data.toList.getD (s.size - 2) 0 = s[s.size - 2] := by
      rw [List.getD_eq_getElem?_getD, List.getElem?_eq_getElem (by simp; omega)]; simp; rfl
    rw [e1, e2]
    have : ¬ s.size < 2 := by omega
    simp only [this, false_or]
  · rw [dif_neg h, if_pos (.inl (by omega))]
set_option maxRecDepth 100000 in
set_option maxHeartbeats 1000000 in
theorem place_check (s : ByteArray) (w : World) (hw : s.size ≤ 9223372036854775807) :
    Calls Tryz.prog 198 #[.string s] w fun e w' => e = .returned (errV (placeErr s.data.toList)) ∧ Below w.heap.size w w' := by
  by_cases h12 : 12 < s.size
  · have hfin : errV (placeErr s.data.toList) = .iface 160 (.int .i64 4) := by
      have : placeErr s.data.toList = 4 := by unfold placeErr; rw [if_pos (by simpa using h12)]
      rw [this]; rfl
    have HF := Lib.hid hfin
    clear hfin
    go_enter Tryz.func198, Tryz.ntmps198
    go_wp2
    go_ret
    exact ⟨ret_eq HF.out, Below.refl _ _⟩
  · obtain ⟨c, w1, hcv, hb1, hlt1, hc1⟩ := bytes_of (P := Tryz.prog) w 9 163 5 s Tryz.underlying9 Tryz.underlying163 Tryz.underlying5
    have HC := Lib.hid hc1
    have HB := Lib.hid hb1
    clear hc1 hb1 hlt1
    go_enter Tryz.func198, Tryz.ntmps198
    go_wp2
    go_loop [4, 13] (fun _ i => ∃ k : Nat, k ≤ s.size ∧ i = .int .i64 k ∧ ∀ j, j < k → ∀ hj : j < s.size, isAZ s.data[j] = true) (fun _ i => s.size - (intOf i).toNat)
    case atStart => exact ⟨0, Nat.zero_le _, rfl, fun j hj => absurd hj (by omega)⟩
    case round =>
      obtain ⟨k, hk, rfl, hall⟩ := hrel
      have HA := Lib.hid hall
      clear hall
      by_cases hlt : k < s.size
      · have hlt : k < s.size := hlt
        have hcell := HC.out k hlt
        by_cases hlo : (s.data[k].toNat : Int) < 97
        · have hfin : errV (placeErr s.data.toList) = .iface 160 (.int .i64 2) := by
            have : placeErr s.data.toList = 2 := by
              unfold placeErr; rw [if_neg (by simpa using h12), az_not s k hlt (.inl hlo)]; rfl
            rw [this]; rfl
          have HF := Lib.hid hfin
          clear hfin
          go_wp2
          go_ret
          exact ⟨ret_eq HF.out, HB.out⟩
        · by_cases hhi : 122 < (s.data[k].toNat : Int)
          · have hfin : errV (placeErr s.data.toList) = .iface 160 (.int .i64 2) := by
              have : placeErr s.data.toList = 2 := by
                unfold placeErr; rw [if_neg (by simpa using h12), az_not s k hlt (.inr hhi)]; rfl
              rw [this]; rfl
            have HF := Lib.hid hfin
            clear hfin
            go_wp2
            go_ret
            exact ⟨ret_eq HF.out, HB.out⟩
          · go_wp2
            go_round
            case rel =>
              refine ⟨k + 1, by omega, by go_num, fun j hj hjd => ?_⟩
              by_cases e : j = k
              · subst e; simp [isAZ, UInt8.le_iff_toNat_le]; omega
              · exact HA.out j (by omega) hjd
            case measure => simp [intOf]; omega
      · have hall : s.data.toList.all isAZ = true := az_all s k (by omega) HA.out
        have hp := placeErr_end s h12 hall
        by_cases h2 : 2 ≤ s.size
        · rw [dif_pos h2] at hp
          by_cases ha : (s[s.size - 1].toNat : Int) < 98
          · rw [if_pos (.inl (by omega))] at hp
            have HF := Lib.hid hp
            clear hp hall
            go_wp2
            go_ret
            exact ⟨ret_eq (errV_at HF.out), HB.out⟩
          · by_cases hb : 105 < (s[s.size - 1].toNat : Int)
            · rw [if_pos (.inr (.inl (by omega)))] at hp
              have HF := Lib.hid hp
              clear hp hall
              go_wp2
              go_ret
              exact ⟨ret_eq (errV_at HF.out), HB.out⟩
            · by_cases hc : (s[s.size - 2].toNat : Int) = 97
              · rw [if_pos (.inr (.inr (by omega)))] at hp
                have HF := Lib.hid hp
                have hc' : ((s[s.size - 2].toNat : Int) == 97) = true := by simpa using hc
                clear hp hall hc
                go_wp2
                go_ret
                exact ⟨ret_eq (errV_at HF.out), HB.out⟩
              · rw [if_neg (by omega)] at hp
                have HF := Lib.hid hp
                have hc' : ((s[s.size - 2].toNat : Int) == 97) = false := by simpa using hc
                clear hp hall hc
                go_wp2
                go_ret
                exact ⟨ret_eq (errV_at HF.out), HB.out⟩
        · rw [dif_neg h2] at hp
          have HF := Lib.hid hp
          clear hp hall
          go_wp2
          go_ret
          exact ⟨ret_eq (errV_at HF.out), HB.out⟩
theorem num_step (l : Str) (k : Nat) : num l (k + 1) = num l k * 26 + (match l[k]? with | some c => dig c | none => 0) := by
  induction k generalizing l with
  | zero => cases l <;> simp [num]
  | succ k ih =>
    cases l with
    | nil => simp [num]
    | cons c l =>
      rw [num_cons, num_cons, ih]
      simp only [List.getElem?_cons_succ]
      rw [Nat.pow_succ, Nat.add_mul, Nat.mul_assoc, Nat.add_assoc]
theorem up_is (n : Int) (x : Nat) (hn : n = x) (hx : x ≤ 4000000000000000) (w : World) : Calls Tryz.prog 313 #[.int .i64 n] w fun e w' => e = .returned (.int .i64 (upTo x : Nat)) ∧ w = w' := by
  subst hn
  go_enter Tryz.func313, Tryz.ntmps313
  go_wp2
  go_ret
  exact ⟨ret_eq (by unfold upTo; congr 1; omega), rfl⟩
theorem num_small (s : Str) (k : Nat) (hk : k ≤ 10) (h : s.all isAZ = true) : num s k < 141167095653377 := by
  have := num_lt k s h
  have h2 : 26 ^ k ≤ 26 ^ 10 := Nat.pow_le_pow_right (by omega) hk
  omega
set_option maxRecDepth 100000 in
set_option maxHeartbeats 1000000 in
theorem number_is (s : ByteArray) (n : Int) (m : Nat) (hn : n = m) (hm : m ≤ 11) (w : World) (_hw : s.size ≤ 9223372036854775807) (hall : s.data.toList.all isAZ = true) :
    Calls Tryz.prog 312 #[.string s, .int .i64 n] w fun e w' => e = .returned (.int .i64 (num s.data.toList m : Nat)) ∧ w = w' := by
  subst hn
  have HA := Lib.hid hall
  clear hall
  go_enter Tryz.func312, Tryz.ntmps312
  go_wp2
  go_loop [5, 8] (fun o i => ∃ k x : Nat, k ≤ m ∧ i = .int .i64 k ∧ o = .int .i64 x ∧ Hid (x = num s.data.toList k)) (fun _ i => m - (intOf i).toNat)
  case atStart => exact ⟨0, 0, Nat.zero_le _, rfl, rfl, by simp [Hid, num]⟩
  case round =>
    obtain ⟨k, x, hk, rfl, rfl, HX⟩ := hrel
    by_cases hlt : k < m
    · have hx : x < 141167095653377 := by rw [HX.out]; exact num_small _ _ (by omega) HA.out
      by_cases hs : k < s.size
      · have ha := az_get s k hs HA.out
        have hst : num s.data.toList (k + 1) = x * 26 + (s.data[k].toNat - 97) := by
          rw [num_step, ← HX.out, List.getElem?_eq_getElem (by simpa using hs)]; simp [dig]
        have HST := Lib.hid hst
        clear hst
        go_wp2
        go_round
        case rel => exact ⟨k + 1, x * 26 + (s.data[k].toNat - 97), by omega, by go_num, by have : s[k].toNat = s.data[k].toNat := rfl; congr 1; omega, HST.out.symm⟩
        case measure => simp [intOf]; omega
      · have hst : num s.data.toList (k + 1) = x * 26 := by
          rw [num_step, ← HX.out, List.getElem?_eq_none (by simpa using hs)]; rfl
        have HST := Lib.hid hst
        clear hst
        go_wp2
        go_round
        case rel => exact ⟨k + 1, x * 26, by omega, by go_num, by go_num, HST.out.symm⟩
        case measure => simp [intOf]; omega
    · have he : k = m := by omega
      have hfin : Value.int .i64 (num s.data.toList m : Nat) = .int .i64 (x : Nat) := by rw [HX.out, he]
      have HF := Lib.hid hfin
      clear he hfin
      go_wp2
      go_ret
      exact ⟨ret_eq HF.out, rfl⟩
theorem letters_get : ∀ (m x j : Nat), j < m → (letters x m)[j]? = some (UInt8.ofNat (97 + x / 26 ^ (m - 1 - j) % 26))
  | 0, _, _, h => absurd h (by omega)
  | m + 1, x, j, h => by
    by_cases e : j = m
    · subst e
      rw [letters, List.getElem?_append_right (by rw [letters_len]; exact Nat.le_refl _), letters_len]; simp
    · rw [letters, List.getElem?_append_left (by rw [letters_len]; omega), letters_get m (x / 26) j (by omega), Nat.div_div_eq_div_mul]
      have : m + 1 - 1 - j = (m - 1 - j) + 1 := by omega
      rw [this, Nat.pow_succ, Nat.mul_comm]
set_option maxRecDepth 100000 in
set_option maxHeartbeats 1000000 in
theorem letters_is (xi ni : Int) (x0 m : Nat) (hxi : xi = x0) (hni : ni = m) (hx : x0 ≤ 4000000000000000) (hm : m ≤ 11) (w : World) :
    Calls Tryz.prog 314 #[.int .i64 xi, .int .i64 ni] w fun e w' => e = .returned (.string ⟨(letters x0 m).toArray⟩) ∧ Below w.heap.size w w' := by
  subst hxi hni
  have hmk := run_make_row' (P := Tryz.prog) 163 5 (.int .u8 0) 1 Tryz.underlying163 Tryz.stBytes.info rfl .i64 .i64 m (by omega) (by omega)
  have hH : (w.alloc (.cells (madeCells #[.int .u8 0] m) 5)).heap[w.heap.size]? = some (.cells (madeCells #[.int .u8 0] m) 5 (0, 0)) := heap_alloc_new w _
  have hZ : (madeCells #[Value.int .u8 0] m).size = m := by simp [madeCells]
  have HH := Lib.hid hH
  have HZ := Lib.hid hZ
  clear hH hZ
  go_enter Tryz.func314, Tryz.ntmps314
  go_wp2
  go_loopw [0, 6] (fun xv iv wr => ∃ (i : Int) (x : Nat) (C : Array Value), -1 ≤ i ∧ i < m ∧ iv = .int .i64 i ∧ xv = .int .i64 x ∧ Hid (x = x0 / 26 ^ (m - 1 - i).toNat) ∧ x ≤ 4000000000000000 ∧
      Hid (wr.heap[w.heap.size]? = some (.cells C 5 (0, 0)) ∧ C.size = m ∧ ∀ (j : Nat) c, i < (j : Int) → (letters x0 m)[j]? = some c → C[j]? = some (byteCell c)) ∧ Below w.heap.size w wr) (fun _ iv _ => (intOf iv + 1).toNat)
  case atStart =>
    refine ⟨(m : Int) - 1, x0, _, by omega, by omega, rfl, rfl, by unfold Hid; simp, hx, ⟨HH.out, HZ.out, fun j c hj hc => ?_⟩, (Below.refl _ _).alloc (Nat.le_refl _) _⟩
    have := (List.getElem?_eq_some_iff.1 hc).1
    rw [letters_len] at this
    omega
  case round =>
    obtain ⟨i, x, C, hi1, hi2, rfl, rfl, HX, hxb, HC, hb⟩ := hrel
    by_cases h0 : 0 ≤ i
    · obtain ⟨q, rfl⟩ := Int.eq_ofNat_of_zero_le h0
      have hlen := HC.out.2.1
      obtain ⟨old, hold⟩ : ∃ old, C[q]? = some old := ⟨_, Array.getElem?_eq_getElem (by omega)⟩
      have hcell : wr.cell? ⟨w.heap.size, q, none⟩ = some old := by rw [blk_cell HC.out.1]; exact hold
      have hfr : wr.frozen? ⟨w.heap.size, q, none⟩ = false := blk_free HC.out.1 q
      have hdv : x / 26 = x0 / 26 ^ (m - 1 - (q - 1 : Int)).toNat := by
        rw [HX.out, Nat.div_div_eq_div_mul, ← Nat.pow_succ]
        congr 2; omega
      have HL := Lib.hid hlen
      have HD := Lib.hid hdv
      clear hlen hold hdv
      go_wp2
      go_roundw
      case rel =>
        refine ⟨(q : Int) - 1, x / 26, _, by omega, by omega, rfl, by go_num, HD.out, by omega, ⟨blk_set HC.out.1 q _, by simp [HL.out], fun j c hj hc => ?_⟩, hb.setCell (Nat.le_refl _) _⟩
        by_cases e : j = q
        · subst e
          have hg := letters_get m x0 j (by omega)
          rw [hg] at hc
          cases hc
          rw [Array.getElem?_setIfInBounds_self_of_lt (by rw [HL.out]; omega)]
          congr 1
          unfold byteCell
          have hx' : x0 / 26 ^ (m - 1 - j) = x := by rw [HX.out]; congr 2; omega
          rw [hx']
          congr 1
          simp [UInt8.toNat_ofNat']
          omega
        · rw [Array.getElem?_setIfInBounds_ne (by omega)]
          exact HC.out.2.2 j c (by omega) hc
      case measure => simp [intOf]
    · have hC : C = ((letters x0 m).map byteCell).toArray := by
        apply Array.ext
        · simp [HC.out.2.1, letters_len]
        · intro j h1 _
          have hj : j < (letters x0 m).length := by rw [letters_len, ← HC.out.2.1]; exact h1
          have := HC.out.2.2 j _ (by omega) (List.getElem?_eq_getElem hj)
          rw [Array.getElem?_eq_getElem h1] at this
          simpa using this
      have hown : wr.ownsRow w.heap.size 5 1 (.slice (some ⟨w.heap.size, 0, none⟩) m m) (letters x0 m).length ((letters x0 m).map byteCell) := by
        refine ⟨by simp, .inr ⟨w.heap.size, m, C, by rw [letters_len], Nat.le_refl _, HC.out.1, by rw [letters_len]; exact Nat.le_refl _, by unfold maxLen; omega, by rw [HC.out.2.1]; omega, ?_⟩⟩
        rw [hC]; simp only [Nat.mul_one]; exact List.take_of_length_le (by simp)
      have hcv := run_convert_own (P := Tryz.prog) 163 9 5 Tryz.underlying163 Tryz.underlying5 Tryz.underlying9 hown
      clear hown hC
      go_wp2
      go_ret
      exact ⟨rfl, hb⟩

def orEmpty : Option Str → Str
  | some m => m
  | none => []
theorem size_of_str (l : Str) : (⟨l.toArray⟩ : ByteArray).size = l.length := by simp [ByteArray.size]
theorem pow_11 (k : Nat) (h : k ≤ 10) : 26 ^ k ≤ 141167095653376 := Nat.le_trans (Nat.pow_le_pow_right (by omega) h) (by decide)
theorem findSome_skip (f : Nat → Option Str) : ∀ (n s k : Nat), (∀ j, s ≤ j → j < s + k → f j = none) → k ≤ n → (List.range' s n).findSome? f = (List.range' (s + k) (n - k)).findSome? f
  | 0, s, k, _, hk => by have : k = 0 := by omega
                         subst this; rfl
  | n + 1, s, 0, _, _ => by simp
  | n + 1, s, k + 1, h, hk => by
    rw [List.range'_succ, List.findSome?_cons, h s (Nat.le_refl _) (by omega)]
    have := findSome_skip f n (s + 1) k (fun j a b => h j (by omega) (by omega)) (by omega)
    simp only [this]
    have e1 : s + 1 + k = s + (k + 1) := by omega
    have e2 : n + 1 - (k + 1) = n - k := by omega
    rw [e1, e2]
theorem quarter_hit {a b m : Str} {k : Nat} (h1 : 1 ≤ k) (h2 : k ≤ 11) (h : ∀ j, 1 ≤ j → j < k → pickAt a b j = none) (hp : pickAt a b k = some m) : quarter a b = some m := by
  unfold quarter
  rw [findSome_skip (pickAt a b) 11 1 (k - 1) (fun j x y => h j x (by omega)) (by omega)]
  have e : 11 - (k - 1) = (11 - k) + 1 := by omega
  rw [e, List.range'_succ, List.findSome?_cons]
  have e2 : 1 + (k - 1) = k := by omega
  rw [e2, hp]
theorem quarter_none {a b : Str} (h : ∀ j, 1 ≤ j → j < 12 → pickAt a b j = none) : quarter a b = none := by
  unfold quarter
  rw [List.findSome?_eq_none_iff]
  intro j hj
  simp at hj
  exact h j (by omega) (by omega)
theorem number_to (s : ByteArray) (n : Int) (m r : Nat) (hn : n = m) (hm : m ≤ 11) (w : World) (hw : s.size ≤ 12) (hall : s.data.toList.all isAZ = true) (hr : r = num s.data.toList m) :
    Calls Tryz.prog 312 #[.string s, .int .i64 n] w fun e w' => e = .returned (.int .i64 (r : Nat)) ∧ w = w' := by
  subst hr; exact number_is s n m hn hm w (by omega) hall
theorem up_to (n : Int) (x r : Nat) (hn : n = x) (hx : x ≤ 4000000000000000) (hr : r = upTo x) (w : World) : Calls Tryz.prog 313 #[.int .i64 n] w fun e w' => e = .returned (.int .i64 (r : Nat)) ∧ w = w' := by
  subst hr; exact up_is n x hn hx w
theorem letters_to (xi ni : Int) (x0 m : Nat) (s : ByteArray) (hxi : xi = x0) (hni : ni = m) (hx : x0 ≤ 4000000000000000) (hm : m ≤ 11) (hs : s = ⟨(letters x0 m).toArray⟩) (w : World) :
    Calls Tryz.prog 314 #[.int .i64 xi, .int .i64 ni] w fun e w' => e = .returned (.string s) ∧ Below w.heap.size w w' := by
  subst hs; exact letters_is xi ni x0 m hxi hni hx hm w
set_option maxRecDepth 100000 in
set_option maxHeartbeats 2000000 in
theorem quarter_is (a b : ByteArray) (w : World) (ha' : a.size ≤ 12) (hb' : b.size ≤ 12) (ha : a.data.toList.all isAZ = true) (hb : b.data.toList.all isAZ = true) :
    Calls Tryz.prog 268 #[.string a, .string b] w fun e w' => e = .returned (.string ⟨(orEmpty (quarter a.data.toList b.data.toList)).toArray⟩) ∧ Below w.heap.size w w' := by
  have HA := Lib.hid ha
  have HB := Lib.hid hb
  clear ha hb
  obtain ⟨be, hbe⟩ : ∃ be : Bool, b.toList.isEmpty = be := ⟨_, rfl⟩
  have hbe2 : (b.data.toList = []) ↔ be = true := by
    rw [← hbe, ByteArray.toList_eq]; cases b.data.toList <;> simp
  have HE := Lib.hid hbe2
  clear hbe2
  go_enter Tryz.func268, Tryz.ntmps268
  go_wp2
  go_loop [5, 6] (fun z i => ∃ k s : Nat, 1 ≤ k ∧ k ≤ 12 ∧ i = .int .i64 k ∧ z = .int .i64 s ∧ Hid (s = 26 ^ (k - 1)) ∧ Hid (∀ j, 1 ≤ j → j < k → pickAt a.data.toList b.data.toList j = none)) (fun _ i => 12 - (intOf i).toNat)
  case atStart => exact ⟨1, 1, by omega, by omega, rfl, rfl, rfl, fun j _ _ => by omega⟩
  case round =>
    obtain ⟨k, s, hk1, hk2, rfl, rfl, HS, HP⟩ := hrel
    by_cases hlt : k < 12
    · have hs1 : s ≤ 141167095653376 := by rw [HS.out]; exact pow_11 _ (by omega)
      have hs0 : 1 ≤ s := by rw [HS.out]; exact Nat.pow_pos (by omega)
      obtain ⟨lo, hlo⟩ : ∃ lo, lo = num a.data.toList k := ⟨_, rfl⟩
      have hlb : lo < 3670344486987776 := by rw [hlo]; exact Nat.lt_of_lt_of_le (num_lt k _ HA.out) (Nat.le_trans (Nat.pow_le_pow_right (n := 26) (by omega) (by omega : k ≤ 11)) (by decide))
      cases be
      · obtain ⟨o, ho⟩ : ∃ o, o = num b.data.toList k := ⟨_, rfl⟩
        have hov : over b.data.toList k = o := by unfold over; rw [if_neg (by rw [HE.out]; simp), ho]
        have hob : o < 3670344486987776 := by rw [ho]; exact Nat.lt_of_lt_of_le (num_lt k _ HB.out) (Nat.le_trans (Nat.pow_le_pow_right (n := 26) (by omega) (by omega : k ≤ 11)) (by decide))
        have HLO := Lib.hid hlo
        have HO := Lib.hid ho
        have HOV := Lib.hid hov
        clear hlo ho hov
        by_cases h1 : o ≤ lo
        · go_wp2_with fail
          refine (number_to a _ k lo rfl (by omega) _ ha' HA.out HLO.out).mono ?_
          rintro e w' ⟨rfl, rfl⟩
          go_wp2_with fail
          refine (number_to b _ k o rfl (by omega) _ hb' HB.out HO.out).mono ?_
          rintro e w' ⟨rfl, rfl⟩
          go_wp2_with fail
          go_round
          case rel =>
            refine ⟨k + 1, s * 26, by omega, by omega, by go_num, by go_num, ?_, fun j hj1 hj2 => ?_⟩
            · show s * 26 = 26 ^ (k + 1 - 1)
              rw [HS.out, ← Nat.pow_succ]; congr 1; omega
            · by_cases e : j = k
              · subst e; unfold pickAt; rw [HOV.out, ← HLO.out, if_pos h1]
              · exact HP.out j hj1 (by omega)
          case measure => simp [intOf]; omega
        · obtain ⟨ul, hul⟩ : ∃ u, u = upTo lo := ⟨_, rfl⟩
          obtain ⟨uo, huo⟩ : ∃ u, u = upTo (o - 1) := ⟨_, rfl⟩
          have hul1 : ul ≤ lo := by rw [hul]; unfold upTo; omega
          have huo1 : uo ≤ o := by rw [huo]; unfold upTo; omega
          have HUL := Lib.hid hul
          have HUO := Lib.hid huo
          clear hul huo
          by_cases h2 : uo ≤ ul
          · go_wp2_with fail
            refine (number_to a _ k lo rfl (by omega) _ ha' HA.out HLO.out).mono ?_
            rintro e w' ⟨rfl, rfl⟩
            go_wp2_with fail
            refine (number_to b _ k o rfl (by omega) _ hb' HB.out HO.out).mono ?_
            rintro e w' ⟨rfl, rfl⟩
            go_wp2_with fail
            refine (up_to _ lo ul rfl (by omega) HUL.out _).mono ?_
            rintro e w' ⟨rfl, rfl⟩
            go_wp2_with fail
            refine (up_to _ (o - 1) uo (by omega) (by omega) HUO.out _).mono ?_
            rintro e w' ⟨rfl, rfl⟩
            go_wp2_with fail
            go_round
            case rel =>
              refine ⟨k + 1, s * 26, by omega, by omega, by go_num, by go_num, ?_, fun j hj1 hj2 => ?_⟩
              · show s * 26 = 26 ^ (k + 1 - 1)
                rw [HS.out, ← Nat.pow_succ]; congr 1; omega
              · by_cases e : j = k
                · subst e; unfold pickAt; rw [HOV.out, ← HLO.out, if_neg h1, ← HUO.out, ← HUL.out, if_pos h2]
                · exact HP.out j hj1 (by omega)
            case measure => simp [intOf]; omega
          · have hq : quarter a.data.toList b.data.toList = some (letters (kth (ul + (uo - ul - 1) / 4)) k) := by
              refine quarter_hit hk1 (by omega) HP.out ?_
              unfold pickAt; rw [HOV.out, ← HLO.out, if_neg h1, ← HUO.out, ← HUL.out, if_neg h2]
            have HQ := Lib.hid hq
            clear hq
            go_wp2_with fail
            refine (number_to a _ k lo rfl (by omega) _ ha' HA.out HLO.out).mono ?_
            rintro e w' ⟨rfl, rfl⟩
            go_wp2_with fail
            refine (number_to b _ k o rfl (by omega) _ hb' HB.out HO.out).mono ?_
            rintro e w' ⟨rfl, rfl⟩
            go_wp2_with fail
            refine (up_to _ lo ul rfl (by omega) HUL.out _).mono ?_
            rintro e w' ⟨rfl, rfl⟩
            go_wp2_with fail
            refine (up_to _ (o - 1) uo (by omega) (by omega) HUO.out _).mono ?_
            rintro e w' ⟨rfl, rfl⟩
            go_wp2_with fail
            refine (letters_to _ _ (kth (ul + (uo - ul - 1) / 4)) k _ (by unfold kth; omega) rfl (by unfold kth; omega) (by omega) rfl _).mono ?_
            rintro e w1 ⟨rfl, hb1⟩
            go_wp2_with fail
            go_ret
            exact ⟨ret_eq (by rw [HQ.out]; rfl), hb1⟩
      · obtain ⟨o, ho⟩ : ∃ o, o = s * 26 := ⟨_, rfl⟩
        have hov : over b.data.toList k = o := by
          unfold over
          rw [if_pos (HE.out.2 rfl), ho, HS.out, ← Nat.pow_succ]
          congr 1; omega
        have hob : o ≤ 3670344486987776 := by omega
        have hoi : ((o : Nat) : Int) = (s : Int) * 26 := by omega
        have HLO := Lib.hid hlo
        have HOV := Lib.hid hov
        have HOI := Lib.hid hoi
        have HO := Lib.hid ho
        clear hlo ho hov hoi
        by_cases h1 : s * 26 ≤ lo
        · go_wp2_with fail
          refine (number_to a _ k lo rfl (by omega) _ ha' HA.out HLO.out).mono ?_
          rintro e w' ⟨rfl, rfl⟩
          go_wp2_with fail
          go_round
          case rel =>
            refine ⟨k + 1, s * 26, by omega, by omega, by go_num, by go_num, ?_, fun j hj1 hj2 => ?_⟩
            · show s * 26 = 26 ^ (k + 1 - 1)
              rw [HS.out, ← Nat.pow_succ]; congr 1; omega
            · by_cases e : j = k
              · subst e; unfold pickAt; rw [HOV.out, HO.out, ← HLO.out, if_pos h1]
              · exact HP.out j hj1 (by omega)
          case measure => simp [intOf]; omega
        · obtain ⟨ul, hul⟩ : ∃ u, u = upTo lo := ⟨_, rfl⟩
          obtain ⟨uo, huo⟩ : ∃ u, u = upTo (s * 26 - 1) := ⟨_, rfl⟩
          have hul1 : ul ≤ lo := by rw [hul]; unfold upTo; omega
          have huo1 : uo ≤ s * 26 := by rw [huo]; unfold upTo; omega
          have HUL := Lib.hid hul
          have HUO := Lib.hid huo
          clear hul huo
          by_cases h2 : uo ≤ ul
          · go_wp2_with fail
            refine (number_to a _ k lo rfl (by omega) _ ha' HA.out HLO.out).mono ?_
            rintro e w' ⟨rfl, rfl⟩
            go_wp2_with fail
            refine (up_to _ lo ul rfl (by omega) HUL.out _).mono ?_
            rintro e w' ⟨rfl, rfl⟩
            go_wp2_with fail
            refine (up_to _ (s * 26 - 1) uo (by omega) (by omega) HUO.out _).mono ?_
            rintro e w' ⟨rfl, rfl⟩
            go_wp2_with fail
            go_round
            case rel =>
              refine ⟨k + 1, s * 26, by omega, by omega, by go_num, by go_num, ?_, fun j hj1 hj2 => ?_⟩
              · show s * 26 = 26 ^ (k + 1 - 1)
                rw [HS.out, ← Nat.pow_succ]; congr 1; omega
              · by_cases e : j = k
                · subst e; unfold pickAt; rw [HOV.out, HO.out, ← HLO.out, if_neg h1, ← HUO.out, ← HUL.out, if_pos h2]
                · exact HP.out j hj1 (by omega)
            case measure => simp [intOf]; omega
          · have hq : quarter a.data.toList b.data.toList = some (letters (kth (ul + (uo - ul - 1) / 4)) k) := by
              refine quarter_hit hk1 (by omega) HP.out ?_
              unfold pickAt; rw [HOV.out, HO.out, ← HLO.out, if_neg h1, ← HUO.out, ← HUL.out, if_neg h2]
            have HQ := Lib.hid hq
            clear hq
            go_wp2_with fail
            refine (number_to a _ k lo rfl (by omega) _ ha' HA.out HLO.out).mono ?_
            rintro e w' ⟨rfl, rfl⟩
            go_wp2_with fail
            refine (up_to _ lo ul rfl (by omega) HUL.out _).mono ?_
            rintro e w' ⟨rfl, rfl⟩
            go_wp2_with fail
            refine (up_to _ (s * 26 - 1) uo (by omega) (by omega) HUO.out _).mono ?_
            rintro e w' ⟨rfl, rfl⟩
            go_wp2_with fail
            refine (letters_to _ _ (kth (ul + (uo - ul - 1) / 4)) k _ (by unfold kth; omega) rfl (by unfold kth; omega) (by omega) rfl _).mono ?_
            rintro e w1 ⟨rfl, hb1⟩
            go_wp2_with fail
            go_ret
            exact ⟨ret_eq (by rw [HQ.out]; rfl), hb1⟩
    · have hk : k = 12 := by omega
      have hq : quarter a.data.toList b.data.toList = none := quarter_none fun j h1 h2 => HP.out j h1 (by omega)
      have HQ := Lib.hid hq
      clear hq hk
      go_wp2
      go_ret
      exact ⟨ret_eq (by rw [HQ.out]; rfl), Below.refl _ _⟩
end Go.Proofs.YtlbnafnbjgageaaGreatDoor
